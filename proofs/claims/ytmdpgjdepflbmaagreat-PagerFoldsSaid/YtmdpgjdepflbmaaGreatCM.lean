/-
  Opening and beginning in either mode, where there is no journal and no log.
-/
import Derived.Test.YtmdpgjdepflbmaaGreatCB
import Derived.Test.YtmdpgjdepflbmaaGreatCK
import Derived.Test.YtmdpgjdepflbmaaGreatCWZeros
namespace Go.Proofs.YtmdpgjdepflbmaaGreat
open Go.RowKit Go.Maps Go.Proofs.YtmdpgjdepflbmaaGreatW.PrintWords Go.Proofs.YtmdpgjdepflbmaaGreatW.PrintLast Go.Proofs.YtmdpgjdepflbmaaGreatW.PrintMore
open Go.Proofs.YtmdpgjdepflbmaaGreat.PPagerFolds
set_option linter.unusedVariables false
set_option linter.unusedSimpArgs false

set_option maxRecDepth 100000 in
set_option maxHeartbeats 1000000 in
/-- no journal, no log, in log mode -/
theorem committed_log0 {w : World} {X : PG} {M : DM} {okp okd : Nat → Prop} (hP : PgAt w X okp) (h : DiskAt w X.d M okd) (hmode : X.mode = 2) (ho : M.off = false)
    (hJ : M.fs (nm sJ) = none) (hLg : M.fs (nm sL) = none) (hlen : (baseB M).length ≤ 2097152) (hmod : (baseB M).length % 512 = 0) :
    Calls Tryz.prog 50 #[dp X.p] w fun e w' => ∃ v, e = .returned (.tuple #[v, .int .i64 0]) ∧ U8.R 5 w' w.heap.size (fun k => w.heap.size ≤ k) v (baseB M) ∧ Below w.heap.size w w' := by
  obtain ⟨bo, vw, vm, hP⟩ := hP
  have c0 := hP.cell 0
  have c1 := hP.cell 1
  rw [hmode] at c1
  have hlt := hP.lt
  obtain ⟨p, hp⟩ : ∃ p, p = X.p := ⟨_, rfl⟩
  rw [← hp] at c0 c1 hlt ⊢
  have HU := Aside0.mk (undo_none h c0 ho hJ)
  have HM := Aside0.mk (And.intro h (And.intro ho (And.intro hLg (And.intro hlen hmod))))
  have HC0 := Aside0.mk c0
  clear hP hp h ho hJ hLg hmode
  unfold baseB at hlen hmod ⊢
  cases hx : M.fs (nm sB) with
  | none =>
    clear hlen hmod
    simp only
    have HX := Aside0.mk hx
    clear hx
    go_enter Tryz.func50, Tryz.ntmps50
    go_wp2_with (first
      | (go_at_call 68; refine (HU.out).mono ?_; rintro e w' ⟨rfl, n0, rfl⟩
         obtain ⟨w1, hw1⟩ : ∃ w1, w1 = w.drewN n0 := ⟨_, rfl⟩
         have hb1' : Below w.heap.size w w1 := by rw [hw1]; exact pw_below_drewN (Below.refl _ _) n0
         have d1 : w1.cell? ⟨p, 1, none⟩ = some (.int .i64 2) := (hb1'.cell (p := ⟨p, 1, none⟩) hlt).trans c1
         rw [← hw1]
         have HA := Aside0.mk (all_none (HM.out.1.below hb1') ((hb1'.cell (p := ⟨p, 0, none⟩) hlt).trans HC0.out) good_B HM.out.2.1 HX.out)
         have HB := Aside0.mk (fun n => blocks_none (w := w1.drewN n) ((HM.out.1.below hb1').drewN n) ((hb1'.cell (p := ⟨p, 0, none⟩) hlt).trans HC0.out) HM.out.2.1 HM.out.2.2.1)
         have HB1 := Aside0.mk hb1'
         clear hb1' hw1)
      | (go_at_call 86; refine (HA.out).mono ?_; rintro e w' ⟨rfl, n2, rfl⟩)
      | (go_at_call 87; refine (HB.out _).mono ?_; rintro e w' ⟨rfl, n3, rfl⟩)
      | (at_range; refine wpList_range_own _ rfl _ 110 rfl 3 48 (int_keyed Tryz.underlying3) Tryz.underlying110 sliE w1.heap.size 0 (.map []) rfl (World.ownsMap_made _ _ _ _) ?_; intro w0 hrg0 hg0 hs0))
    (try go_frame)
    refine wp_loop_rounds 1 ?_
    rw [rounds_succ]
    go_wp2_with (at_next; refine wpList_next_ranges _ rfl _ rfl 3 (int_keyed Tryz.underlying3) sliE (fun x : Value => x) (fun x : Value => x) (fun key kl _ => ⟨key, rfl⟩) (fun v y _ => ⟨v, rfl⟩) _ _ 0 (.map []) _ _ rfl hrg0 ?_ ?_)
    · intro _ _
      go_wp2
      go_ret2
      have hb := HB1.out
      refine ⟨_, rfl, Kd.R_nil _ _ _ _ _, ?_⟩
      have h3 : Below w.heap.size w ((w1.drewN (n2 + n3)).alloc (.map #[] 0)) := (pw_below_drewN hb _).alloc hb.size _
      exact h3.grown hg0 h3.size (fun k hk => by cases hk)
    · intro x c kl a b w' cnt' _ hlk
      cases hlk
  | some f =>
    rw [hx] at hlen hmod
    simp only at hlen hmod ⊢
    obtain ⟨n, hn⟩ : ∃ n, n = f.2.length := ⟨_, rfl⟩
    rw [← hn] at hlen hmod
    have q1 : ((n : Int) % 512 != 0) = false := by simp; omega
    have q1' : (Int.tmod (n : Int) 512 != 0) = false := by rw [Int.tmod_eq_emod_of_nonneg (by omega)]; exact q1
    have q2 : decide ((2097152 : Int) < (n : Int)) = false := by simp; omega
    have HX := Aside0.mk (And.intro hx (And.intro hn hlen))
    clear hx hmod hn hlen
    go_enter Tryz.func50, Tryz.ntmps50
    go_wp2_with (first
      | (go_at_call 68; refine (HU.out).mono ?_; rintro e w' ⟨rfl, n0, rfl⟩
         obtain ⟨w1, hw1⟩ : ∃ w1, w1 = w.drewN n0 := ⟨_, rfl⟩
         have hb1' : Below w.heap.size w w1 := by rw [hw1]; exact pw_below_drewN (Below.refl _ _) n0
         have d1 : w1.cell? ⟨p, 1, none⟩ = some (.int .i64 2) := (hb1'.cell (p := ⟨p, 1, none⟩) hlt).trans c1
         rw [← hw1]
         have HA := Aside0.mk (all_some (HM.out.1.below hb1') ((hb1'.cell (p := ⟨p, 0, none⟩) hlt).trans HC0.out) good_B HM.out.2.1 HX.out.1 (by rw [← HX.out.2.1]; have := HX.out.2.2; omega))
         have HB1 := Aside0.mk hb1'
         clear hb1' hw1)
      | (go_at_call 86; refine (HA.out).mono ?_; rintro e w2 ⟨v, rfl, hv, hb2⟩
         have hb2' : Below w.heap.size w w2 := HB1.out.trans (hb2.mono HB1.out.size)
         have HV := Aside0.mk (And.intro hv hb2')
         obtain ⟨A3, c3, hv3⟩ := Kd.R_slice hv
         rw [← HX.out.2.1] at hv3
         subst hv3
         have HB := Aside0.mk (blocks_none (w := w2) (HM.out.1.below hb2') ((hb2'.cell (p := ⟨p, 0, none⟩) hlt).trans HC0.out) HM.out.2.1 HM.out.2.2.1)
         clear hv hb2 hb2')
      | (go_at_call 87; refine (HB.out).mono ?_; rintro e w' ⟨rfl, n3, rfl⟩)
      | (at_range; refine wpList_range_own _ rfl _ 110 rfl 3 48 (int_keyed Tryz.underlying3) Tryz.underlying110 sliE w2.heap.size 0 (.map []) rfl (World.ownsMap_made _ _ _ _) ?_; intro w0 hrg0 hg0 hs0))
    (try go_frame)
    refine wp_loop_rounds 1 ?_
    rw [rounds_succ]
    go_wp2_with (at_next; refine wpList_next_ranges _ rfl _ rfl 3 (int_keyed Tryz.underlying3) sliE (fun x : Value => x) (fun x : Value => x) (fun key kl _ => ⟨key, rfl⟩) (fun v y _ => ⟨v, rfl⟩) _ _ 0 (.map []) _ _ rfl hrg0 ?_ ?_)
    · intro _ _
      go_wp2
      go_ret2
      obtain ⟨hv, hb⟩ := HV.out
      have h3 : Below w.heap.size w ((w2.drewN n3).alloc (.map #[] 0)) := (pw_below_drewN hb _).alloc hb.size _
      have hv3 : U8.R 5 ((w2.drewN n3).alloc (.map #[] 0)) w1.heap.size (fun k => w1.heap.size ≤ k) (.slice A3 n c3) f.2 := Kd.R_alloc (Kd.R_drewN hv n3) _
      refine ⟨_, rfl, Kd.R_lower (Kd.R_mono (Kd.R_below hv3 (below_of_grown hg0)) (fun k hk => Nat.le_trans HB1.out.size hk)) HB1.out.size, h3.grown hg0 h3.size (fun k hk => by cases hk)⟩
    · intro x c kl a b w' cnt' _ hlk
      cases hlk
/-- in either mode -/
theorem committed_any {w : World} {X : PG} {M : DM} {okp okd : Nat → Prop} (hP : PgAt w X okp) (h : DiskAt w X.d M okd) (hmode : X.mode = 1 ∨ X.mode = 2) (hq : JQ M) :
    Calls Tryz.prog 50 #[dp X.p] w fun e w' => ∃ v, e = .returned (.tuple #[v, .int .i64 0]) ∧ U8.R 5 w' w.heap.size (fun k => w.heap.size ≤ k) v (baseB M) ∧ Below w.heap.size w w' := by
  obtain ⟨L, hL, h16⟩ := hq.names
  rcases hmode with hm | hm
  · exact committed_jour hP h hm hq.off hL h16 hq.jn hq.lg hq.len hq.md
  · exact committed_log0 hP h hm hq.off hq.jn hq.lg hq.len hq.md
set_option maxRecDepth 100000 in
theorem popen_any {w : World} {d l : Nat} {M : DM} {okd : Nat → Prop} (h : DiskAt w d M okd) (hq : JQ M) (m : Int) (hm : m = 1 ∨ m = 2) (c : Nat) (hc : c < 4) :
    Calls Tryz.prog 16 #[dp d, .int .i64 m, dp l, .int .i64 c] w fun e w' => e = .returned (.tuple #[dp w.heap.size, .int .i64 0]) ∧ PgAt w' (newPG w.heap.size d l m c) (fun k => k = w.heap.size) ∧ Below w.heap.size w w' := by
  have HP := Aside0.mk (PRep.new w d l m c)
  have HC := Aside0.mk (committed_any HP.out (h.alloc _) hm hq)
  have HCo := Aside0.mk (conn_yes c w (by omega) (by omega))
  clear h hq hc
  rcases hm with rfl | rfl
  all_goals
    go_enter Tryz.func16, Tryz.ntmps16
    go_wp2_with (first
      | (go_at_call 49; refine (HCo.out).mono ?_; rintro e w' ⟨rfl, rfl⟩)
      | (go_at_call 50; refine (HC.out).mono ?_; rintro e w1 ⟨v, rfl, hv, hb⟩; obtain ⟨A3, c3, rfl⟩ := Kd.R_slice hv; have HB := Aside0.mk hb; clear hv hb))
    go_ret2
    have hb := HB.out
    exact ⟨rfl, HP.out.move (fun k hk _ => hb.block k (by simp; omega)), ((Below.refl w.heap.size w).alloc (Nat.le_refl _) _).trans (hb.mono (by simp))⟩

set_option maxHeartbeats 4000000 in
set_option maxRecDepth 100000 in
theorem begin_mode {w : World} {X : PG} {M : DM} {ok okd : Nat → Prop} {x : Nat → Int} (h : PgAt w X ok) (hD : DiskAt w X.d M okd) (hq : JQ M) (ht : Tab 108 w X.l x) (hl : ¬ ok X.l) (hld : ¬ okd X.l)
    (hmode : X.mode = 1 ∨ X.mode = 2) (hd : X.dead = false) (hi : X.inn = false) (hrE : rE x X.c 1 = 0) :
    Calls Tryz.prog 19 #[dp X.p] w fun e w' => e = .returned (.int .i64 0) ∧ PLeft w (X.begun M) (rX x X.c 1) ok w' := by
  have HR := raise_all X.l x X.c 1 w.drew ht.drew
  rw [hrE] at HR
  replace HR := Aside0.mk HR
  obtain ⟨bo, vw, vm, h⟩ := h
  have H := Aside0.mk h
  have c2 := h.cell 2
  have c3 := h.cell 3
  have c4 := h.cell 4
  have c5 := h.cell 5
  rw [hd] at c4
  rw [hi] at c5
  have hlt := h.lt
  have hpl : X.p ≠ X.l := fun e => hl (e ▸ h.okp)
  obtain ⟨p, hp⟩ : ∃ p, p = X.p := ⟨_, rfl⟩
  rw [← hp] at c2 c3 c4 c5 hlt hpl ⊢
  obtain ⟨l, hl'⟩ : ∃ l, l = X.l := ⟨_, rfl⟩
  rw [← hl'] at c2 HR hpl hl hld ht
  have HX := Aside0.mk (And.intro hp (And.intro hl' (And.intro ht (And.intro hl (And.intro hld (And.intro hD (And.intro hq (And.intro hmode (And.intro hd hi)))))))))
  clear hp hl' ht h hd hi hrE hl hld hD hq hmode
  have hmm := @run_makeMap Tryz.prog
  go_enter Tryz.func19, Tryz.ntmps19
  go_wp2
  go_still_tail 8, (by kernel_rfl)
  go_wp2_with (first
    | (go_at_call 51; refine (HR.out).mono ?_; rintro e w1 ⟨rfl, ht1, ho1⟩
       have h1' : PRep w1 X ok bo vw vm := H.out.move (fun k hk _ => ho1.block k (fun e => HX.out.2.2.2.1 (e ▸ hk)))
       have HC := committed_any ⟨bo, vw, vm, h1'⟩ (HX.out.2.2.2.2.2.1.move (fun k hk _ => ho1.block k (fun e => HX.out.2.2.2.2.1 (e ▸ hk)))) HX.out.2.2.2.2.2.2.2.1 HX.out.2.2.2.2.2.2.1
       rw [← HX.out.1] at HC
       replace HC := Aside0.mk HC
       have H1 := Aside0.mk (And.intro h1' (And.intro ht1 ho1))
       clear h1' ht1 ho1)
    | (go_at_call 50; refine (HC.out).mono ?_; rintro e w2 ⟨v, rfl, hv, hb⟩
       have h2 : w2.heap[p]? = _ := (hb.block p (by have := H1.out.1.lt; rw [← HX.out.1] at this; exact this)).trans (HX.out.1 ▸ H1.out.1.hp)
       obtain ⟨A3, c3', rfl⟩ := Kd.R_slice hv
       have hbl : (baseB M).length ≤ 2097152 := HX.out.2.2.2.2.2.2.1.len
       have HB := Aside0.mk (And.intro hv (And.intro hb h2))
       generalize hn : (baseB M).length = bn at *
       have HN := Aside0.mk hn
       have hlt2 : p < w2.heap.size := heap_lt h2
       have d5 := cell_of_row w2 p 5 _ _ (0, 0) h2
       have e5 := frozen_of_cells h2 5
       have d7 := cell_of_row w2 p 7 _ _ (0, 0) h2
       have e7 := frozen_of_cells h2 7
       have d8 := cell_of_row w2 p 8 _ _ (0, 0) h2
       have e8 := frozen_of_cells h2 8
       have d9 := cell_of_row w2 p 9 _ _ (0, 0) h2
       have e9 := frozen_of_cells h2 9
       clear hv hb h2 hn))
  go_ret
  refine ⟨rfl, ?_⟩
  obtain ⟨hp, hl', ht, hl, hld, hD, hq, hmode, hd, hi⟩ := HX.out
  obtain ⟨h1', ht1, ho1⟩ := H1.out
  obtain ⟨hv, hb, h2⟩ := HB.out
  have hbn := HN.out
  have hs1 : w1.heap.size = w.heap.size := ho1.size
  have hs2 : w1.heap.size ≤ w2.heap.size := hb.size
  have b5 := row13_set9 (row13_set8 (row13_set7 (row13_set5 h2 (.bool true)) (.slice A3 bn c3')) (.map (some w2.heap.size))) (.int .i64 ((bn : Int) / 512))
  generalize hW : ((((w2.setCell ⟨p, 5, none⟩ (.bool true)).setCell ⟨p, 7, none⟩ (.slice A3 bn c3')).setCell ⟨p, 8, none⟩ (.map (some w2.heap.size))).setCell ⟨p, 9, none⟩ (.int .i64 ((bn : Int) / 512))) = W at b5 ⊢
  have hO : Only p w2 W := by rw [← hW]; exact ((((Only.refl p w2).set_ 5 _).set_ 7 _).set_ 8 _).set_ 9 _
  have hsW : W.heap.size = w2.heap.size := hO.size
  have kA : ∀ k, k < w2.heap.size → (W.alloc (.map #[] 0)).heap[k]? = W.heap[k]? := fun k hk => Below.heap_alloc _ _ _ (by omega)
  have k2 : ∀ k, k < w1.heap.size → k ≠ p → (W.alloc (.map #[] 0)).heap[k]? = w1.heap[k]? := fun k hk hkp => (kA k (by omega)).trans ((hO.block k hkp).trans (hb.block k hk))
  have k1 : ∀ k, k < w.heap.size → k ≠ p → k ≠ l → (W.alloc (.map #[] 0)).heap[k]? = w.heap[k]? := fun k hk hkp hkl => (k2 k (by omega) hkp).trans (ho1.block k hkl)
  have hsA : (W.alloc (.map #[] 0)).heap.size = w2.heap.size + 1 := by simp [hsW]
  have hRB : RB w2 (fun k => w1.heap.size ≤ k) (.slice A3 bn c3') (baseB M) := RB.of_R hv
  refine ⟨⟨w2.heap.size, .slice A3 bn c3', vm, ?_, .inl H.out.okp, ?_, fun _ => ?_, ?_⟩, ?_, ?_⟩
  · have h6 := (kA p hlt2).trans b5
    rw [hd] at h6
    rw [hp] at h6
    show _ = some (Obj.cells #[dp X.d, .int .i64 X.mode, dp X.l, .int .i64 X.c, .bool X.dead, .bool true, .bool X.wrote, .slice A3 bn c3', .map (some w2.heap.size), .int .i64 ((baseB M).length / 512 : Nat), vm, .int .i64 X.next, .int .i64 X.sure] _ _)
    rw [hd, hbn]
    exact h6
  · refine hRB.same (fun k hk => ?_) (fun k hk => .inr ⟨by have := hRB.1 k hk; omega, by have := hRB.lt hk; omega⟩)
    have hlt3 := hRB.lt hk
    exact (kA k hlt3).trans (hO.block k (hRB.ne h2 (fun cs e => by injection e with _ e2; cases e2) hk))
  · refine ⟨.inr ⟨by omega, by omega⟩, fun _ => none, 0, ?_, fun _ _ => rfl, fun x v hx => by cases hx⟩
    have := SMap.made Tryz.prog 3 W
    rw [hsW] at this
    exact this
  · exact (H.out.marks).other H.out.hp (fun k hok hk hkp => k1 k hk (hp ▸ hkp) (fun e => hl (e ▸ hok))) (fun k hk => .inl hk) (by omega)
  · show Tab _ _ X.l _
    rw [← hl']
    exact (k2 l (by have := ht1.lt; omega) (Ne.symm hpl)).trans ht1
  · refine ⟨?_, ?_, ?_, by rw [hsA]; omega, fun k hk hn => ?_⟩
    · exact hO.os.trans (hb.os.trans ho1.os)
    · exact hO.tape.trans (hb.tape.trans ho1.tape)
    · exact hO.output.trans (hb.output.trans ho1.output)
    · replace hn : ¬ (ok k ∨ k = X.l) := hn
      rw [← hl'] at hn
      exact k1 k hk (fun e => hn (.inl (by rw [e, hp]; exact H.out.okp))) (fun e => hn (.inr e))
/-- a transaction begins -/
theorem s_begin2 {w : World} {X : PG} {M : DM} {ok : Nat → Prop} (h : Sys w X M ok) (hq : JQ M) (hmode : X.mode = 1 ∨ X.mode = 2) (hd : X.dead = false) (hi : X.inn = false) (hwr : X.wrote = false) :
    Calls Tryz.prog 19 #[dp X.p] w fun e w' => e = .returned (.int .i64 0) ∧ SLeft w (X.begun M) M ok w' := by
  obtain ⟨okP, okD, x, v, hP, hD, hT, hL, h5, h6, h7, hc, hv0, hv1, hv2⟩ := h
  have hv := hv0 hi
  have hR := hL.raise (level := 1) (by omega) (by omega)
  rw [← hc] at hR
  refine (begin_mode hP hD hq hT (fun hk => (h5 _ hk).2.1 rfl) (fun hk => (h6 _ hk).2.1 rfl) hmode hd hi hR.1).mono ?_
  rintro e w' ⟨rfl, hP', hT', hF⟩
  refine ⟨rfl, ⟨_, okD, _, _, hP', hD.move (fun k hk hlt => hF.block k hlt (fun h => h.elim (fun h => (h5 k h).2.2.1 hk) (fun h => (h6 k hk).2.1 h))), hT', hR.2, fun k hk => ?_, fun k hk => ⟨.inl (h6 k hk).1, (h6 k hk).2.1, Nat.lt_of_lt_of_le (h6 k hk).2.2 hF.size⟩, .inl h7, hc, fun h => ?_, fun _ => ?_, fun h => ?_⟩, hF.wide (fun k _ hk => hk.elim (fun h => (h5 k h).1) (fun h => h ▸ h7))⟩
  · rcases hk with hk | hk
    · exact ⟨.inl (h5 k hk).1, (h5 k hk).2.1, (h5 k hk).2.2.1, Nat.lt_of_lt_of_le (h5 k hk).2.2.2 hF.size⟩
    · refine ⟨.inr hk, fun e => ?_, fun hk2 => ?_, hk.2⟩
      · have := hT.lt
        rw [e] at hk
        exact absurd this (by have := hk.1; show ¬ X.l < _; exact Nat.not_lt.2 this)
      · have := (h6 k hk2).2.2
        omega
  · cases h
  · left; rw [hv]; rfl
  · exact absurd (show X.wrote = true from h) (by rw [hwr]; decide)

set_option maxRecDepth 100000 in
theorem lopen_any {w : World} {d : Nat} {M : DM} {okd : Nat → Prop} (h : DiskAt w d M okd) (hq : JQ M) (hk : ∀ k, okd k → k < w.heap.size) (m : Int) (hm : m = 1 ∨ m = 2) :
    Calls Tryz.prog 30 #[dp d, .int .i64 m] w fun e w' => e = .returned (dp (w.heap.size + 1)) ∧ Sys w' (newPG (w.heap.size + 1) d w.heap.size m 0) M (fun k => okd k ∨ w.heap.size ≤ k) ∧ Below w.heap.size w w' := by
  have HN := Aside0.mk (new_any w)
  have HO := popen_any (w := w.alloc (.cells #[.int .i64 0, .int .i64 0, .int .i64 0, .int .i64 0] 108)) (l := w.heap.size) (h.alloc _) hq m hm 0 (by omega)
  rw [show (w.alloc (.cells #[.int .i64 0, .int .i64 0, .int .i64 0, .int .i64 0] 108)).heap.size = w.heap.size + 1 from by simp] at HO
  replace HO := Aside0.mk HO
  have HD := Aside0.mk h
  clear h
  go_enter Tryz.func30, Tryz.ntmps30
  go_wp2_with (first
    | (go_at_call 14; refine (HN.out).mono ?_; rintro e w' ⟨rfl, rfl⟩)
    | (go_at_call 16; refine (HO.out).mono ?_; rintro e w2 ⟨rfl, hP, hb⟩; have H := Aside0.mk (And.intro hP hb); clear hP hb)
    | (go_at_call 15; refine (num12_any _ _).mono ?_; rintro e w' ⟨rfl, rfl⟩))
  go_ret
  obtain ⟨hP, hb⟩ := H.out
  have hT : Tab 108 (w.alloc (.cells #[.int .i64 0, .int .i64 0, .int .i64 0, .int .i64 0] 108)) w.heap.size (fun _ => 0) := Tab.new w
  have hs : w.heap.size + 1 < w2.heap.size := hP.lt
  refine ⟨rfl, ⟨fun k => k = w.heap.size + 1, okd, fun _ => 0, 0, hP, (HD.out.alloc _).move (fun k hk' hl => hb.block k (by have := hk k hk'; omega)), (hb.block w.heap.size (by omega)).trans hT, ⟨rfl, rfl, rfl, rfl⟩, ?_, fun k h => ⟨.inl h, fun e => ?_, ?_⟩, .inr (Nat.le_refl _), rfl, fun _ => rfl, (fun h => by cases h), (fun h => by cases h)⟩, ((Below.refl w.heap.size w).alloc (Nat.le_refl _) _).trans (hb.mono (by omega))⟩
  · rintro k rfl
    exact ⟨.inr (by omega), by show _ ≠ w.heap.size; omega, fun h => by have := hk _ h; omega, hs⟩
  · have := hk k h
    have e' : k = w.heap.size := e
    omega
  · have := hk k h
    omega

end Go.Proofs.YtmdpgjdepflbmaaGreat
namespace Go.Proofs.YtmdpgjdepflbmaaGreat
open Go.RowKit Go.Maps Go.Proofs.YtmdpgjdepflbmaaGreatW.PrintWords Go.Proofs.YtmdpgjdepflbmaaGreatW.PrintLast Go.Proofs.YtmdpgjdepflbmaaGreatW.PrintMore
open Go.Proofs.YtmdpgjdepflbmaaGreat.PPagerFolds
set_option linter.unusedVariables false
set_option linter.unusedSimpArgs false

/-- those pages that are not to come any more -/
def seenP (U : Own) (left : Int → Bool) : Own := fun x => if left x = true then none else U x
theorem ov_start {c : Bytes} {i k : Nat} (hc : c.length = i * 512) (hik : i ≤ k) : c ++ List.replicate (k * 512 - c.length) 0 = PP.overlay c k (fun _ => none) := by
  have hf : PP.Full (fun _ => none) := fun _ _ h => by cases h
  refine PP.by_pages (k := k) (by rw [List.length_append, List.length_replicate]; omega) (PP.overlay_length hf c k) (fun n hn => ?_)
  rw [PP.pageAt_overlay hf c k n hn]
  exact PP.pageAt_padTo c i k n hc
theorem ov_step {c p : Bytes} {k x : Nat} {U : PP.PM} (hf : PP.Full U) (hp : p.length = 512) (hx : x < k) : splice (PP.overlay c k U) (x * 512) p = PP.overlay c k (fun n => if n = x then some p else U n) := by
  have hf2 : PP.Full (fun n => if n = x then some p else U n) := fun n b h => by
    by_cases e : n = x
    · simp only [if_pos e] at h; obtain rfl := Option.some.inj h; exact hp
    · simp only [if_neg e] at h; exact hf n b h
  have hl := PP.overlay_length hf c k
  have e1 : splice (PP.overlay c k U) (x * 512) p = PP.writeB (PP.overlay c k U) (x * 512) p := by
    unfold PP.writeB
    have e2 : PP.padTo (PP.overlay c k U) (x * 512 + p.length) = PP.overlay c k U := by
      unfold PP.padTo
      rw [show x * 512 + p.length - (PP.overlay c k U).length = 0 by rw [hl, hp]; omega]
      simp
    rw [e2]
    rfl
  rw [e1]
  refine PP.by_pages (k := k) (by rw [PP.writeB_length, hl, hp]; omega) (PP.overlay_length hf2 c k) (fun n hn => ?_)
  rw [PP.pageAt_write _ p k x n hl hp, PP.pageAt_overlay hf2 c k n hn]
  by_cases e : n = x
  · rw [if_pos e, if_pos e]; rfl
  · rw [if_neg e, if_neg e, PP.pageAt_overlay hf c k n hn]
theorem seen_step {U : Own} {left : Int → Bool} {x : Nat} {p : Bytes} (hU : U x = some p) : pmO (seenP U (fun y => left y && !decide (y = (x : Int)))) = fun n => if n = x then some p else pmO (seenP U left) n := by
  funext n
  unfold pmO seenP
  by_cases e : n = x
  · subst e; simp [hU]
  · have e' : (n : Int) ≠ x := by omega
    simp [e, e']
theorem seen_full {U : Own} {left : Int → Bool} (h : PP.Full (pmO U)) : PP.Full (pmO (seenP U left)) := fun n b hb => by
  unfold pmO seenP at hb
  split at hb
  · cases hb
  · exact h n b hb

theorem all_base {w : World} {d p : Nat} {M : DM} {ok : Nat → Prop} (h : DiskAt w d M ok) (hp : w.cell? ⟨p, 0, none⟩ = some (dptr d)) (ho : M.off = false) (hlen : (baseB M).length ≤ 4194304) :
    Calls Tryz.prog 86 #[dptr p, .string sB] w fun e w' => ∃ A c b, e = .returned (.tuple #[.slice A (baseB M).length c, .bool b, .int .i64 0]) ∧ U8.R 5 w' w.heap.size (fun k => w.heap.size ≤ k) (.slice A (baseB M).length c) (baseB M) ∧ Below w.heap.size w w' := by
  unfold baseB at hlen ⊢
  cases hx : M.fs (nm sB) with
  | none =>
    refine (all_none h hp good_B ho hx).mono ?_
    rintro e w' ⟨rfl, n, rfl⟩
    exact ⟨none, 0, false, rfl, Kd.R_nil _ _ _ _ _, pw_below_drewN (Below.refl _ _) n⟩
  | some f =>
    rw [hx] at hlen
    refine (all_some h hp good_B ho hx hlen).mono ?_
    rintro e w' ⟨v, rfl, hv, hb⟩
    obtain ⟨A, c, rfl⟩ := Kd.R_slice hv
    exact ⟨A, c, true, rfl, hv, hb⟩

theorem PRep.sure {w w' : World} {X : PG} {ok : Nat → Prop} {bo : Nat} {vw vm : Value} (h : PRep w X ok bo vw vm) (s : Int) (hp : w'.heap[X.p]? = some (.cells #[dp X.d, .int .i64 X.mode, dp X.l, .int .i64 X.c, .bool X.dead, .bool X.inn, .bool X.wrote, vw, .map (if X.inn then some bo else none), .int .i64 X.count, vm, .int .i64 X.next, .int .i64 s] 113 (0, 0)))
    (hm : ∀ k, ok k → k < w.heap.size → k ≠ X.p → w'.heap[k]? = w.heap[k]?) : PgAt w' { X with sure := s } ok := by
  obtain ⟨h1, bs, h2, h3, h4⟩ := h.marks
  refine ⟨bo, vw, vm, hp, h.okp, h.was.same (fun k hk => hm k (h.was.1 k hk) (h.was.lt hk) (h.was.ne h.hp (fun cs e => by injection e with _ e2; cases e2) hk)) h.was.1, fun hi => (h.own hi).other h.hp hm (fun _ h => h), h1, bs, h2, own_at_heap h3 (fun k hk => hm k (h1 k hk) (own_lt h3 k hk) (own_ne h3 h.hp (fun cs e => by injection e with _ e2; cases e2) hk)), fun i b m hb hmm => ?_⟩
  obtain ⟨h5, h6⟩ := h4 i b m hb hmm
  exact ⟨h5.other h.hp hm (fun _ h => h), h6⟩
theorem row13_set12 {w : World} {p : Nat} {T : TypeId} {a0 a1 a2 a3 a4 a5 a6 a7 a8 a9 a10 a11 a12 : Value} (h : w.heap[p]? = some (.cells #[a0, a1, a2, a3, a4, a5, a6, a7, a8, a9, a10, a11, a12] T (0, 0))) (v : Value) :
    (w.setCell ⟨p, 12, none⟩ v).heap[p]? = some (.cells #[a0, a1, a2, a3, a4, a5, a6, a7, a8, a9, a10, a11, v] T (0, 0)) :=
  (md_set (cs := [_, _, _, _, _, _, _, _, _, _, _, _, _]) h 12 v).1
end Go.Proofs.YtmdpgjdepflbmaaGreat
namespace Go.Proofs.YtmdpgjdepflbmaaGreat
open Go.RowKit Go.Maps Go.Proofs.YtmdpgjdepflbmaaGreatW.PrintWords Go.Proofs.YtmdpgjdepflbmaaGreatW.PrintLast Go.Proofs.YtmdpgjdepflbmaaGreatW.PrintMore
open Go.Proofs.YtmdpgjdepflbmaaGreat.PPagerFolds
set_option linter.unusedVariables false
set_option linter.unusedSimpArgs false

/-- what committed leaves -/
def CLeft (w : World) (X : PG) (M : DM) (okp okd : Nat → Prop) (s : Int) (v : Value) (C : Bytes) (w' : World) : Prop :=
  ∃ (M' : DM) (okd' : Nat → Prop), RB w' (fun j => w.heap.size ≤ j ∧ ¬ okd' j) v C ∧ PgAt w' { X with sure := s } okp ∧ DiskAt w' X.d M' okd' ∧ (∀ j, okd' j → (okd j ∧ j < w.heap.size) ∨ (w.heap.size ≤ j ∧ j < w'.heap.size)) ∧ Fr (fun j => okd j ∨ j = X.p) w w' ∧ (M' = M ∨ M' = sy1 M (nm sL))
/-- what holds at the loop's head -/
structure OvJ (W0 : World) (m r : Nat) (f : Int → Option Value) (sz : Nat) (c : Bytes) (k : Nat) (U : Own) (B : Nat) (v : Value) (wr : World) : Prop where
  ex : ∃ left cnt, SRg Tryz.prog 3 wr m r f sz left cnt ∧ PgM wr m f sz U (fun j => B ≤ j ∧ v.ownBlock ≠ some j ∧ j ≠ r) ∧ RB wr (fun j => B ≤ j) v (PP.overlay c k (pmO (seenP U left)))
  fr : Fr (fun j => v.ownBlock = some j ∨ j = r) W0 wr

/-- what holds ahead of the append -/
structure C4 (w : World) (X : PG) (M : DM) (okp okd : Nat → Prop) (le B3 m : Nat) (ff : Int → Option Value) (sz : Nat) (U : Own) (A3 : Option Addr) (n c3 : Nat) (c : Bytes) (w4 : World) : Prop where
  dk : ∃ M' okd', DiskAt w4 X.d M' okd' ∧ (∀ j, okd' j → (okd j ∧ j < w.heap.size) ∨ (B3 ≤ j ∧ j < w4.heap.size)) ∧ (M' = M ∨ M' = sy1 M (nm sL))
  pg : PgAt w4 { X with sure := le } okp
  fr : Fr (fun j => okd j ∨ j = X.p) w w4
  map : PgM w4 m ff sz U (fun j => w.heap.size ≤ j ∧ j < B3 ∧ j ≠ m ∧ (Value.slice A3 n c3).ownBlock ≠ some j)
  m1 : w.heap.size ≤ m
  m2 : m < B3
  m3 : (Value.slice A3 n c3).ownBlock ≠ some m
  row : U8.R 5 w4 w.heap.size (fun j => w.heap.size ≤ j ∧ (j < B3 ∨ w4.heap.size ≤ j)) (.slice A3 n c3) c
  B3 : B3 ≤ w4.heap.size
theorem C4.app {w : World} {X : PG} {M : DM} {okp okd : Nat → Prop} {le B3 m : Nat} {ff : Int → Option Value} {sz : Nat} {U : Own} {A3 : Option Addr} {n c3 : Nat} {c : Bytes} {w4 : World} (h : C4 w X M okp okd le B3 m ff sz U A3 n c3 c w4) {i k m0 : Nat} (hn : n = c.length) (hc : c.length = i * 512) (hik : i ≤ k) (hk : k ≤ 4096) (hm0 : m0 = k * 512 - n) :
    ∃ A6 L6 c6 w6, (Builtin.append_ #[48, 3] 48 #[.slice A3 n c3, .int .i64 m0]).run Tryz.prog w4 = .ok (.slice A6 L6 c6) w6 ∧ L6 = k * 512 ∧
      RB w6 (fun j => w.heap.size ≤ j) (.slice A6 L6 c6) (PP.overlay c k (fun _ => none)) ∧ PgM w6 m ff sz U (fun j => w.heap.size ≤ j ∧ (Value.slice A6 L6 c6).ownBlock ≠ some j) ∧ (Value.slice A6 L6 c6).ownBlock ≠ some m ∧ w4.grownBy w6 (Value.slice A3 n c3).ownBlock ∧
      ((Value.slice A6 L6 c6).ownBlock = (Value.slice A3 n c3).ownBlock ∨ ∃ b, (Value.slice A6 L6 c6).ownBlock = some b ∧ w4.heap.size ≤ b) := by
  have hs4 : w.heap.size ≤ w4.heap.size := h.fr.size
  obtain ⟨v6, w6, hrun, hR6, hg6, hat⟩ := Kd.R_zeros_run (P := Tryz.prog) U8 (W := w4) w.heap.size 48 3 48 5 (.int .u8 0) 1 Tryz.underlying48 Tryz.underlying3 info5 rfl (by decide) (by omega) (.slice A3 n c3) c 0 (ok := fun j => w.heap.size ≤ j ∧ (j < B3 ∨ w4.heap.size ≤ j)) rfl (fun j hj => ⟨by omega, .inr hj⟩) h.row .i64 (m0 : Int) (by omega) (by rw [Int.toNat_natCast]; omega) hs4
  obtain ⟨A6, c6, rfl⟩ := Kd.R_slice hR6
  have hl : (c ++ List.replicate ((m0 : Int)).toNat 0).length = k * 512 := by rw [List.length_append, List.length_replicate, Int.toNat_natCast]; omega
  have hov : c ++ List.replicate ((m0 : Int)).toNat 0 = PP.overlay c k (fun _ => none) := by
    rw [Int.toNat_natCast, hm0, hn]
    exact ov_start hc hik
  have hm4 := h.map.map.lt
  refine ⟨A6, _, c6, w6, hrun, hl, ?_, ?_, ?_, hg6, hat⟩
  · rw [← hov]
    exact (RB.of_R hR6).mono (fun j hj => hj.1)
  · refine h.map.move (hg6.block m hm4 (fun e => h.m3 e.symm)) (fun j hj hjl => hg6.block j hjl (fun e => hj.2.2.2 e.symm)) hg6.size (fun j hj hjl => ⟨hj.1, fun e => ?_⟩)
    rcases hat with hat | ⟨b, hb, hbl⟩
    · exact hj.2.2.2 (hat ▸ e)
    · rw [hb] at e
      injection e with e
      omega
  · intro e
    rcases hat with hat | ⟨b, hb, hbl⟩
    · exact h.m3 (hat ▸ e)
    · rw [hb] at e
      injection e with e
      omega
theorem C4.done {w : World} {X : PG} {M : DM} {okp okd : Nat → Prop} {le B3 m : Nat} {ff : Int → Option Value} {sz : Nat} {U : Own} {A3 : Option Addr} {n c3 : Nat} {c : Bytes} {w4 w6 w0 wr : World} (h : C4 w X M okp okd le B3 m ff sz U A3 n c3 c w4) (hpd : ∀ j, okp j → ¬ okd j) (hpl : ∀ j, okp j → j < w4.heap.size → j < w.heap.size) {v : Value} {C : Bytes}
    (hg6 : w4.grownBy w6 (Value.slice A3 n c3).ownBlock) (hat : v.ownBlock = (Value.slice A3 n c3).ownBlock ∨ ∃ b, v.ownBlock = some b ∧ w4.heap.size ≤ b) (hg0 : w6.grownBy w0 none) (hfr : Fr (fun j => v.ownBlock = some j ∨ j = w6.heap.size) w0 wr) (hrow : RB wr (fun j => w.heap.size ≤ j) v C) : CLeft w X M okp okd le v C wr := by
  obtain ⟨M', okd', hD, hk', hM⟩ := h.dk
  have s6 := hg6.size
  have s0 := hg0.size
  have sr := hfr.size
  have hs4 : w.heap.size ≤ w4.heap.size := h.fr.size
  have hA3 : ∀ j, (Value.slice A3 n c3).ownBlock = some j → w.heap.size ≤ j ∧ j < B3 := fun j hj => by
    have h1 := h.row.1 j hj
    have h2 := Kd.R_lt h.row j hj
    exact ⟨h1.1, h1.2.resolve_right (by omega)⟩
  have hv : ∀ j, v.ownBlock = some j → w.heap.size ≤ j ∧ (j < B3 ∨ w4.heap.size ≤ j) := fun j hj => by
    rcases hat with hat | ⟨b, hb, hbl⟩
    · have := hA3 j (hat ▸ hj); exact ⟨this.1, .inl this.2⟩
    · rw [hb] at hj; injection hj with hj; exact ⟨by omega, .inr (by omega)⟩
  have hkeep : ∀ j, j < w4.heap.size → (j < w.heap.size ∨ B3 ≤ j) → wr.heap[j]? = w4.heap[j]? := fun j hj hw => by
    have e1 : wr.heap[j]? = w0.heap[j]? := hfr.block j (by omega) (fun e => e.elim (fun e => by have := hv j e; omega) (fun e => by omega))
    have e2 : w0.heap[j]? = w6.heap[j]? := hg0.block j (by omega) (fun e => by cases e)
    have e3 : w6.heap[j]? = w4.heap[j]? := hg6.block j hj (fun e => by have := hA3 j e.symm; omega)
    exact e1.trans (e2.trans e3)
  refine ⟨M', okd', ⟨fun j hj => ⟨(hv j hj).1, fun hk => ?_⟩, hrow.rep⟩, ?_, hD.move (fun j hj hl => hkeep j hl ((hk' j hj).imp (fun h => h.2) (fun h => h.1))), fun j hj => (hk' j hj).imp id (fun h5 => ⟨by have := h.B3; have := h.m1; have := h.m2; omega, by omega⟩), ?_, hM⟩
  · have h1 := hv j hj
    rcases hk' j hk with h2 | h2
    · omega
    · rcases h1.2 with h3 | h3
      · omega
      · omega
  · exact h.pg.move (fun j hj hl => hkeep j hl (.inl (hpl j hj hl)))
  · refine ⟨hfr.os.trans (hg0.os.trans (hg6.os.trans h.fr.os)), hfr.tape.trans (hg0.tape.trans (hg6.tape.trans h.fr.tape)), hfr.output.trans (hg0.output.trans (hg6.output.trans h.fr.output)), by omega, fun j hj hn' => (hkeep j (by omega) (.inl hj)).trans (h.fr.block j hj hn')⟩

theorem C4.sync {w w3 w4 : World} {X : PG} {M M' : DM} {okp okd okx : Nat → Prop} {bo : Nat} {vw vm : Value} {le m : Nat} {ff : Int → Option Value} {sz : Nat} {U : Own} {A3 : Option Addr} {n c3 b1 : Nat} {c : Bytes} (hP : PRep w X okp bo vw vm) (hpd : ∀ j, okp j → ¬ okd j) (hb3 : Below w.heap.size w w3) (hm1 : w.heap.size ≤ m) (hm2 : m < w3.heap.size) (hm3 : (Value.slice A3 n c3).ownBlock ≠ some m)
    (hmap : PgM w3 m ff sz U (fun j => w.heap.size ≤ j ∧ j < w3.heap.size ∧ j ≠ m ∧ (Value.slice A3 n c3).ownBlock ≠ some j)) (s1 : w.heap.size ≤ b1) (hv3 : U8.R 5 w3 b1 (fun k => b1 ≤ k) (.slice A3 n c3) c) (hD4 : DiskAt w4 X.d M' okx) (hk4 : ∀ j, okx j → (okd j ∧ j < w.heap.size) ∨ w3.heap.size ≤ j) (hF4 : Fr (fun j => okd j ∧ j < w.heap.size) w3 w4) (hM : M' = M ∨ M' = sy1 M (nm sL)) :
    w4.heap[X.p]? = w.heap[X.p]? ∧ C4 w X M okp okd le w3.heap.size m ff sz U A3 n c3 c (w4.setCell ⟨X.p, 12, none⟩ (.int .i64 (le : Int))) := by
  have hlt := hP.lt
  have s4 : w3.heap.size ≤ w4.heap.size := hF4.size
  have s3 := hb3.size
  have hkeep : ∀ j, j < w3.heap.size → (w.heap.size ≤ j ∨ okp j) → w4.heap[j]? = w3.heap[j]? := fun j hj hh => hF4.block j hj (fun h => hh.elim (fun h1 => by omega) (fun h1 => hpd j h1 h.1))
  have hp4 : w4.heap[X.p]? = w.heap[X.p]? := (hkeep X.p (by omega) (.inr hP.okp)).trans (hb3.block X.p hlt)
  have hrow4 := hp4.trans hP.hp
  refine ⟨hp4, ?_⟩
  have hr5 := row13_set12 hrow4 (.int .i64 (le : Int))
  have hO : Only X.p w4 (w4.setCell ⟨X.p, 12, none⟩ (.int .i64 (le : Int))) := (Only.refl X.p w4).set_ 12 _
  generalize w4.setCell ⟨X.p, 12, none⟩ (.int .i64 (le : Int)) = w5 at hO hr5 ⊢
  have s5 : w5.heap.size = w4.heap.size := hO.size
  have hkeep5 : ∀ j, j < w3.heap.size → w.heap.size ≤ j → w5.heap[j]? = w3.heap[j]? := fun j hj hh => (hO.block j (by omega)).trans (hkeep j hj (.inl hh))
  have hpg5 : PgAt w5 { X with sure := (le : Int) } okp := hP.sure (le : Int) hr5 (fun j hj hjl hjp => (hO.block j hjp).trans ((hkeep j (by omega) (.inr hj)).trans (hb3.block j hjl)))
  have hfr5 : Fr (fun j => okd j ∨ j = X.p) w w5 := ⟨hO.os.trans (hF4.os.trans hb3.os), hO.tape.trans (hF4.tape.trans hb3.tape), hO.output.trans (hF4.output.trans hb3.output), by omega, fun j hj hn' => (hO.block j (fun e => hn' (.inr e))).trans ((hF4.block j (by omega) (fun h => hn' (.inl h.1))).trans (hb3.block j hj))⟩
  refine ⟨⟨_, _, hD4.tight.move (fun j hj hjl => hO.block j (fun e => ?_)), fun j hj => (hk4 j hj.1).imp id (fun h => ⟨h, by have := hj.2; omega⟩), hM⟩, hpg5, hfr5, hmap.move (hkeep5 m hm2 hm1) (fun j hj hjl => hkeep5 j hj.2.1 hj.1) (by omega) (fun _ h _ => h), hm1, hm2, hm3, ?_, by omega⟩
  · subst e
    rcases hk4 _ hj.1 with h | h
    · exact hpd _ hP.okp h.1
    · omega
  · have hl : ∀ k, (Value.slice A3 n c3).ownBlock = some k → k < w3.heap.size := fun k hk => Kd.R_lt hv3 k hk
    have h1 := Kd.R_lower (Kd.R_mono (ok' := fun j => w.heap.size ≤ j) hv3 (fun j hj => by omega)) s1
    have h2 : U8.R 5 w3 w.heap.size (fun j => w.heap.size ≤ j ∧ j < w3.heap.size) (.slice A3 n c3) c := Kd.R_mono (Kd.R_bound h1) (fun j hj => ⟨hj.1, hj.2.2.1⟩)
    exact Kd.R_mono (Kd.R_step h2 (fun j hj hjl => hkeep5 j hj.2 hj.1)) (fun j hj => ⟨hj.1, .inl hj.2⟩)

set_option maxHeartbeats 4000000 in
set_option maxRecDepth 100000 in
theorem committed_log {w : World} {X : PG} {M : DM} {okp okd : Nat → Prop} {cc : Int} {c : Bytes} {bs : List BK} {k : Nat} {f : Bytes × Bytes} {rest : Bytes} (hP : PgAt w X okp) (h : DiskAt w X.d M okd) (hpd : ∀ j, okp j → ¬ okd j) (hpl : ∀ j, okp j → j < w.heap.size) (hq : Quiet M cc) (hcc : cc + 10 < 1000000) (hmode : X.mode = 2)
    (hJ : M.fs (nm sJ) = none) (hbase : baseB M = c) (hlen : c.length ≤ 2097152) (hmod : c.length % 512 = 0) (hL : M.fs (nm sL) = some f) (hf : f.2 = logB bs ++ rest) (hst : Stop rest) (hb0 : bs ≠ []) (hlog : LogOf (c.length / 512) bs k) :
    Calls Tryz.prog 50 #[dp X.p] w fun e w' => ∃ v, e = .returned (.tuple #[v, .int .i64 0]) ∧ CLeft w X M okp okd (logB bs).length v (comB c bs k) w' := by
  obtain ⟨bo, vw, vm, hP⟩ := hP
  have c0 := hP.cell 0
  have c1 := hP.cell 1
  have c12 := hP.cell 12
  rw [hmode] at c1
  have hlt := hP.lt
  obtain ⟨p, hp⟩ : ∃ p, p = X.p := ⟨_, rfl⟩
  rw [← hp] at c0 c1 c12 hlt ⊢
  have hoff := hq.off
  have hfl : f.2.length ≤ 4194304 := (hq.len _ f hL).2
  have HU := Aside0.mk (undo_none h c0 hoff hJ)
  obtain ⟨n, hn⟩ : ∃ n, n = c.length := ⟨_, rfl⟩
  have hk := hlog.most
  have hcnt := hlog.cnt hb0
  obtain ⟨B1, hB1⟩ := List.exists_mem_of_ne_nil bs hb0
  have hll : 0 < (logB bs).length := by
    obtain ⟨B0, bs0, rfl⟩ := List.exists_cons_of_ne_nil hb0
    have := bytes1_length (hlog.ok B0 (by simp))
    unfold logB
    rw [List.flatMap_cons, List.length_append]
    omega
  obtain ⟨le, hle⟩ : ∃ le, le = (logB bs).length := ⟨_, rfl⟩
  obtain ⟨fl, hfll⟩ : ∃ fl, fl = f.2.length := ⟨_, rfl⟩
  have hle2 : le ≤ 4194304 := by rw [hle]; rw [hf, List.length_append] at hfl; omega
  rw [← hle] at hll ⊢
  rw [← hfll] at hfl
  have hik : n / 512 ≤ k := by rw [hn]; exact hlog.log.ok.le
  have hnk : n ≤ k * 512 := by rw [← hn] at hmod; omega
  have q1 : ((n : Int) % 512 != 0) = false := by rw [hn]; simp; omega
  have q1' : (Int.tmod (n : Int) 512 != 0) = false := by rw [Int.tmod_eq_emod_of_nonneg (by omega)]; exact q1
  have q2 : decide ((2097152 : Int) < (n : Int)) = false := decide_eq_false (by omega)
  have q3 : min (n : Int) ((k : Int) * 512) = (n : Int) := by omega
  have q4 : decide ((0 : Int) < (le : Int)) = true := decide_eq_true (by omega)
  have q5 : decide ((0 : Int) ≤ (k : Int)) = true := decide_eq_true (by omega)
  obtain ⟨m0, hm0⟩ : ∃ m0 : Nat, m0 = k * 512 - n := ⟨_, rfl⟩
  have q6 : max 0 ((k : Int) * 512 - (n : Int)) = (m0 : Int) := by omega
  have HX := Aside0.mk (And.intro h (And.intro hpd (And.intro hq (And.intro hcc (And.intro hJ (And.intro hbase (And.intro hL (And.intro hf (And.intro hst (And.intro hlog (And.intro hcnt (And.intro hle (And.intro hfll (And.intro hoff hP))))))))))))))
  have HN := Aside0.mk (And.intro hn (And.intro hm0 (And.intro hnk (And.intro hmod (And.intro hlen hb0)))))
  have HC0 := Aside0.mk c0
  have HPp := Aside0.mk (And.intro hp hpl)
  clear hpl h hpd hq hcc hJ hbase hL hf hst hlog hcnt hle hfll hoff hn hnk hmod hlen hb0 hP hB1 hp hmode hik hm0
  by_cases hsu : X.sure = (le : Int)
  · have q7 : ((X.sure != (le : Int))) = false := by simpa using hsu
    have HS := Aside0.mk hsu
    clear hsu
    go_enter Tryz.func50, Tryz.ntmps50
    go_wp2_with (first
      | (go_at_call 68; refine (HU.out).mono ?_; rintro e w' ⟨rfl, n0, rfl⟩
         obtain ⟨w1, hw1⟩ : ∃ w1, w1 = w.drewN n0 := ⟨_, rfl⟩
         have hb1 : Below w.heap.size w w1 := by rw [hw1]; exact pw_below_drewN (Below.refl _ _) n0
         have d1 : w1.cell? ⟨p, 1, none⟩ = some (.int .i64 2) := (hb1.cell (p := ⟨p, 1, none⟩) hlt).trans c1
         have hA := all_base (HX.out.1.below hb1) ((hb1.cell (p := ⟨p, 0, none⟩) hlt).trans HC0.out) HX.out.2.2.1.off (by rw [HX.out.2.2.2.2.2.1]; have := HN.out.2.2.2.2.1; omega)
         rw [HX.out.2.2.2.2.2.1, ← HN.out.1] at hA
         rw [← hw1]
         have HA := Aside0.mk hA
         have HB1 := Aside0.mk hb1
         clear hb1 hw1 hA)
      | (go_at_call 86; refine (HA.out).mono ?_; rintro e w2 ⟨A3, c3, bb, rfl, hv, hb2⟩
         have hb2' : Below w.heap.size w w2 := HB1.out.trans (hb2.mono HB1.out.size)
         have hB := blocks_any (HX.out.1.below hb2') ((hb2'.cell (p := ⟨p, 0, none⟩) hlt).trans HC0.out) HX.out.2.2.1.off HX.out.2.2.2.2.2.2.1 HX.out.2.2.2.2.2.2.2.1 HX.out.2.2.2.2.2.2.2.2.1 HX.out.2.2.2.2.2.2.2.2.2.1.ok (by have := HX.out.2.2.2.2.2.2.2.2.2.2.2.2.1; omega)
         rw [HX.out.2.2.2.2.2.2.2.2.2.2.1, ← HX.out.2.2.2.2.2.2.2.2.2.2.2.1, ← HX.out.2.2.2.2.2.2.2.2.2.2.2.2.1] at hB
         have HB := Aside0.mk hB
         have HV := Aside0.mk (And.intro hv (And.intro hb2' hb2.size))
         have hc3 : n ≤ c3 := (C_of_row (by rw [HN.out.1] at hv ⊢; exact hv)).2.1
         have hct : ∀ W : World, (Instr.slice 48 (.slice A3 n c3) none (some (.int .i64 (n : Int))) none).run Tryz.prog W = .ok (.slice A3 n c3) W :=
           (cutT (C_of_row (by rw [HN.out.1] at hv ⊢; exact hv)).1 hc3 (Nat.le_refl n) (n : Int) rfl).1
         clear hv hb2 hb2' hB)
      | (go_at_call 87; refine (HB.out).mono ?_; rintro e w3 ⟨m, rfl, ⟨ff, sz, hm⟩, hm1, hm2, hb3⟩
         have hb3' : Below w.heap.size w w3 := HV.out.2.1.trans (hb3.mono HV.out.2.1.size)
         have s1 : w.heap.size ≤ w1.heap.size := HB1.out.size
         have s2 : w1.heap.size ≤ w2.heap.size := HV.out.2.2
         have s3 : w2.heap.size ≤ w3.heap.size := hb3.size
         have hv3 : U8.R 5 w3 w1.heap.size (fun k => w1.heap.size ≤ k) (.slice A3 n c3) c := Kd.R_below HV.out.1 hb3
         have hvl : ∀ j, (Value.slice A3 n c3).ownBlock = some j → w.heap.size ≤ j ∧ j < w2.heap.size := fun j hj => ⟨Nat.le_trans s1 (HV.out.1.1 j hj), Kd.R_lt HV.out.1 j hj⟩
         have hm3 : (Value.slice A3 n c3).ownBlock ≠ some m := fun e => by have := hvl m e; omega
         have hmap : PgM w3 m ff sz (unionB bs) (fun j => w.heap.size ≤ j ∧ j < w3.heap.size ∧ j ≠ m ∧ (Value.slice A3 n c3).ownBlock ≠ some j) := hm.move rfl (fun _ _ _ => rfl) (Nat.le_refl _) (fun j hj hjl => ⟨by omega, hjl, hj.2, fun e => by have := hvl j e; omega⟩)
         have hrow : U8.R 5 w3 w.heap.size (fun j => w.heap.size ≤ j ∧ (j < w3.heap.size ∨ w3.heap.size ≤ j)) (.slice A3 n c3) c := Kd.R_lower (Kd.R_mono hv3 (fun j hj => ⟨by omega, by omega⟩)) s1
         have hdk : DiskAt w3 X.d M (fun j => okd j ∧ j < w.heap.size) := HX.out.1.tight.below hb3'
         have h4 : C4 w X M okp okd le w3.heap.size m ff sz (unionB bs) A3 n c3 c w3 := ⟨⟨M, _, hdk, fun j hj => .inl hj, .inl rfl⟩, by rw [← HS.out]; exact ⟨bo, vw, vm, HX.out.2.2.2.2.2.2.2.2.2.2.2.2.2.2.move (fun k _ hk => hb3'.block k hk)⟩, Fr.of_below hb3', hmap, by omega, hm2, hm3, hrow, Nat.le_refl _⟩
         obtain ⟨A6, L6, c6, w6, hrun6, hL6, hR6, hM6, hm6, hg6, hat6⟩ := h4.app HN.out.1 (i := c.length / 512) (by have := HN.out.2.2.2.1; rw [← HN.out.1] at this ⊢; omega) HX.out.2.2.2.2.2.2.2.2.2.1.log.ok.le hk HN.out.2.1
         have HMA := Aside0.mk hM6.map
         have H6 := Aside0.mk (And.intro h4 (And.intro hL6 (And.intro hR6 (And.intro hM6 (And.intro hm6 (And.intro hg6 hat6))))))
         have d12 : w3.cell? ⟨p, 12, none⟩ = some (.int .i64 X.sure) := (hb3'.cell (p := ⟨p, 12, none⟩) hlt).trans c12
         clear hm hm1 hm2 hb3 hb3' s1 s2 s3 hv3 hvl hm3 hmap hrow hdk h4 hL6 hR6 hM6 hm6 hg6 hat6)
      | (at_builtin; refine appendL_ rfl (.tmp 90) (.tmp 96) 48 3 rfl rfl rfl hrun6 ?_)
      | (at_range; refine wpList_range_S _ rfl _ 110 rfl Tryz.underlying3 Tryz.underlying110 rfl HMA.out ?_; intro w0 hrg0 hg0 hs0)
      | go_in)
    (try go_frame)
    have H0 := Aside0.mk (And.intro hrg0 (And.intro hg0 hs0))
    clear hrg0 hg0 hs0 hrun6 hct
    have hL3 : (L6 : Int) ≤ 2097152 := by have := H6.out.2.1; omega
    have HFu := Aside0.mk HX.out.2.2.2.2.2.2.2.2.2.1.full
    go_loopw [14] (fun _ wr => Aside0 (OvJ w0 m w6.heap.size ff sz c k (unionB bs) w.heap.size (.slice A6 L6 c6) wr)) (fun _ wr => wr.rangeLeft m w6.heap.size)
    case atStart =>
      obtain ⟨hrg0, hg0, hs0⟩ := H0.out
      obtain ⟨h4, hL6, hR6, hM6, hm6, hg6, hat6⟩ := H6.out
      refine ⟨⟨_, _, hrg0, hM6.move (hg0.block m hM6.map.lt (by simp)) (fun j hj hl => hg0.block j hl (by simp)) hg0.size (fun j hj hl => ⟨hj.1, hj.2, by omega⟩), ?_⟩, Fr.refl _ _⟩
      have e : pmO (seenP (unionB bs) (fun x => (ff x).isSome)) = fun _ => none := by
        funext x
        show (if (ff (x : Int)).isSome = true then none else unionB bs (x : Int)) = none
        split
        · rfl
        · rename_i hno
          exact hM6.none_ _ (by simpa using hno)
      rw [e]
      exact hR6.same (fun j hj => hg0.block j (hR6.lt hj) (by simp)) hR6.1
    case round =>
      have HI := hrel
      clear hrel
      obtain ⟨⟨left, cnt, hrg, hmg, hrow⟩, hfr⟩ := HI.out
      have HR := Aside0.mk (And.intro hrg (And.intro hmg (And.intro hrow hfr)))
      clear hrg hmg hrow hfr HI
      go_wp2_with (first
        | (at_next; refine wpList_next_S _ rfl _ rfl Tryz.underlying3 rfl HR.out.1 ?_ ?_)
        | go_in)
      · intro hc0 hl0
        go_wp2
        go_ret2
        obtain ⟨hrg, hmg, hrow, hfr⟩ := HR.out
        obtain ⟨h4, hL6, hR6, hM6, hm6, hg6, hat6⟩ := H6.out
        refine ⟨_, rfl, h4.done HX.out.2.1 (fun j hj _ => HPp.out.2 j hj) hg6 hat6 H0.out.2.1 hfr ?_⟩
        have e : pmO (seenP (unionB bs) left) = pmO (unionB bs) := by
          funext x
          unfold pmO seenP
          cases hx : ff (x : Int) with
          | none => rw [hmg.none_ _ hx]; split <;> rfl
          | some v => rw [hl0 _ v hx]; rfl
        rw [e] at hrow
        exact hrow
      · intro x v w1' cnt1 hfx hlx hrg1 hlt1 hg1 hs1 hen
        obtain ⟨hrg, hmg, hrow, hfr⟩ := HR.out
        obtain ⟨h4, hL6, hR6, hM6, hm6, hg6, hat6⟩ := H6.out
        have hrr : (Value.slice A6 L6 c6).ownBlock ≠ some w6.heap.size := fun e => by have := hR6.lt e; omega
        have hmr : m < w6.heap.size := hM6.map.lt
        have hmg1 := hmg.grown hg1 (fun e => by injection e with e; omega) (fun j e => by injection e with e; intro h; exact h.2.2 e.symm)
        obtain ⟨ad, cx, bb', rfl, hcx, hC, hQ, had, hU, hbl, hx0, hx1⟩ := hmg1.some_ x v hfx
        have hxk : x.toNat < k := by
          have := HX.out.2.2.2.2.2.2.2.2.2.1.log.ok.lt x.toNat (by unfold pmO; rw [show ((x.toNat : Nat) : Int) = x by omega, hU]; rfl)
          exact this
        have hrow1 : RB w1' (fun j => w.heap.size ≤ j) (.slice A6 L6 c6) (PP.overlay c k (pmO (seenP (unionB bs) left))) := hrow.same (fun j hj => hg1.block j (hrow.lt hj) (fun e => by injection e with e; subst e; exact hrr hj)) hrow.1
        obtain ⟨A', m', c', w2', hcut, hcp, hR2, hg2⟩ := copyB (cb := cx) hrow1 (x.toNat * 512) hC (by omega) (by rw [PP.overlay_length (seen_full HFu.out)]; omega)
        rw [show ((x.toNat * 512 : Nat) : Int) = x * 512 by omega] at hcut
        have hcp0 : ∀ ty, (Builtin.copy_ #[48, 48] ty #[.slice A' m' c', .slice (some ad) 512 cx]).run Tryz.prog w1' = .ok (.int .i64 512) w2' := fun ty => hcp 0 ty
        have q8 : decide (x < (k : Int)) = true := decide_eq_true (by omega)
        have hrg2 := hrg1.kept hg2 (fun e => hm6 e.symm) (fun e => hrr e.symm)
        have hend : OvJ w0 m w6.heap.size ff sz c k (unionB bs) w.heap.size (.slice A6 L6 c6) w2' ∧ w2'.rangeLeft m w6.heap.size = cnt1 := by
          have s0 : w6.heap.size < w0.heap.size := by have := H0.out.2.2; omega
          refine ⟨⟨⟨_, cnt1, hrg2, hmg1.move (hg2.block m hmg1.map.lt (fun e => hm6 e.symm)) (fun j hj hl => hg2.block j hl (fun e => hj.2.1 e.symm)) hg2.size (fun _ h _ => h), ?_⟩, ?_⟩, hrg2.left_eq⟩
          · rw [ov_step (seen_full HFu.out) hbl hxk] at hR2
            have e := seen_step (U := unionB bs) (left := left) (x := x.toNat) (p := bb') (by rw [show ((x.toNat : Nat) : Int) = x by omega]; exact hU)
            rw [show ((x.toNat : Nat) : Int) = x by omega] at e
            rw [e]
            exact hR2
          · refine (hfr.grown hg1 (fun j e => .inl (.inr (by injection e with e; exact e.symm)))).grown hg2 (fun j e => .inl (.inl e))
        have HE := Aside0.mk hend
        have HMs := Aside0.mk (show cnt1 < wr.rangeLeft m w6.heap.size from by rw [hrg.left_eq]; exact hlt1)
        clear hend hfx hlx hrg1 hlt1 hg1 hs1 hmg1 hU hbl hrow1 hR2 hg2 hrg2 hrg hmg hrow hfr h4 hL6 hR6 hM6 hm6 hg6 hat6 hcp hrr hmr hxk hcx hC hQ had
        go_wp2
        go_roundw
        case rel => exact ⟨HE.out.1⟩
        case measure => rw [HE.out.2]; exact HMs.out
  · have q7 : ((X.sure != (le : Int))) = true := by simpa using hsu
    clear hsu
    go_enter Tryz.func50, Tryz.ntmps50
    go_wp2_with (first
      | (go_at_call 68; refine (HU.out).mono ?_; rintro e w' ⟨rfl, n0, rfl⟩
         obtain ⟨w1, hw1⟩ : ∃ w1, w1 = w.drewN n0 := ⟨_, rfl⟩
         have hb1 : Below w.heap.size w w1 := by rw [hw1]; exact pw_below_drewN (Below.refl _ _) n0
         have d1 : w1.cell? ⟨p, 1, none⟩ = some (.int .i64 2) := (hb1.cell (p := ⟨p, 1, none⟩) hlt).trans c1
         have hA := all_base (HX.out.1.below hb1) ((hb1.cell (p := ⟨p, 0, none⟩) hlt).trans HC0.out) HX.out.2.2.1.off (by rw [HX.out.2.2.2.2.2.1]; have := HN.out.2.2.2.2.1; omega)
         rw [HX.out.2.2.2.2.2.1, ← HN.out.1] at hA
         rw [← hw1]
         have HA := Aside0.mk hA
         have HB1 := Aside0.mk hb1
         clear hb1 hw1 hA)
      | (go_at_call 86; refine (HA.out).mono ?_; rintro e w2 ⟨A3, c3, bb, rfl, hv, hb2⟩
         have hb2' : Below w.heap.size w w2 := HB1.out.trans (hb2.mono HB1.out.size)
         have hB := blocks_any (HX.out.1.below hb2') ((hb2'.cell (p := ⟨p, 0, none⟩) hlt).trans HC0.out) HX.out.2.2.1.off HX.out.2.2.2.2.2.2.1 HX.out.2.2.2.2.2.2.2.1 HX.out.2.2.2.2.2.2.2.2.1 HX.out.2.2.2.2.2.2.2.2.2.1.ok (by have := HX.out.2.2.2.2.2.2.2.2.2.2.2.2.1; omega)
         rw [HX.out.2.2.2.2.2.2.2.2.2.2.1, ← HX.out.2.2.2.2.2.2.2.2.2.2.2.1, ← HX.out.2.2.2.2.2.2.2.2.2.2.2.2.1] at hB
         have HB := Aside0.mk hB
         have HV := Aside0.mk (And.intro hv (And.intro hb2' hb2.size))
         have hc3 : n ≤ c3 := (C_of_row (by rw [HN.out.1] at hv ⊢; exact hv)).2.1
         have hct : ∀ W : World, (Instr.slice 48 (.slice A3 n c3) none (some (.int .i64 (n : Int))) none).run Tryz.prog W = .ok (.slice A3 n c3) W :=
           (cutT (C_of_row (by rw [HN.out.1] at hv ⊢; exact hv)).1 hc3 (Nat.le_refl n) (n : Int) rfl).1
         clear hv hb2 hb2' hB)
      | (go_at_call 87; refine (HB.out).mono ?_; rintro e w3 ⟨m, rfl, ⟨ff, sz, hm⟩, hm1, hm2, hb3⟩
         have hb3' : Below w.heap.size w w3 := HV.out.2.1.trans (hb3.mono HV.out.2.1.size)
         have s1 : w.heap.size ≤ w1.heap.size := HB1.out.size
         have s2 : w1.heap.size ≤ w2.heap.size := HV.out.2.2
         have s3 : w2.heap.size ≤ w3.heap.size := hb3.size
         have hv3 : U8.R 5 w3 w1.heap.size (fun k => w1.heap.size ≤ k) (.slice A3 n c3) c := Kd.R_below HV.out.1 hb3
         have hvl : ∀ j, (Value.slice A3 n c3).ownBlock = some j → w.heap.size ≤ j ∧ j < w2.heap.size := fun j hj => ⟨Nat.le_trans s1 (HV.out.1.1 j hj), Kd.R_lt HV.out.1 j hj⟩
         have hm3 : (Value.slice A3 n c3).ownBlock ≠ some m := fun e => by have := hvl m e; omega
         have hmap : PgM w3 m ff sz (unionB bs) (fun j => w.heap.size ≤ j ∧ j < w3.heap.size ∧ j ≠ m ∧ (Value.slice A3 n c3).ownBlock ≠ some j) := hm.move rfl (fun _ _ _ => rfl) (Nat.le_refl _) (fun j hj hjl => ⟨by omega, hjl, hj.2, fun e => by have := hvl j e; omega⟩)
         have hrow : U8.R 5 w3 w.heap.size (fun j => w.heap.size ≤ j ∧ (j < w3.heap.size ∨ w3.heap.size ≤ j)) (.slice A3 n c3) c := Kd.R_lower (Kd.R_mono hv3 (fun j hj => ⟨by omega, by omega⟩)) s1
         have hdk : DiskAt w3 X.d M (fun j => okd j ∧ j < w.heap.size) := HX.out.1.tight.below hb3'
         have d12 : w3.cell? ⟨p, 12, none⟩ = some (.int .i64 X.sure) := (hb3'.cell (p := ⟨p, 12, none⟩) hlt).trans c12
         have d0 : w3.cell? ⟨p, 0, none⟩ = some (dptr X.d) := (hb3'.cell (p := ⟨p, 0, none⟩) hlt).trans HC0.out
         have hSy := q_sync (s := sL) hdk HX.out.2.2.1 (by have := HX.out.2.2.2.1; omega) good_L (by rw [HX.out.2.2.2.2.2.2.1]; rfl)
         have HSy := Aside0.mk hSy
         have H3 := Aside0.mk (And.intro hm2 (And.intro hb3' (And.intro s1 (And.intro s2 (And.intro s3 (And.intro hvl (And.intro hm3 (And.intro hmap (And.intro hv3 (And.intro hdk (show w.heap.size ≤ m by omega)))))))))))
         clear hm hm1 hm2 hb3 hb3' s1 s2 s3 hv3 hvl hm3 hmap hrow hdk hSy)
      | (go_at_call 88; refine (HSy.out).mono ?_; rintro e w4 ⟨rfl, okx, hD4, hk4, hF4⟩
         obtain ⟨hp4, h4⟩ := C4.sync (le := le) HX.out.2.2.2.2.2.2.2.2.2.2.2.2.2.2 HX.out.2.1 H3.out.2.1 H3.out.2.2.2.2.2.2.2.2.2.2 H3.out.1 H3.out.2.2.2.2.2.2.1 H3.out.2.2.2.2.2.2.2.1 H3.out.2.2.1 H3.out.2.2.2.2.2.2.2.2.1 hD4 hk4 hF4 (.inr rfl)
         rw [← HPp.out.1] at hp4 h4
         have hrow4 := hp4.trans (HPp.out.1 ▸ HX.out.2.2.2.2.2.2.2.2.2.2.2.2.2.2.hp)
         have d12 := cell_of_row w4 p 12 _ _ (0, 0) hrow4
         have e12 := frozen_of_cells hrow4 12
         obtain ⟨A6, L6, c6, w6, hrun6, hL6, hR6, hM6, hm6, hg6, hat6⟩ := h4.app HN.out.1 (i := c.length / 512) (by have := HN.out.2.2.2.1; rw [← HN.out.1] at this ⊢; omega) HX.out.2.2.2.2.2.2.2.2.2.1.log.ok.le hk HN.out.2.1
         have HMA := Aside0.mk hM6.map
         have H6 := Aside0.mk (And.intro h4 (And.intro hL6 (And.intro hR6 (And.intro hM6 (And.intro hm6 (And.intro hg6 hat6))))))
         clear h4 hL6 hR6 hM6 hm6 hg6 hat6 hp4 hrow4 hD4 hk4 hF4)
      | (at_builtin; refine appendL_ rfl (.tmp 90) (.tmp 96) 48 3 rfl rfl rfl hrun6 ?_)
      | (at_range; refine wpList_range_S _ rfl _ 110 rfl Tryz.underlying3 Tryz.underlying110 rfl HMA.out ?_; intro w0 hrg0 hg0 hs0)
      | go_in)
    (try go_frame)
    have H0 := Aside0.mk (And.intro hrg0 (And.intro hg0 hs0))
    clear hrg0 hg0 hs0 hrun6 hct
    have hL3 : (L6 : Int) ≤ 2097152 := by have := H6.out.2.1; omega
    have HFu := Aside0.mk HX.out.2.2.2.2.2.2.2.2.2.1.full
    go_loopw [14] (fun _ wr => Aside0 (OvJ w0 m w6.heap.size ff sz c k (unionB bs) w.heap.size (.slice A6 L6 c6) wr)) (fun _ wr => wr.rangeLeft m w6.heap.size)
    case atStart =>
      obtain ⟨hrg0, hg0, hs0⟩ := H0.out
      obtain ⟨h4, hL6, hR6, hM6, hm6, hg6, hat6⟩ := H6.out
      refine ⟨⟨_, _, hrg0, hM6.move (hg0.block m hM6.map.lt (by simp)) (fun j hj hl => hg0.block j hl (by simp)) hg0.size (fun j hj hl => ⟨hj.1, hj.2, by omega⟩), ?_⟩, Fr.refl _ _⟩
      have e : pmO (seenP (unionB bs) (fun x => (ff x).isSome)) = fun _ => none := by
        funext x
        show (if (ff (x : Int)).isSome = true then none else unionB bs (x : Int)) = none
        split
        · rfl
        · rename_i hno
          exact hM6.none_ _ (by simpa using hno)
      rw [e]
      exact hR6.same (fun j hj => hg0.block j (hR6.lt hj) (by simp)) hR6.1
    case round =>
      have HI := hrel
      clear hrel
      obtain ⟨⟨left, cnt, hrg, hmg, hrow⟩, hfr⟩ := HI.out
      have HR := Aside0.mk (And.intro hrg (And.intro hmg (And.intro hrow hfr)))
      clear hrg hmg hrow hfr HI
      go_wp2_with (first
        | (at_next; refine wpList_next_S _ rfl _ rfl Tryz.underlying3 rfl HR.out.1 ?_ ?_)
        | go_in)
      · intro hc0 hl0
        go_wp2
        go_ret2
        obtain ⟨hrg, hmg, hrow, hfr⟩ := HR.out
        obtain ⟨h4, hL6, hR6, hM6, hm6, hg6, hat6⟩ := H6.out
        refine ⟨_, rfl, h4.done HX.out.2.1 (fun j hj _ => HPp.out.2 j hj) hg6 hat6 H0.out.2.1 hfr ?_⟩
        have e : pmO (seenP (unionB bs) left) = pmO (unionB bs) := by
          funext x
          unfold pmO seenP
          cases hx : ff (x : Int) with
          | none => rw [hmg.none_ _ hx]; split <;> rfl
          | some v => rw [hl0 _ v hx]; rfl
        rw [e] at hrow
        exact hrow
      · intro x v w1' cnt1 hfx hlx hrg1 hlt1 hg1 hs1 hen
        obtain ⟨hrg, hmg, hrow, hfr⟩ := HR.out
        obtain ⟨h4, hL6, hR6, hM6, hm6, hg6, hat6⟩ := H6.out
        have hrr : (Value.slice A6 L6 c6).ownBlock ≠ some w6.heap.size := fun e => by have := hR6.lt e; omega
        have hmr : m < w6.heap.size := hM6.map.lt
        have hmg1 := hmg.grown hg1 (fun e => by injection e with e; omega) (fun j e => by injection e with e; intro h; exact h.2.2 e.symm)
        obtain ⟨ad, cx, bb', rfl, hcx, hC, hQ, had, hU, hbl, hx0, hx1⟩ := hmg1.some_ x v hfx
        have hxk : x.toNat < k := by
          have := HX.out.2.2.2.2.2.2.2.2.2.1.log.ok.lt x.toNat (by unfold pmO; rw [show ((x.toNat : Nat) : Int) = x by omega, hU]; rfl)
          exact this
        have hrow1 : RB w1' (fun j => w.heap.size ≤ j) (.slice A6 L6 c6) (PP.overlay c k (pmO (seenP (unionB bs) left))) := hrow.same (fun j hj => hg1.block j (hrow.lt hj) (fun e => by injection e with e; subst e; exact hrr hj)) hrow.1
        obtain ⟨A', m', c', w2', hcut, hcp, hR2, hg2⟩ := copyB (cb := cx) hrow1 (x.toNat * 512) hC (by omega) (by rw [PP.overlay_length (seen_full HFu.out)]; omega)
        rw [show ((x.toNat * 512 : Nat) : Int) = x * 512 by omega] at hcut
        have hcp0 : ∀ ty, (Builtin.copy_ #[48, 48] ty #[.slice A' m' c', .slice (some ad) 512 cx]).run Tryz.prog w1' = .ok (.int .i64 512) w2' := fun ty => hcp 0 ty
        have q8 : decide (x < (k : Int)) = true := decide_eq_true (by omega)
        have hrg2 := hrg1.kept hg2 (fun e => hm6 e.symm) (fun e => hrr e.symm)
        have hend : OvJ w0 m w6.heap.size ff sz c k (unionB bs) w.heap.size (.slice A6 L6 c6) w2' ∧ w2'.rangeLeft m w6.heap.size = cnt1 := by
          have s0 : w6.heap.size < w0.heap.size := by have := H0.out.2.2; omega
          refine ⟨⟨⟨_, cnt1, hrg2, hmg1.move (hg2.block m hmg1.map.lt (fun e => hm6 e.symm)) (fun j hj hl => hg2.block j hl (fun e => hj.2.1 e.symm)) hg2.size (fun _ h _ => h), ?_⟩, ?_⟩, hrg2.left_eq⟩
          · rw [ov_step (seen_full HFu.out) hbl hxk] at hR2
            have e := seen_step (U := unionB bs) (left := left) (x := x.toNat) (p := bb') (by rw [show ((x.toNat : Nat) : Int) = x by omega]; exact hU)
            rw [show ((x.toNat : Nat) : Int) = x by omega] at e
            rw [e]
            exact hR2
          · refine (hfr.grown hg1 (fun j e => .inl (.inr (by injection e with e; exact e.symm)))).grown hg2 (fun j e => .inl (.inl e))
        have HE := Aside0.mk hend
        have HMs := Aside0.mk (show cnt1 < wr.rangeLeft m w6.heap.size from by rw [hrg.left_eq]; exact hlt1)
        clear hend hfx hlx hrg1 hlt1 hg1 hs1 hmg1 hU hbl hrow1 hR2 hg2 hrg2 hrg hmg hrow hfr h4 hL6 hR6 hM6 hm6 hg6 hat6 hcp hrr hmr hxk hcx hC hQ had
        go_wp2
        go_roundw
        case rel => exact ⟨HE.out.1⟩
        case measure => rw [HE.out.2]; exact HMs.out
end Go.Proofs.YtmdpgjdepflbmaaGreat
namespace Go.Proofs.YtmdpgjdepflbmaaGreat
open Go.RowKit Go.Maps Go.Proofs.YtmdpgjdepflbmaaGreatW.PrintWords Go.Proofs.YtmdpgjdepflbmaaGreatW.PrintLast Go.Proofs.YtmdpgjdepflbmaaGreatW.PrintMore
open Go.Proofs.YtmdpgjdepflbmaaGreat.PPagerFolds
set_option linter.unusedVariables false
set_option linter.unusedSimpArgs false

/-- a pager that has begun over the bytes C -/
def PG.begC (X : PG) (s : Int) (C : Bytes) : PG := { X with inn := true, was := C, own := fun _ => none, count := (C.length / 512 : Nat), sure := s }
/-- a disk with a log: its base's bytes, its blocks, how many pages there are -/
structure LQ (M : DM) (c : Bytes) (bs : List BK) (k : Nat) : Prop where
  off : M.off = false
  jn : M.fs (nm sJ) = none
  base : baseB M = c
  len : c.length ≤ 2097152
  md : c.length % 512 = 0
  log : M.fs (nm sL) = some (logB bs, logB bs)
  ne : bs ≠ []
  chain : LogOf (c.length / 512) bs k
theorem LQ.sync {M : DM} {c : Bytes} {bs : List BK} {k : Nat} (h : LQ M c bs k) : LQ (sy1 M (nm sL)) c bs k := by
  have e1 : (sy1 M (nm sL)).fs (nm sJ) = M.fs (nm sJ) := by simp [sy1, setF, nmJ_L]
  have e2 : (sy1 M (nm sL)).fs (nm sB) = M.fs (nm sB) := by simp [sy1, setF, nmB_L]
  have e3 : (sy1 M (nm sL)).fs (nm sL) = some (logB bs, logB bs) := by simp [sy1, setF, h.log]
  refine ⟨h.off, e1.trans h.jn, ?_, h.len, h.md, e3, h.ne, h.chain⟩
  have := h.base
  unfold baseB at this ⊢
  rw [e2]
  exact this

set_option maxHeartbeats 4000000 in
set_option maxRecDepth 100000 in
theorem s_begin_log {w : World} {X : PG} {M : DM} {ok : Nat → Prop} {cc : Int} {c : Bytes} {bs : List BK} {k : Nat} (h : Sys w X M ok) (hq : Quiet M cc) (hcc : cc + 10 < 1000000) (hL : LQ M c bs k) (hmode : X.mode = 2) (hd : X.dead = false) (hi : X.inn = false) (hwr : X.wrote = false) :
    Calls Tryz.prog 19 #[dp X.p] w fun e w' => e = .returned (.int .i64 0) ∧ ∃ M', (M' = M ∨ M' = sy1 M (nm sL)) ∧ SLeft w (X.begC (logB bs).length (comB c bs k)) M' ok w' := by
  obtain ⟨okP, okD, x, v0, hP, hD, hT, hLk, h5, h6, h7, hc, hv0, hv1, hv2⟩ := h
  have hv := hv0 hi
  have hRz := hLk.raise (level := 1) (by omega) (by omega)
  rw [← hc] at hRz
  have HR := raise_all X.l x X.c 1 w.drew hT.drew
  rw [hRz.1] at HR
  replace HR := Aside0.mk HR
  obtain ⟨bo, vw, vm, hPr⟩ := hP
  have c2 := hPr.cell 2
  have c3 := hPr.cell 3
  have c4 := hPr.cell 4
  have c5 := hPr.cell 5
  rw [hd] at c4
  rw [hi] at c5
  have hlt := hPr.lt
  have hpl : X.p ≠ X.l := (h5 _ hPr.okp).2.1
  obtain ⟨p, hp⟩ : ∃ p, p = X.p := ⟨_, rfl⟩
  rw [← hp] at c2 c3 c4 c5 hlt hpl ⊢
  obtain ⟨l, hl'⟩ : ∃ l, l = X.l := ⟨_, rfl⟩
  rw [← hl'] at c2 HR hpl
  have HX := Aside0.mk (And.intro hPr (And.intro hD (And.intro hT (And.intro hLk (And.intro h5 (And.intro h6 (And.intro h7 (And.intro hc (And.intro hv (And.intro hRz (And.intro hp hl')))))))))))
  have HY := Aside0.mk (And.intro hq (And.intro hcc (And.intro hL (And.intro hmode (And.intro hd (And.intro hi hwr))))))
  obtain ⟨le, hle⟩ : ∃ le, le = (logB bs).length := ⟨_, rfl⟩
  have HLE := Aside0.mk hle
  clear hPr hD hT hLk h5 h6 h7 hc hv hRz hp hl' hq hcc hL hmode hd hi hwr hv0 hv1 hv2 hle
  have hmm := @run_makeMap Tryz.prog
  go_enter Tryz.func19, Tryz.ntmps19
  go_wp2
  go_still_tail 8, (by kernel_rfl)
  go_wp2_with (first
    | (go_at_call 51; refine (HR.out).mono ?_; rintro e w1 ⟨rfl, ht1, ho1⟩
       have h1' : PRep w1 X okP bo vw vm := HX.out.1.move (fun k hk _ => ho1.block k (fun e => (HX.out.2.2.2.2.1 k hk).2.1 (by rw [e, HX.out.2.2.2.2.2.2.2.2.2.2.2])))
       have hD1 : DiskAt w1 X.d M okD := HX.out.2.1.move (fun k hk _ => ho1.block k (fun e => (HX.out.2.2.2.2.2.1 k hk).2.1 (by rw [e, HX.out.2.2.2.2.2.2.2.2.2.2.2])))
       have hs1 : w1.heap.size = w.heap.size := ho1.size
       have HC := committed_log ⟨bo, vw, vm, h1'⟩ hD1 (fun j hj => (HX.out.2.2.2.2.1 j hj).2.2.1) (fun j hj => by have := (HX.out.2.2.2.2.1 j hj).2.2.2; omega) HY.out.1 HY.out.2.1 HY.out.2.2.2.1 HY.out.2.2.1.jn HY.out.2.2.1.base HY.out.2.2.1.len HY.out.2.2.1.md HY.out.2.2.1.log (rest := []) (by simp) (.inl (by simp)) HY.out.2.2.1.ne HY.out.2.2.1.chain
       rw [← HX.out.2.2.2.2.2.2.2.2.2.2.1, ← HLE.out] at HC
       replace HC := Aside0.mk HC
       have H1 := Aside0.mk (And.intro h1' (And.intro ht1 ho1))
       clear h1' ht1 ho1 hD1 hs1)
    | (go_at_call 50; refine (HC.out).mono ?_; rintro e w2 ⟨v, rfl, M', okd', hv, hP2, hD2, hk2, hF2, hM2⟩
       obtain ⟨bo2, vw2, vm2, hPr2⟩ := hP2
       have h2 := hPr2.hp
       have hpe : ({ X with sure := (le : Int) } : PG).p = p := HX.out.2.2.2.2.2.2.2.2.2.2.1.symm
       rw [hpe] at h2
       obtain ⟨A3, c3', rfl⟩ := hv.slice
       have hbl : (comB c bs k).length ≤ 2097152 := by rw [comB_length HY.out.2.2.1.chain]; have := HY.out.2.2.1.chain.most; omega
       have HB := Aside0.mk (And.intro hv (And.intro hPr2 (And.intro hD2 (And.intro hk2 (And.intro hF2 (And.intro hM2 h2))))))
       generalize hn : (comB c bs k).length = bn at *
       have HN := Aside0.mk hn
       have hlt2 : p < w2.heap.size := heap_lt h2
       have d5 := cell_of_row w2 p 5 _ _ (0, 0) h2
       have e5 := frozen_of_cells h2 5
       have d7 := cell_of_row w2 p 7 _ _ (0, 0) h2
       have e7 := frozen_of_cells h2 7
       have d8 := cell_of_row w2 p 8 _ _ (0, 0) h2
       have e8 := frozen_of_cells h2 8
       have d9 := cell_of_row w2 p 9 _ _ (0, 0) h2
       have e9 := frozen_of_cells h2 9
       clear hv hPr2 hD2 hk2 hF2 hM2 h2 hn hpe))
  go_ret
  refine ⟨rfl, ?_⟩
  obtain ⟨hPr, hD, hT, hLk, h5, h6, h7, hc, hv0, hRz, hp, hl'⟩ := HX.out
  obtain ⟨hq, hcc, hL, hmode, hd, hi, hwr⟩ := HY.out
  obtain ⟨h1', ht1, ho1⟩ := H1.out
  obtain ⟨hv, hPr2, hD2, hk2, hF2, hM2, h2⟩ := HB.out
  have hbn := HN.out
  have hle := HLE.out
  have hs1 : w1.heap.size = w.heap.size := ho1.size
  have hs2 : w1.heap.size ≤ w2.heap.size := hF2.size
  have b5 := row13_set9 (row13_set8 (row13_set7 (row13_set5 h2 (.bool true)) (.slice A3 bn c3')) (.map (some w2.heap.size))) (.int .i64 ((bn : Int) / 512))
  generalize hW : ((((w2.setCell ⟨p, 5, none⟩ (.bool true)).setCell ⟨p, 7, none⟩ (.slice A3 bn c3')).setCell ⟨p, 8, none⟩ (.map (some w2.heap.size))).setCell ⟨p, 9, none⟩ (.int .i64 ((bn : Int) / 512))) = W at b5 ⊢
  have hO : Only p w2 W := by rw [← hW]; exact ((((Only.refl p w2).set_ 5 _).set_ 7 _).set_ 8 _).set_ 9 _
  have hsW : W.heap.size = w2.heap.size := hO.size
  have kA : ∀ k, k < w2.heap.size → (W.alloc (.map #[] 0)).heap[k]? = W.heap[k]? := fun k hk => Below.heap_alloc _ _ _ (by omega)
  have kW : ∀ k, k < w2.heap.size → k ≠ p → (W.alloc (.map #[] 0)).heap[k]? = w2.heap[k]? := fun k hk hkp => (kA k hk).trans (hO.block k hkp)
  have hsA : (W.alloc (.map #[] 0)).heap.size = w2.heap.size + 1 := by simp [hsW]
  have hpP : okP p := by rw [hp]; exact hPr.okp
  have hpnd : ¬ okd' p := fun hh => by
    rcases hk2 p hh with h | h
    · exact (h5 p hpP).2.2.1 h.1
    · have := (h5 p hpP).2.2.2; omega
  have hlt1 : l < w1.heap.size := ht1.lt
  have hlnd : ¬ okd' l := fun hh => by
    rcases hk2 l hh with h | h
    · exact (h6 l h.1).2.1 hl'
    · omega
  have hl2 : w2.heap[l]? = w1.heap[l]? := hF2.block l hlt1 (fun hh => hh.elim (fun h => (h6 l h).2.1 hl') (fun h => (h5 p hpP).2.1 (by rw [← hl', h, ← hp])))
  have hpl' : l ≠ p := fun e => (h5 p hpP).2.1 (by rw [← e, ← hl'])
  refine ⟨M', hM2, ⟨⟨fun j => okP j ∨ (w.heap.size ≤ j ∧ j < (W.alloc (.map #[] 0)).heap.size ∧ ¬ okd' j), okd', rX x X.c 1, 1, ?_, ?_, ?_, ?_, fun j hj => ?_, fun j hj => ?_, .inl h7, hc, fun h => ?_, fun _ => .inl rfl, fun h => ?_⟩, ?_⟩⟩
  · refine ⟨w2.heap.size, .slice A3 bn c3', vm2, ?_, .inl (by show okP X.p; rw [← hp]; exact hpP), ?_, fun _ => ?_, ?_⟩
    · have h6' := (kA p hlt2).trans b5
      rw [hp] at h6'
      show _ = some (Obj.cells #[dp X.d, .int .i64 X.mode, dp X.l, .int .i64 X.c, .bool X.dead, .bool true, .bool X.wrote, .slice A3 bn c3', .map (some w2.heap.size), .int .i64 ((comB c bs k).length / 512 : Nat), vm2, .int .i64 X.next, .int .i64 ((logB bs).length : Nat)] _ _)
      rw [hbn, ← hle]
      exact h6'
    · show RB _ _ _ (comB c bs k)
      refine hv.same (fun j hj => kW j (hv.lt hj) (hv.ne h2 (fun cs e => by injection e with _ e2; cases e2) hj)) (fun j hj => .inr ⟨by have := (hv.1 j hj).1; omega, by have := hv.lt hj; omega, (hv.1 j hj).2⟩)
    · refine ⟨.inr ⟨by omega, by omega, fun hh => ?_⟩, fun _ => none, 0, ?_, fun _ _ => rfl, fun x v hx => by cases hx⟩
      · rcases hk2 _ hh with h | h
        · omega
        · omega
      · have := SMap.made Tryz.prog 3 W
        rw [hsW] at this
        exact this
    · exact hPr2.marks.other (p := p) h2 (fun j hok hj hjp => kW j hj hjp) (fun j hj => .inl hj) (Nat.le_refl _)
  · exact hD2.move (fun j hj hl => kW j hl (fun e => hpnd (e ▸ hj)))
  · show Tab _ _ X.l _
    rw [← hl']
    exact (kW l (by omega) hpl').trans (hl2.trans ht1)
  · have := hRz.2
    rw [hv0] at this
    exact this
  · rcases hj with hj | hj
    · have := h5 j hj
      refine ⟨.inl this.1, this.2.1, fun hh => ?_, by omega⟩
      rcases hk2 j hh with h | h
      · exact this.2.2.1 h.1
      · omega
    · refine ⟨.inr ⟨hj.1, hj.2.1⟩, fun e => ?_, hj.2.2, hj.2.1⟩
      have e' : j = l := by rw [hl']; exact e
      omega
  · refine ⟨?_, fun e => hlnd (by rw [hl']; exact e ▸ hj), ?_⟩
    · rcases hk2 j hj with h | h
      · exact .inl (h6 j h.1).1
      · exact .inr ⟨by omega, by omega⟩
    · rcases hk2 j hj with h | h
      · omega
      · omega
  · cases h
  · exact absurd (show X.wrote = true from h) (by rw [hwr]; decide)
  · refine ⟨hO.os.trans (hF2.os.trans ho1.os), hO.tape.trans (hF2.tape.trans ho1.tape), hO.output.trans (hF2.output.trans ho1.output), by rw [hsA]; omega, fun j hj hn' => ?_⟩
    have hjp : j ≠ p := fun e => hn' (by rw [e]; exact (h5 p hpP).1)
    have hjl : j ≠ l := fun e => hn' (by rw [e, hl']; exact h7)
    exact (kW j (by omega) hjp).trans ((hF2.block j (by omega) (fun hh => hh.elim (fun h => hn' (h6 j h).1) (fun h => hjp (by rw [hp]; exact h)))).trans (ho1.block j hjl))
end Go.Proofs.YtmdpgjdepflbmaaGreat
namespace Go.Proofs.YtmdpgjdepflbmaaGreat
open Go.RowKit Go.Maps Go.Proofs.YtmdpgjdepflbmaaGreatW.PrintWords Go.Proofs.YtmdpgjdepflbmaaGreatW.PrintLast Go.Proofs.YtmdpgjdepflbmaaGreatW.PrintMore
open Go.Proofs.YtmdpgjdepflbmaaGreat.PPagerFolds
set_option linter.unusedVariables false
set_option linter.unusedSimpArgs false

/-- a pager that knows up to where its log is safe -/
def PG.sured (X : PG) (s : Int) : PG := { X with sure := s }
/-- the log of a disk is the blocks bs -/
def LogIs (M : DM) (bs : List BK) : Prop := (M.fs (nm sL) = none ∧ bs = []) ∨ M.fs (nm sL) = some (logB bs, logB bs)
theorem blocks_q {w : World} {d p : Nat} {M : DM} {ok : Nat → Prop} (h : DiskAt w d M ok) (hp : w.cell? ⟨p, 0, none⟩ = some (dptr d)) (ho : M.off = false) {bs : List BK} (hL : LogIs M bs) (hB : ∀ B ∈ bs, BKok B) (hlen : (logB bs).length ≤ 4194304) :
    Calls Tryz.prog 87 #[dp p] w fun e w' => ∃ m cnt, e = .returned (.tuple #[.map (some m), .int .i64 cnt, .int .i64 (logB bs).length, .int .i64 (logB bs).length, .int .i64 0]) ∧ Below w.heap.size w w' := by
  rcases hL with ⟨hx, rfl⟩ | hx
  · refine (blocks_none h hp ho hx).mono ?_
    rintro e w' ⟨rfl, n, rfl⟩
    exact ⟨_, _, rfl, (pw_below_drewN (Below.refl _ _) n).alloc (Nat.le_refl _) _⟩
  · refine (blocks_any h hp ho hx (rest := []) (by simp) (.inl (by simp)) hB hlen).mono ?_
    rintro e w' ⟨m, rfl, _, _, _, hb⟩
    exact ⟨_, _, rfl, hb⟩

set_option maxHeartbeats 2000000 in
set_option maxRecDepth 100000 in
theorem byLog_any {w : World} {X : PG} {M : DM} {okP okD : Nat → Prop} {cc : Int} {bl sz bo : Nat} {vw vm : Value} {f : Int → Option Value} {pg : Own} {Q : Nat → Prop} {bs : List BK} (hP : PRep w X okP bo vw vm) (hPl : ∀ k, okP k → k < w.heap.size) (hD : DiskAt w X.d M okD) (hq : Quiet M cc) (hc : cc + 100 < 1000000) (hPD : ∀ k, okP k → ¬ okD k) (hM : PgM w bl f sz pg Q) {L : List Int} (hL : IsInts f L)
    (hlog : LogIs M bs) (hB : ∀ B ∈ bs, BKok B) (hlen : (logB bs).length + (9 + L.length * 516) ≤ 4194304) :
    Calls Tryz.prog 58 #[dp X.p, .map (some bl)] w fun e w' => e = .returned (.int .i64 0) ∧ ∃ okx, DiskAt w' X.d (ly1 M (nm sL) (logB bs).length (blockB X.count pg L)) okx ∧ (∀ k, okx k → okD k ∨ w.heap.size ≤ k) ∧ Fr (fun k => okD k ∨ k = X.p) w w' ∧ PgAt w' (X.sured (((logB bs).length + (9 + L.length * 516) : Nat) : Int)) okP := by
  have hmem : ∀ n ∈ L, ((pg n).getD []).length = 512 := fun n hn => by
    obtain ⟨v, hv⟩ := Option.isSome_iff_exists.1 ((hL.2 n).1 hn)
    obtain ⟨_, _, bs', _, _, _, _, _, hbs, hl, _⟩ := hM.some_ n v hv
    rw [hbs]; exact hl
  have hplt := hP.lt
  have c0 := hP.cell 0
  have c9 := hP.cell 9
  have hBl := block_any hM hL X.count
  obtain ⟨blk, hblk⟩ : ∃ blk, blk = blockB X.count pg L := ⟨_, rfl⟩
  have hbl := blockB_length X.count hmem
  rw [← hblk] at hBl hbl ⊢
  obtain ⟨nb, hnb⟩ : ∃ nb, nb = 9 + L.length * 516 := ⟨_, rfl⟩
  obtain ⟨le, hle⟩ : ∃ le, le = (logB bs).length := ⟨_, rfl⟩
  rw [← hnb, ← hle] at hlen ⊢
  rw [← hnb] at hbl
  have q1 : decide ((4194304 : Int) < (le : Int) + (nb : Int)) = false := decide_eq_false (by omega)
  have q2 : decide ((le : Int) < (le : Int)) = false := decide_eq_false (by omega)
  obtain ⟨p, hp⟩ : ∃ p, p = X.p := ⟨_, rfl⟩
  rw [← hp] at hplt c0 c9 ⊢
  have HBl := Aside0.mk hBl
  have HX := Aside0.mk (And.intro hP (And.intro hPl (And.intro hD (And.intro hq (And.intro hc (And.intro hPD (And.intro hlog (And.intro hB (And.intro hbl (And.intro hle (And.intro hp (And.intro hplt c0))))))))))))
  have HN := Aside0.mk hnb
  have hlen2 : le ≤ 4194304 := by omega
  have hlen3 : nb ≤ 4194304 := by omega
  clear hP hPl hD hq hc hPD hM hL hlog hB hmem hblk hbl hnb hle hp hBl
  go_enter Tryz.func58, Tryz.ntmps58
  go_wp2_with (first
    | (go_at_call 92; refine HBl.out.mono ?_; rintro e w1 ⟨v3, rfl, hv3, hb1⟩
       obtain ⟨A3, c3, rfl⟩ := Kd.R_slice hv3
       rw [HX.out.2.2.2.2.2.2.2.2.1]
       have hBs := blocks_q (HX.out.2.2.1.below hb1) ((hb1.cell (p := ⟨p, 0, none⟩) hplt).trans c0) HX.out.2.2.2.1.off HX.out.2.2.2.2.2.2.1 HX.out.2.2.2.2.2.2.2.1 (by rw [← HX.out.2.2.2.2.2.2.2.2.2.1]; exact hlen2)
       rw [← HX.out.2.2.2.2.2.2.2.2.2.1] at hBs
       have HBs := Aside0.mk hBs
       have H1 := Aside0.mk (And.intro hv3 hb1)
       clear hv3 hb1 hBs)
    | (go_at_call 87; refine HBs.out.mono ?_; rintro e w2 ⟨m, cnt, rfl, hb2⟩
       obtain ⟨hv3, hb1⟩ := H1.out
       have hb02 := hb1.trans (hb2.mono hb1.size)
       have hv4 := Kd.R_below hv3 hb2
       obtain ⟨hC4, hc4, _⟩ := C_of_row hv4
       rw [HX.out.2.2.2.2.2.2.2.2.1] at hC4 hc4
       have hLy := lay_any (s := sL) (a := le) (cb := c3) (ok := fun k => okD k ∧ k < w.heap.size) (HX.out.2.2.1.tight.below hb02) HX.out.2.2.2.1 (by have := HX.out.2.2.2.2.1; omega) (.inr (.inr rfl)) good_L ((hb02.cell (p := ⟨p, 0, none⟩) hplt).trans c0) (fun h => HX.out.2.2.2.2.2.1 p (by rw [HX.out.2.2.2.2.2.2.2.2.2.2.1]; exact HX.out.1.okp) h.1) (Ab := A3) (nb := nb) (b := blk) ⟨hC4, fun ad e hk => by subst e; have h1 := hv3.1 ad.block rfl; have h2 := hk.2; omega⟩ (fun ad e => by subst e; exact Kd.R_lt hv4 ad.block rfl) (by have := HN.out; omega) hlen
       have HLy := Aside0.mk hLy
       have H2 := Aside0.mk hb02
       clear hb2 hv3 hb1 hb02 hv4 hC4 hc4 hLy)
    | (go_at_call 91; refine HLy.out.mono ?_; rintro e w3 ⟨rfl, okx, hD3, hk3, hF3⟩
       have hrow3 : w3.heap[p]? = _ := (hF3.block p (Nat.lt_of_lt_of_le hplt H2.out.size) (fun h => HX.out.2.2.2.2.2.1 p (by rw [HX.out.2.2.2.2.2.2.2.2.2.2.1]; exact HX.out.1.okp) h.1)).trans ((H2.out.block p hplt).trans (HX.out.2.2.2.2.2.2.2.2.2.2.1 ▸ HX.out.1.hp))
       have d12 := cell_of_row w3 p 12 _ _ (0, 0) hrow3
       have e12 := frozen_of_cells hrow3 12
       have H3 := Aside0.mk (And.intro hD3 (And.intro hk3 (And.intro hF3 hrow3)))
       clear hD3 hk3 hF3 hrow3))
  go_ret
  obtain ⟨hP, hPl, hD, hq, hc, hPD, hlog, hB, hbl, hle, hp, _, _⟩ := HX.out
  obtain ⟨hD3, hk3, hF3, hrow3⟩ := H3.out
  have hb := H2.out
  have hs2 := hb.size
  have hs3 := hF3.size
  have hpP : okP p := by rw [hp]; exact hP.okp
  have hr5 := row13_set12 hrow3 (.int .i64 ((le : Int) + (nb : Int)))
  have hO : Only p w3 (w3.setCell ⟨p, 12, none⟩ (.int .i64 ((le : Int) + (nb : Int)))) := (Only.refl p w3).set_ 12 _
  generalize w3.setCell ⟨p, 12, none⟩ (.int .i64 ((le : Int) + (nb : Int))) = w5 at hO hr5 ⊢
  have s5 : w5.heap.size = w3.heap.size := hO.size
  have hold : ∀ j, ¬ okD j → j ≠ p → j < w.heap.size → w5.heap[j]? = w.heap[j]? := fun j hj hjp hjl => (hO.block j hjp).trans ((hF3.block j (by omega) (fun h => hj h.1)).trans (hb.block j hjl))
  refine ⟨rfl, okx, hD3.move (fun j hj hjl => hO.block j (fun e => ?_)), fun j hj => (hk3 j hj).imp (fun h => h.1) (fun h => by omega), ⟨hO.os.trans (hF3.os.trans hb.os), hO.tape.trans (hF3.tape.trans hb.tape), hO.output.trans (hF3.output.trans hb.output), by omega, fun j hj hn' => hold j (fun h => hn' (.inl h)) (fun h => hn' (.inr (by rw [h, hp]))) hj⟩, ?_⟩
  · subst e
    rcases hk3 _ hj with h | h
    · exact hPD _ hpP h.1
    · omega
  · show PgAt w5 { X with sure := _ } okP
    refine hP.sure _ ?_ (fun j hj hjl hjp => hold j (hPD j hj) (by rw [hp]; exact hjp) hjl)
    rw [← hp, show (((le + nb : Nat)) : Int) = (le : Int) + (nb : Int) by omega]
    exact hr5
end Go.Proofs.YtmdpgjdepflbmaaGreat
namespace Go.Proofs.YtmdpgjdepflbmaaGreat
open Go.RowKit Go.Maps Go.Proofs.YtmdpgjdepflbmaaGreatW.PrintWords Go.Proofs.YtmdpgjdepflbmaaGreatW.PrintLast Go.Proofs.YtmdpgjdepflbmaaGreatW.PrintMore
open Go.Proofs.YtmdpgjdepflbmaaGreat.PPagerFolds
set_option linter.unusedVariables false
set_option linter.unusedSimpArgs false

/-- what a commit by the log leaves of the disk -/
def CL (X : PG) (M M' : DM) (bs : List BK) : Prop := ∃ L, KeysOf (newsP X) L ∧ ((L = [] ∧ M'.fs = M.fs) ∨ (L ≠ [] ∧ M'.fs = fun x => if x = nm sL then some (logB (bs ++ [⟨X.count.toNat, newsP X, L⟩]), logB (bs ++ [⟨X.count.toNat, newsP X, L⟩])) else M.fs x))
theorem LogIs.seen {M : DM} {bs : List BK} (h : LogIs M bs) : ((M.fs (nm sL)).getD ([], [])).2 = logB bs := by
  rcases h with ⟨h, rfl⟩ | h
  · rw [h]; rfl
  · rw [h]; rfl
theorem ly1_log {M : DM} {bs : List BK} {B : BK} (h : LogIs M bs) : (ly1 M (nm sL) (logB bs).length (blockB B.cnt B.pg B.L)).fs = fun x => if x = nm sL then some (logB (bs ++ [B]), logB (bs ++ [B])) else M.fs x := by
  funext x
  by_cases e : x = nm sL
  · subst e
    have h1 := lay_end (logB bs) B
    rw [if_pos rfl, logB_snoc, ← h1]
    simp [ly1, sy1, wr1, setF, h.seen]
  · rw [ly1_other _ _ _ _ e, if_neg e]
/-- a transaction has ended behind what was done on the disk -/
theorem sys_end2 {w w3 w4 : World} {X : PG} {M' : DM} {ok okP okD okD3 : Nat → Prop} {x3 : Nat → Int} {v3 : Int} (h5 : ∀ k, okP k → ok k ∧ k ≠ X.l ∧ ¬ okD k ∧ k < w.heap.size) (h6 : ∀ k, okD k → ok k ∧ k ≠ X.l ∧ k < w.heap.size) (h7 : ok X.l) (hc : X.c = 0) (hl : X.l < w.heap.size)
    (hF : Fr (fun k => okD k ∨ k = X.l ∨ okP k) w w3) (hD3 : DiskAt w3 X.d M' okD3) (hk3 : ∀ k, okD3 k → okD k ∨ w.heap.size ≤ k) (ht3 : ∀ k, okD3 k → k < w3.heap.size) (hL : LK x3 v3) (hv : 0 ≤ v3) (hE : PLeft w3 X.ended (lX x3 X.c 0) okP w4) : SLeft w X.ended M' ok w4 := by
  obtain ⟨hP', hT', hF4⟩ := hE
  have s3 := hF.size
  have s4 := hF4.size
  have hlo := hL.lower hv
  rw [show ((0 : Nat) : Int) = ((X.c : Nat) : Int) by rw [hc]] at hlo
  have hdis : ∀ k, okD3 k → ¬ (okP k ∨ k = X.ended.l) := fun k hk h => by
    rcases h with h | h
    · rcases hk3 k hk with h' | h'
      · exact (h5 k h).2.2.1 h'
      · have := (h5 k h).2.2.2; omega
    · have h'' : k = X.l := h
      rcases hk3 k hk with h' | h'
      · exact (h6 k h').2.1 h''
      · omega
  refine ⟨⟨_, okD3, _, 0, hP', hD3.move (fun k hk hlt => hF4.block k hlt (hdis k hk)), hT', hlo, fun k hk => ?_, fun k hk => ⟨?_, fun e => ?_, by have := ht3 k hk; omega⟩, .inl h7, hc, fun _ => rfl, (fun h => by cases h), (fun h => by cases h)⟩, ?_⟩
  · rcases hk with hk | hk
    · have := h5 k hk
      exact ⟨.inl this.1, this.2.1, fun h => hdis k h (.inl hk), by omega⟩
    · exact ⟨.inr ⟨by omega, hk.2⟩, fun e => by have e' : k = X.l := e; omega, fun h => by have := ht3 k h; omega, hk.2⟩
  · rcases hk3 k hk with h | h
    · exact .inl (h6 k h).1
    · exact .inr ⟨h, by have := ht3 k hk; omega⟩
  · exact hdis k hk (.inr e)
  · exact (hF.wide (fun k _ hk => hk.elim (fun h => (h6 k h).1) (fun h => h.elim (fun h => h ▸ h7) (fun h => (h5 k h).1)))).trans hF4 (fun k hk => .inl (hk.elim (fun h => (h5 k h).1) (fun h => h ▸ h7)))
set_option maxHeartbeats 2000000 in
set_option maxRecDepth 100000 in
theorem s_commit_log {w : World} {X : PG} {M : DM} {ok : Nat → Prop} {c : Int} (h : Sys w X M ok) (hq : Quiet M c) (hc : c + 20000 < 1000000) (hmode : X.mode = 2) {bs : List BK} (hlog : LogIs M bs) (hBs : ∀ B ∈ bs, BKok B) (hll0 : (logB bs).length + 9 + 516 * 4096 ≤ 4194304) (hd : X.dead = false) (hi : X.inn = true) (hT : TI X) :
    Calls Tryz.prog 26 #[dp X.p] w fun e w' => e = .returned (.int .i64 0) ∧ ∃ M' s, SLeft w (X.sured s).ended M' ok w' ∧ CL X M M' bs ∧ Quiet M' (c + 5000) := by
  have HZ := Aside0.mk (And.intro hlog (And.intro hBs hll0))
  clear hlog hBs hll0
  obtain ⟨okP, okD, x, v, hP, hD, hTb, hL, h5, h6, h7, hcc, hv0, hv1, hv2⟩ := h
  have hv := hv1 hi
  have HA := ask_any hP
  have hE : askE X = 0 := by unfold askE; rw [hd, hi]; rfl
  rw [hE] at HA
  obtain ⟨bo, vw, vm, hPr⟩ := hP
  have HN := news_any hPr hi hT.was
  have c6 := hPr.cell 6
  have c1 := hPr.cell 1
  have c2 := hPr.cell 2
  have c3 := hPr.cell 3
  have hplt := hPr.lt
  obtain ⟨p, hp⟩ : ∃ p, p = X.p := ⟨_, rfl⟩
  obtain ⟨l, hl⟩ : ∃ l, l = X.l := ⟨_, rfl⟩
  rw [← hp] at HA HN c6 c1 c2 c3 hplt ⊢
  rw [← hl] at c2
  rw [hmode] at c1
  rw [hcc] at c3
  have HA := Aside0.mk HA
  have HN := Aside0.mk HN
  have HX := Aside0.mk (And.intro hPr (And.intro hD (And.intro hTb (And.intro hL (And.intro h5 (And.intro h6 (And.intro h7 (And.intro hcc (And.intro hv0 (And.intro hv1 hv2))))))))))
  have HY := Aside0.mk (And.intro hp (And.intro hl (And.intro hq (And.intro hc (And.intro hmode (And.intro hd (And.intro hi (And.intro hT hv))))))))
  have HC := Aside0.mk (And.intro c6 (And.intro c1 (And.intro c2 c3)))
  by_cases hwr : X.wrote = true
  · rw [hwr] at c6
    have hR := hL.raise (level := 4) (by omega) (by have := hv2 hwr; omega)
    have HRL := Aside0.mk (show rE x 0 4 = 0 ∧ LK (rX x 0 4) (if v < 4 then 4 else v) from hR)
    clear hPr hD hTb hL h5 h6 h7 hcc hv0 hv1 hv2 hv hp hl hq hc hmode hd hi hT hE hwr hR
    go_enter Tryz.func26, Tryz.ntmps26
    go_wp2_with (first
      | (go_at_call 53; refine HA.out.mono ?_; rintro e w' ⟨rfl, rfl⟩)
      | (go_at_call 56; refine HN.out.mono ?_; rintro e w1 ⟨rfl, hM1, hb1⟩
         have d6 : w1.cell? ⟨p, 6, none⟩ = some (.bool true) := (hb1.cell (p := ⟨p, 6, none⟩) hplt).trans c6
         have d2 : w1.cell? ⟨p, 2, none⟩ = some (dp l) := (hb1.cell (p := ⟨p, 2, none⟩) hplt).trans c2
         have d3 : w1.cell? ⟨p, 3, none⟩ = some (.int .i64 0) := (hb1.cell (p := ⟨p, 3, none⟩) hplt).trans c3
         have H1 := Aside0.mk (And.intro hM1 hb1)
         clear hM1 hb1))
    obtain ⟨⟨f, sz, hM⟩, hb1⟩ := H1.out
    obtain ⟨hPr, hD, hTb, hL, h5, h6, h7, hcc, hv0, hv1, hv2⟩ := HX.out
    obtain ⟨hp, hl, hq, hc, hmode, hd, hi, hT, hv⟩ := HY.out
    have d1 : w1.cell? ⟨p, 1, none⟩ = some (.int .i64 2) := (hb1.cell (p := ⟨p, 1, none⟩) hplt).trans c1
    have s1 := hb1.size
    have hll : l < w.heap.size := by rw [hl]; exact hTb.lt
    have hpl : p ≠ l := fun e => (h5 p (by rw [hp]; exact hPr.okp)).2.1 (by rw [e, hl])
    have hRa := raise_all l x 0 4 w1.drew (show Tab 108 w1.drew l x from by rw [hl]; exact (hb1.block X.l hTb.lt).trans hTb)
    rw [HRL.out.1] at hRa
    have HRa := Aside0.mk hRa
    obtain ⟨L, hLk⟩ := hM.map.keys Tryz.underlying3
    have hsz := hM.map.size_keys Tryz.underlying3 hLk
    have hfew := hM.few
    have HM := Aside0.mk (And.intro hM (And.intro hLk (And.intro hsz hfew)))
    have HLL := Aside0.mk (And.intro hll hpl)
    by_cases hL0 : L = []
    · have hq0 : ((sz : Int) == 0) = true := by rw [← hsz, hL0]; rfl
      have HL0 := Aside0.mk hL0
      have HQ0 := Aside0.mk hq0
      clear hPr hD hTb hL h5 h6 h7 hcc hv0 hv1 hv2 hv hp hl hq hc hmode hd hi hT hM hb1 s1 hll hpl hRa hLk hsz hfew hL0 hq0
      go_still_tail 8, (by kernel_rfl)
      go_wp2_with (first
        | (go_at_call 51; refine HRa.out.mono ?_; rintro e w2 ⟨rfl, ht2, ho2⟩
           have e1 : w2.cell? ⟨p, 1, none⟩ = some (.int .i64 2) := (World.cell?_of_block (w := w1) (a := ⟨p, 1, none⟩) (ho2.block p HLL.out.2)).trans d1
           have hM2 : SMap Tryz.prog 3 w2 w.heap.size f sz := HM.out.1.map.move (ho2.block w.heap.size (by have := HLL.out.1; omega))
           have hlen : (Builtin.len_ #[110] 3 #[.map (some w.heap.size)]).run Tryz.prog w2 = .ok (.int .i64 (sz : Int)) w2 := hM2.len Tryz.underlying110 3
           have hq0 := HQ0.out
           have hPm : PgAt w2 X okP := ⟨bo, vw, vm, (HX.out.1.move (fun k _ hk => H1.out.2.block k hk)).move (fun k hk _ => ho2.block k (fun e => (HX.out.2.2.2.2.1 k hk).2.1 (by rw [e, ← HY.out.2.1])))⟩
           have hEn := end_any (X := X) (ok := okP) hPm (show Tab 108 w2 X.l (rX x 0 4) from by rw [← HY.out.2.1]; exact ht2) (fun hk => (HX.out.2.2.2.2.1 _ hk).2.1 rfl)
           rw [← HY.out.1] at hEn
           have HEn := Aside0.mk hEn
           have H2 := Aside0.mk (And.intro ht2 ho2)
           clear ht2 ho2 hM2 hPm hEn)
        | (go_at_call 59; refine HEn.out.mono ?_; rintro e w4 ⟨rfl, hl4⟩; have H4 := Aside0.mk hl4; clear hl4))
      go_ret
      obtain ⟨hPr, hD, hTb, hL, h5, h6, h7, hcc, hv0, hv1, hv2⟩ := HX.out
      obtain ⟨hp, hl, hq, hc, hmode, hd, hi, hT, hv⟩ := HY.out
      obtain ⟨ht2, ho2⟩ := H2.out
      have hb1 := H1.out.2
      have s1 := hb1.size
      have s2 : w2.heap.size = w1.heap.size := ho2.size
      have hF2 : Fr (fun k => okD k ∨ k = X.l) w w2 := ⟨ho2.os.trans hb1.os, ho2.tape.trans hb1.tape, ho2.output.trans hb1.output, by omega, fun k hk hn => (ho2.block k (fun e => hn (.inr (by rw [e, hl])))).trans (hb1.block k hk)⟩
      refine ⟨rfl, M, X.sure, sys_end (X := X) h5 h6 h7 hcc hTb.lt hF2 ((hD.below hb1).move (fun k hk _ => ho2.block k (fun e => (h6 k hk).2.1 (by rw [e, hl])))) (fun k hk => .inl hk) (fun k hk => by have := (h6 k hk).2.2; omega) HRL.out.2 (by split <;> omega) (by rw [show (X.c : Int) = 0 by rw [hcc]; rfl]; have := H4.out; rw [show (X.c : Int) = 0 by rw [hcc]; rfl] at this; exact this), ⟨L, (HM.out.1.isInts).1 HM.out.2.1, .inl ⟨HL0.out, rfl⟩⟩, hq.more (by omega)⟩
    · have hq0 : ((sz : Int) == 0) = false := by
        have : L.length ≠ 0 := fun h => hL0 (List.eq_nil_of_length_eq_zero h)
        simp; omega
      have HL0 := Aside0.mk hL0
      have HQ0 := Aside0.mk hq0
      clear hPr hD hTb hL h5 h6 h7 hcc hv0 hv1 hv2 hv hp hl hq hc hmode hd hi hT hM hb1 s1 hll hpl hRa hLk hsz hfew hL0 hq0
      go_still_tail 8, (by kernel_rfl)
      go_wp2_with (first
        | (go_at_call 51; refine HRa.out.mono ?_; rintro e w2 ⟨rfl, ht2, ho2⟩
           have e1 : w2.cell? ⟨p, 1, none⟩ = some (.int .i64 2) := (World.cell?_of_block (w := w1) (a := ⟨p, 1, none⟩) (ho2.block p HLL.out.2)).trans d1
           have hM2 : PgM w2 w.heap.size f sz (newsP X) okP := HM.out.1.move (ho2.block w.heap.size (by have := HLL.out.1; omega)) (fun k hk _ => ho2.block k (fun e => (HX.out.2.2.2.2.1 k hk).2.1 (by rw [e, ← HY.out.2.1]))) (by rw [ho2.size]; exact Nat.le_refl _) (fun _ h _ => h)
           have hlen : (Builtin.len_ #[110] 3 #[.map (some w.heap.size)]).run Tryz.prog w2 = .ok (.int .i64 (sz : Int)) w2 := hM2.map.len Tryz.underlying110 3
           have hq0 := HQ0.out
           have hPm : PRep w2 X okP bo vw vm := (HX.out.1.move (fun k _ hk => H1.out.2.block k hk)).move (fun k hk _ => ho2.block k (fun e => (HX.out.2.2.2.2.1 k hk).2.1 (by rw [e, ← HY.out.2.1])))
           have hDm : DiskAt w2 X.d M okD := (HX.out.2.1.below H1.out.2).move (fun k hk _ => ho2.block k (fun e => (HX.out.2.2.2.2.2.1 k hk).2.1 (by rw [e, ← HY.out.2.1])))
           have sw2 : w.heap.size ≤ w2.heap.size := by rw [ho2.size]; exact H1.out.2.size
           have hBj := byLog_any hPm (fun k hk => Nat.lt_of_lt_of_le (HX.out.2.2.2.2.1 k hk).2.2.2 sw2) hDm HY.out.2.2.1 (by have := HY.out.2.2.2.1; omega) (fun k hk => (HX.out.2.2.2.2.1 k hk).2.2.1) hM2 HM.out.2.1 HZ.out.1 HZ.out.2.1 (by have := HZ.out.2.2; have := HM.out.2.2.1; have := HM.out.2.2.2; omega)
           rw [← HY.out.1] at hBj
           have HBj := Aside0.mk hBj
           have H2 := Aside0.mk (And.intro ht2 (And.intro ho2 sw2))
           clear ht2 ho2 hM2 hPm hDm hBj sw2)
        | (go_at_call 58; refine HBj.out.mono ?_; rintro e w3 ⟨rfl, okx, hD3, hk3, hF3, hP3⟩
           have hEn := end_any hP3 (show Tab 108 w3 X.l (rX x 0 4) from by
             rw [← HY.out.2.1]
             exact (hF3.block l H2.out.1.lt (fun h => h.elim (fun h => (HX.out.2.2.2.2.2.1 l h).2.1 HY.out.2.1) (fun h => HLL.out.2 h.symm))).trans H2.out.1) (fun hk => (HX.out.2.2.2.2.1 _ hk).2.1 rfl)
           have hpe : (X.sured (((logB bs).length + (9 + L.length * 516) : Nat) : Int)).p = p := HY.out.1.symm
           rw [hpe] at hEn
           have HEn := Aside0.mk hEn
           have H3 := Aside0.mk (And.intro hD3 (And.intro hk3 hF3))
           clear hD3 hk3 hF3 hP3 hEn hpe)
        | (go_at_call 59; refine HEn.out.mono ?_; rintro e w4 ⟨rfl, hl4⟩; have H4 := Aside0.mk hl4; clear hl4))
      go_ret
      obtain ⟨hPr, hD, hTb, hL, h5, h6, h7, hcc, hv0, hv1, hv2⟩ := HX.out
      obtain ⟨hp, hl, hq, hc, hmode, hd, hi, hT, hv⟩ := HY.out
      obtain ⟨ht2, ho2, _⟩ := H2.out
      obtain ⟨hD3, hk3, hF3⟩ := H3.out
      have hb1 := H1.out.2
      have s1 := hb1.size
      have s2 : w2.heap.size = w1.heap.size := ho2.size
      have s3 := hF3.size
      have hF2 : Fr (fun k => okD k ∨ k = X.l ∨ okP k) w w2 := ⟨ho2.os.trans hb1.os, ho2.tape.trans hb1.tape, ho2.output.trans hb1.output, by omega, fun k hk hn => (ho2.block k (fun e => hn (.inr (.inl (by rw [e, hl]))))).trans (hb1.block k hk)⟩
      have hcn : ((X.count.toNat : Nat) : Int) = X.count := by have := hT.now.c0; omega
      have hlen : L.length ≤ 4096 := by rw [HM.out.2.2.1]; exact HM.out.2.2.2
      have hbl : (blockB X.count (newsP X) L).length = 9 + L.length * 516 := blockB_length _ (fun n hn => by
        obtain ⟨u, hu⟩ := Option.isSome_iff_exists.1 ((HM.out.2.1.2 n).1 hn)
        obtain ⟨_, _, bs', _, _, _, _, _, hbs, hbl, h0, h1⟩ := HM.out.1.some_ n u hu
        rw [hbs]; exact hbl)
      refine ⟨rfl, _, _, sys_end2 (X := X.sured (((logB bs).length + (9 + L.length * 516) : Nat) : Int)) h5 h6 h7 hcc hTb.lt (hF2.trans hF3 (fun k hk => .inl (hk.elim (fun h => .inl h) (fun h => .inr (.inr (by rw [h, hp]; exact hPr.okp)))))) hD3.tight (fun k hk => (hk3 k hk.1).imp id (fun h => by omega)) (fun k hk => hk.2) HRL.out.2 (by split <;> omega) (by show PLeft w3 _ (lX (rX x 0 4) (X.c : Int) 0) okP _; rw [show (X.c : Int) = 0 by rw [hcc]; rfl]; have h9 : PLeft w3 (X.sured (((logB bs).length + (9 + L.length * 516) : Nat) : Int)).ended (lX (rX x 0 4) (X.c : Int) 0) okP _ := H4.out; rw [show (X.c : Int) = 0 by rw [hcc]; rfl] at h9; exact h9), ⟨L, (HM.out.1.isInts).1 HM.out.2.1, .inr ⟨HL0.out, ?_⟩⟩, (ly1_quiet hq (.inr (.inr rfl)) (by omega) (by have := HZ.out.2.2; omega)).more (by omega)⟩
      have h9 := ly1_log (B := ⟨X.count.toNat, newsP X, L⟩) HZ.out.1
      simp only [hcn] at h9
      exact h9
  · have hwr' : X.wrote = false := by simpa using hwr
    rw [hwr'] at c6
    have HWr := Aside0.mk hwr'
    clear hPr hD hTb hL h5 h6 h7 hcc hv0 hv1 hv2 hv hp hl hq hc hmode hd hi hT hE hwr hwr'
    go_enter Tryz.func26, Tryz.ntmps26
    go_wp2_with (first
      | (go_at_call 53; refine HA.out.mono ?_; rintro e w' ⟨rfl, rfl⟩)
      | (go_at_call 56; refine HN.out.mono ?_; rintro e w1 ⟨rfl, hM1, hb1⟩
         have d6 : w1.cell? ⟨p, 6, none⟩ = some (.bool false) := (hb1.cell (p := ⟨p, 6, none⟩) hplt).trans c6
         have hEn := end_any (w := w1) (X := X) (ok := okP) ⟨bo, vw, vm, HX.out.1.move (fun k _ hk => hb1.block k hk)⟩ ((hb1.block X.l HX.out.2.2.1.lt).trans HX.out.2.2.1) (fun hk => (HX.out.2.2.2.2.1 _ hk).2.1 rfl)
         rw [← HY.out.1] at hEn
         have HEn := Aside0.mk hEn
         have H1 := Aside0.mk (And.intro hM1 hb1)
         clear hM1 hb1 hEn)
      | (go_at_call 59; refine HEn.out.mono ?_; rintro e w2 ⟨rfl, hl2⟩; have H2 := Aside0.mk hl2; clear hl2))
    go_ret
    obtain ⟨hPr, hD, hTb, hL, h5, h6, h7, hcc, hv0, hv1, hv2⟩ := HX.out
    obtain ⟨hp, hl, hq, hc, hmode, hd, hi, hT, hv⟩ := HY.out
    obtain ⟨hM1, hb1⟩ := H1.out
    refine ⟨rfl, M, X.sure, sys_end (X := X) h5 h6 h7 hcc hTb.lt (Fr.of_below hb1) (hD.below hb1) (fun k hk => .inl hk) (fun k hk => by have := (h6 k hk).2.2; have := hb1.size; omega) hL (by omega) H2.out, ⟨[], ⟨List.Pairwise.nil, fun n => ?_⟩, .inl ⟨rfl, rfl⟩⟩, hq.more (by omega)⟩
    rw [newsP_empty (hT.wr HWr.out)]
    simp
end Go.Proofs.YtmdpgjdepflbmaaGreat

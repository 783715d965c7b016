/-
  A pager's marks: maps.Clone of its written pages.
-/
import Derived.Test.YtmdpgjdepflbmaaGreatCD
import Derived.Test.YtmdpgjdepflbmaaGreatCKeys
namespace Go.Proofs.YtmdpgjdepflbmaaGreat
open Go.RowKit Go.Maps Go.Proofs.YtmdpgjdepflbmaaGreatW.PrintWords Go.Proofs.YtmdpgjdepflbmaaGreatW.PrintLast Go.Proofs.YtmdpgjdepflbmaaGreatW.PrintMore
open Go.Proofs.YtmdpgjdepflbmaaGreat.PPagerFolds
set_option linter.unusedVariables false
set_option linter.unusedSimpArgs false

theorem OwnAt.other {w w' : World} {ok ok' : Nat → Prop} {b p : Nat} {own : Own} {cs : Array Value} (h5 : OwnAt w ok b own) (hp : w.heap[p]? = some (.cells cs 113 (0, 0))) (hm : ∀ k, ok k → k < w.heap.size → k ≠ p → w'.heap[k]? = w.heap[k]?) (hok : ∀ k, ok k → ok' k) : OwnAt w' ok' b own := by
  obtain ⟨ho1, f, sz, hS, hn, hs⟩ := h5
  have hbp : b ≠ p := by
    obtain ⟨o', ho', hne'⟩ := hS.isMap
    rintro rfl
    rw [hp] at ho'
    exact hne' _ _ (Option.some.inj ho').symm
  refine ⟨hok _ ho1, f, sz, hS.move (hm b ho1 hS.lt hbp), hn, fun x v hx => ?_⟩
  obtain ⟨a1, a2, bs', a3, a4, a5⟩ := hs x v hx
  exact ⟨a1, a2, bs', a3, a4, a5.same (fun k hk => hm k (a5.1 k hk) (a5.lt hk) (a5.ne hp (fun cs e => by injection e with _ e2; cases e2) hk)) (fun k hk => hok k (a5.1 k hk))⟩
end Go.Proofs.YtmdpgjdepflbmaaGreat
namespace Go.Proofs.YtmdpgjdepflbmaaGreat
open Go.RowKit Go.Maps Go.Proofs.YtmdpgjdepflbmaaGreatW.PrintWords Go.Proofs.YtmdpgjdepflbmaaGreatW.PrintLast Go.Proofs.YtmdpgjdepflbmaaGreatW.PrintMore
open Go.Proofs.YtmdpgjdepflbmaaGreat.PPagerFolds
set_option linter.unusedVariables false
set_option linter.unusedSimpArgs false

/-- a pager whose transaction has ended -/
def PG.ended (X : PG) : PG := { X with inn := false, wrote := false, was := [], own := fun _ => none, count := 0, marks := [] }
set_option maxRecDepth 100000 in
theorem end_any {w : World} {X : PG} {ok : Nat → Prop} {x : Nat → Int} (h : PgAt w X ok) (ht : Tab 108 w X.l x) (hl : ¬ ok X.l) :
    Calls Tryz.prog 59 #[dp X.p] w fun e w' => e = .returned (.tuple #[]) ∧ PLeft w X.ended (lX x X.c 0) ok w' := by
  obtain ⟨bo, vw, vm, h⟩ := h
  have hp := h.hp
  have hplt := h.lt
  obtain ⟨p, hpe⟩ : ∃ p, p = X.p := ⟨_, rfl⟩
  rw [← hpe] at hp hplt ⊢
  obtain ⟨l, hle⟩ : ∃ l, l = X.l := ⟨_, rfl⟩
  rw [← hle] at hp ht hl
  have hpl : l ≠ p := fun e => hl (by rw [e, hpe]; exact h.okp)
  obtain ⟨W, hW⟩ : ∃ W, W = (((((w.setCell ⟨p, 5, none⟩ (.bool false)).setCell ⟨p, 6, none⟩ (.bool false)).setCell ⟨p, 7, none⟩ (.slice none 0 0)).setCell ⟨p, 8, none⟩ (.map none)).setCell ⟨p, 9, none⟩ (.int .i64 0)).setCell ⟨p, 10, none⟩ (.slice none 0 0) := ⟨_, rfl⟩
  have hpW : W.heap[p]? = some (.cells #[dp X.d, .int .i64 X.mode, dp l, .int .i64 X.c, .bool X.dead, .bool false, .bool false, .slice none 0 0, .map none, .int .i64 0, .slice none 0 0, .int .i64 X.next, .int .i64 X.sure] 113 (0, 0)) := by
    rw [hW]
    exact (md_set (cs := [_, _, _, _, _, _, _, _, _, _, _, _, _]) (md_set (cs := [_, _, _, _, _, _, _, _, _, _, _, _, _]) (md_set (cs := [_, _, _, _, _, _, _, _, _, _, _, _, _]) (md_set (cs := [_, _, _, _, _, _, _, _, _, _, _, _, _]) (md_set (cs := [_, _, _, _, _, _, _, _, _, _, _, _, _]) (md_set (cs := [_, _, _, _, _, _, _, _, _, _, _, _, _]) hp 5 (.bool false)).1 6 (.bool false)).1 7 (.slice none 0 0)).1 8 (.map none)).1 9 (.int .i64 0)).1 10 (.slice none 0 0)).1
  have hO : Only p w W := by rw [hW]; exact ((((((Only.refl p w).set_ 5 _).set_ 6 _).set_ 7 _).set_ 8 _).set_ 9 _).set_ 10 _
  have htW : Tab 108 W l x := (hO.block l hpl).trans ht
  have HL := Aside0.mk (lower_all l x X.c 0 W.drew htW.drew)
  have c5 := cell_of_row w p 5 _ _ (0, 0) hp
  have c6 := cell_of_row w p 6 _ _ (0, 0) hp
  have c7 := cell_of_row w p 7 _ _ (0, 0) hp
  have c8 := cell_of_row w p 8 _ _ (0, 0) hp
  have c9 := cell_of_row w p 9 _ _ (0, 0) hp
  have c10 := cell_of_row w p 10 _ _ (0, 0) hp
  have e5 := frozen_of_cells hp 5
  have e6 := frozen_of_cells hp 6
  have e7 := frozen_of_cells hp 7
  have e8 := frozen_of_cells hp 8
  have e9 := frozen_of_cells hp 9
  have e10 := frozen_of_cells hp 10
  have d2 : W.cell? ⟨p, 2, none⟩ = some (dp l) := cell_of_row W p 2 _ _ (0, 0) hpW
  have d3 : W.cell? ⟨p, 3, none⟩ = some (.int .i64 X.c) := cell_of_row W p 3 _ _ (0, 0) hpW
  have HX := Aside0.mk (And.intro h (And.intro hpe (And.intro hle (And.intro hpW (And.intro hO (And.intro hpl (And.intro hp (And.intro hl hplt))))))))
  have HW := Aside0.mk hW
  clear h hpe hle hpW hO hpl hp hl ht htW hW
  go_enter Tryz.func59, Tryz.ntmps59
  go_wp2
  rw [← HW.out]
  clear c5 c6 c7 c8 c9 c10 e5 e6 e7 e8 e9 e10
  go_still_tail 8, (by kernel_rfl)
  go_wp2_with (go_at_call 67; refine (HL.out).mono ?_; rintro e w1 ⟨rfl, ht1, ho1⟩; have H1 := Aside0.mk (And.intro ht1 ho1); clear ht1 ho1)
  go_end0
  obtain ⟨h, hpe, hle, hpW, hO, hpl, hp, hl, hplt⟩ := HX.out
  obtain ⟨ht1, ho1⟩ := H1.out
  have hs : w1.heap.size = w.heap.size := ho1.size.trans hO.size
  have k1 : ∀ k, k ≠ p → k ≠ l → w1.heap[k]? = w.heap[k]? := fun k hk hkl => (ho1.block k hkl).trans (hO.block k hk)
  refine ⟨rfl, ⟨bo, .slice none 0 0, .slice none 0 0, ?_, .inl h.okp, RB.nil _ _, (fun e => by cases e), ⟨fun k hk => by simp [Value.ownBlock] at hk, [], rfl, own_nil _ _ _ _, fun i b m e => by simp at e⟩⟩, ?_, ?_⟩
  · show w1.heap[X.p]? = some (.cells #[dp X.d, .int .i64 X.mode, dp X.l, .int .i64 X.c, .bool X.dead, .bool false, .bool false, .slice none 0 0, .map none, .int .i64 0, .slice none 0 0, .int .i64 X.next, .int .i64 X.sure] _ _)
    rw [← hpe, ← hle, ho1.block p (Ne.symm hpl)]
    exact hpW
  · show Tab _ w1 X.l _
    rw [← hle]
    exact ht1
  · refine ⟨ho1.os.trans hO.os, ho1.tape.trans hO.tape, ho1.output.trans hO.output, by omega, fun k hk hn => k1 k (fun e => hn (.inl (by rw [e, hpe]; exact h.okp))) (fun e => hn (.inr (by rw [e, hle]; rfl)))⟩

/-- a transaction is rolled back -/
theorem s_roll {w : World} {X : PG} {M : DM} {ok : Nat → Prop} (h : Sys w X M ok) (hd : X.dead = false) (hi : X.inn = true) :
    Calls Tryz.prog 27 #[dp X.p] w fun e w' => e = .returned (.int .i64 0) ∧ SLeft w X.ended M ok w' := by
  have HA := Aside0.mk (ask_any h.pg)
  have hE : askE X = 0 := by unfold askE; rw [hd, hi]; rfl
  rw [hE] at HA
  have h0 := h
  obtain ⟨okP, okD, x, v, hP, hD, hT, hL, h5, h6, h7, hc, hv0, hv1, hv2⟩ := h
  have HE := Aside0.mk (end_any hP hT (fun hk => (h5 _ hk).2.1 rfl))
  have HX := Aside0.mk h0
  have HL := Aside0.mk (And.intro hP (And.intro hD (And.intro hT (And.intro hL (And.intro h5 (And.intro h6 (And.intro h7 (And.intro hc (And.intro hv1 hi)))))))))
  clear h0 hP hD hT hL h5 h6 h7 hc hv0 hv1 hv2 hd hi hE
  obtain ⟨p, hp⟩ : ∃ p, p = X.p := ⟨_, rfl⟩
  rw [← hp] at HA HE ⊢
  have HP := Aside0.mk hp
  clear hp
  go_enter Tryz.func27, Tryz.ntmps27
  go_wp2_with (first
    | (go_at_call 53; refine (HA.out).mono ?_; rintro e w' ⟨rfl, rfl⟩)
    | (go_at_call 59; refine (HE.out).mono ?_; rintro e w1 ⟨rfl, hl1⟩; have H1 := Aside0.mk hl1; clear hl1))
  go_ret
  obtain ⟨hP', hT', hF⟩ := H1.out
  obtain ⟨hP, hD, hT, hL, h5, h6, h7, hc, hv1, hi⟩ := HL.out
  have hv := hv1 hi
  have hlo := hL.lower (by omega)
  rw [← hc] at hlo
  refine ⟨rfl, ⟨_, okD, _, 0, hP', hD.move (fun k hk hlt => hF.block k hlt (fun h => h.elim (fun h => (h5 k h).2.2.1 hk) (fun h => (h6 k hk).2.1 h))), hT', hlo, fun k hk => ?_, fun k hk => ⟨.inl (h6 k hk).1, (h6 k hk).2.1, Nat.lt_of_lt_of_le (h6 k hk).2.2 hF.size⟩, .inl h7, hc, fun _ => rfl, (fun h => by cases h), (fun h => by cases h)⟩, hF.wide (fun k _ hk => hk.elim (fun h => (h5 k h).1) (fun h => h ▸ h7))⟩
  rcases hk with hk | hk
  · exact ⟨.inl (h5 k hk).1, (h5 k hk).2.1, (h5 k hk).2.2.1, Nat.lt_of_lt_of_le (h5 k hk).2.2.2 hF.size⟩
  · refine ⟨.inr hk, fun e => ?_, fun hk2 => ?_, hk.2⟩
    · have := hT.lt
      rw [e] at hk
      exact absurd this (by have := hk.1; show ¬ X.l < _; exact Nat.not_lt.2 this)
    · have := (h6 k hk2).2.2
      omega

/-! ### a file of pages outside a transaction -/
/-! ### back to a mark -/
end Go.Proofs.YtmdpgjdepflbmaaGreat

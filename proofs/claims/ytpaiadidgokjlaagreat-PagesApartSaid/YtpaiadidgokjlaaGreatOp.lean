/-
  Opening and beginning where there is no journal and no log: undo, fold, blocks, committed.
-/
import Derived.Test.YtpaiadidgokjlaaGreatAll
import Derived.Test.YtpaiadidgokjlaaGreatWr
import Derived.Maps.RangeWalk
namespace Go.Proofs.YtpaiadidgokjlaaGreat
open Go.RowKit Go.Maps Go.Proofs.YtpaiadidgokjlaaGreatW.PrintWords Go.Proofs.YtpaiadidgokjlaaGreatW.PrintLast Go.Proofs.YtpaiadidgokjlaaGreatW.PrintMore
open Go.Proofs.YtpaiadidgokjlaaGreat.PPagesModel
set_option linter.unusedVariables false
set_option linter.unusedSimpArgs false

abbrev sB : ByteArray := ⟨#[98, 97, 115, 101]⟩
abbrev sJ : ByteArray := ⟨#[98, 97, 115, 101, 45, 106, 111, 117, 114, 110, 97, 108]⟩
abbrev sL : ByteArray := ⟨#[98, 97, 115, 101, 45, 108, 111, 103]⟩
theorem lt_cases4 {j : Int} (h0 : 0 ≤ j) (h : j < 4) : j = 0 ∨ j = 1 ∨ j = 2 ∨ j = 3 := by omega
theorem lt_cases8 {j : Int} (h0 : 0 ≤ j) (h : j < 8) : j = 0 ∨ j = 1 ∨ j = 2 ∨ j = 3 ∨ j = 4 ∨ j = 5 ∨ j = 6 ∨ j = 7 := by omega
theorem lt_cases12 {j : Int} (h0 : 0 ≤ j) (h : j < 12) : j = 0 ∨ j = 1 ∨ j = 2 ∨ j = 3 ∨ j = 4 ∨ j = 5 ∨ j = 6 ∨ j = 7 ∨ j = 8 ∨ j = 9 ∨ j = 10 ∨ j = 11 := by omega
theorem good_B : GoodN sB := ⟨fun j h0 h1 => by
  rcases lt_cases4 h0 h1 with rfl | rfl | rfl | rfl <;> exact .inl ⟨by decide, by decide⟩, by decide, by decide⟩
theorem good_L : GoodN sL := ⟨fun j h0 h1 => by
  rcases lt_cases8 h0 h1 with rfl | rfl | rfl | rfl | rfl | rfl | rfl | rfl
  all_goals first | exact .inl ⟨by decide, by decide⟩ | exact .inr (.inr (.inr (by decide))), by decide, by decide⟩
theorem good_J : GoodN sJ := ⟨fun j h0 h1 => by
  rcases lt_cases12 h0 h1 with rfl | rfl | rfl | rfl | rfl | rfl | rfl | rfl | rfl | rfl | rfl | rfl
  all_goals first | exact .inl ⟨by decide, by decide⟩ | exact .inr (.inr (.inr (by decide))), by decide, by decide⟩

theorem undo_none {w : World} {d p : Nat} {M : DM} {ok : Nat → Prop} (h : DiskAt w d M ok) (hp : w.cell? ⟨p, 0, none⟩ = some (dptr d)) (ho : M.off = false) (hx : M.fs (nm sJ) = none) :
    Calls Tryz.prog 142 #[dp p] w fun e w' => e = .returned (.int .i64 0) ∧ ∃ n, w' = w.drewN n := by
  have HA := Aside0.mk (all_none h hp good_J ho hx)
  clear h hp ho hx
  go_enter Tryz.func142, Tryz.ntmps142
  go_wp2_with (go_at_call 143; refine (HA.out).mono ?_; rintro e w' ⟨rfl, n, rfl⟩)
  go_ret
  exact ⟨rfl, _, rfl⟩

theorem wrap_small {x : Int} (h0 : 0 ≤ x) (h : x < 4611686018427387904) : wrap64 x = x := by unfold wrap64; omega
theorem index_none (l : List ByteArray) (s : ByteArray) (hl : l.length ≤ 1000) (hs : ∀ x ∈ l, s.toList ≠ x.toList) : ∀ (k : Nat) (i : Nat), i ≤ l.length → l.length < i + k → slices_Index_string_string.l0 k l s (l.length : Int) (i : Int) = some (-1)
  | 0, i, h1, h2 => by omega
  | k + 1, i, h1, h2 => by
    unfold slices_Index_string_string.l0
    by_cases hc : i < l.length
    · rw [if_pos (by omega), if_pos (by omega), if_pos (by omega), if_neg]
      · rw [wrap_small (by omega) (by omega)]
        exact index_none l s hl hs k (i + 1) (by omega) (by omega)
      · have : rdOf ByteArray.empty l (i : Int) = l[i] := by simp [rdOf, List.getD_eq_getElem?_getD, hc]
        rw [this]
        exact hs _ (List.getElem_mem _)
    · rw [if_neg (by omega)]
theorem contains_none (l : List ByteArray) (s : ByteArray) (hl : l.length ≤ 1000) (hs : ∀ x ∈ l, s.toList ≠ x.toList) : slices_Contains_string_string.f (l.length + 1) l s = some false := by
  unfold slices_Contains_string_string.f slices_Index_string_string.f
  have := index_none l s hl hs (l.length + 1) 0 (by omega) (by omega)
  simp only [Int.ofNat_zero] at this
  rw [show slices_Index_string_string.l0 (l.length + 1) l s (l.length : Int) 0 = some (-1) from this]
  rfl

set_option maxRecDepth 100000 in
/-- no log -/
theorem fold_none {w : World} {d p : Nat} {M : DM} {ok : Nat → Prop} (h : DiskAt w d M ok) (hp : w.cell? ⟨p, 0, none⟩ = some (dptr d)) (ho : M.off = false) {L : List Name} (hL : L.Pairwise (· < ·) ∧ ∀ x, x ∈ L ↔ (M.fs x).isSome = true) (h16 : L.length ≤ 16) (hx : M.fs (nm sL) = none) :
    Calls Tryz.prog 140 #[dp p] w fun e w' => e = .returned (.int .i64 0) ∧ Below w.heap.size w w' := by
  have HL := Aside0.mk (list_on h ho hL.1 hL.2 h16)
  have HN := Aside0.mk (contains_none (L.map strL) sL (by rw [List.length_map]; omega) (fun x hx' => by
    obtain ⟨y, hy, rfl⟩ := List.mem_map.1 hx'
    intro e
    have h1 := (hL.2 y).1 hy
    have h2 : nm sL = y := by
      have e2 : sL.toList = (strL y).toList := e
      rw [Lib.toList_data, Lib.toList_data] at e2
      simpa [nm, strL] using e2
    rw [← h2, hx] at h1
    cases h1))
  clear h ho hL h16 hx
  generalize L.map strL = LS at HL HN
  go_enter Tryz.func140, Tryz.ntmps140
  go_wp2_with (first
    | (go_at_call 190; refine (HL.out).mono ?_; rintro e w' ⟨v, rfl, hv, hb⟩; obtain ⟨A, c, rfl, hc, hC⟩ := Kd.R_reads hv; have HC := Aside0.mk (slices_Contains_string_string.calls _ A c LS sL false w' hC hc HN.out); have HV := Aside0.mk hb; clear hv hb hC hc)
    | (go_at_call 191; refine (HC.out).mono ?_; rintro e w' ⟨rfl, ⟨n, rfl⟩⟩))
  go_ret
  exact ⟨rfl, pw_below_drewN HV.out _⟩

/-- bytes too few for a block -/
theorem parse_nil (w : World) : Calls Tryz.prog 188 #[.slice none 0 0] w fun e w' => e = .returned (.tuple #[.int .i64 0, .map none, .int .i64 0]) ∧ w = w' := by
  go_enter Tryz.func188, Tryz.ntmps188
  go_wp2
  go_step3
  go_wp2
  rw [Exit.noGoto_ret]
  go_ret3
  exact ⟨rfl, rfl⟩

set_option maxRecDepth 100000 in
/-- no log -/
theorem blocks_none {w : World} {d p : Nat} {M : DM} {ok : Nat → Prop} (h : DiskAt w d M ok) (hp : w.cell? ⟨p, 0, none⟩ = some (dptr d)) (ho : M.off = false) (hx : M.fs (nm sL) = none) :
    Calls Tryz.prog 139 #[dp p] w fun e w' => e = .returned (.tuple #[.map (some w.heap.size), .int .i64 (-1), .int .i64 0, .int .i64 0, .int .i64 0]) ∧ ∃ n, w' = (w.drewN n).alloc (.map #[] 0) := by
  have HA := Aside0.mk (all_none h hp good_L ho hx)
  clear h hp ho hx
  have hmm := @run_makeMap Tryz.prog
  go_enter Tryz.func139, Tryz.ntmps139
  go_wp2
  go_step3
  go_wp2_with (first | (go_at_call 143; refine (HA.out).mono ?_; rintro e w' ⟨rfl, n, rfl⟩) | (go_at_call 188; refine (parse_nil _).mono ?_; rintro e w' ⟨rfl, rfl⟩))
  go_step3
  go_wp2_with (go_at_call 188; refine (parse_nil _).mono ?_; rintro e w' ⟨rfl, rfl⟩)
  rw [Exit.noGoto_ret]
  exact bodyPost_ret (v := .tuple #[.map (some w.heap.size), .int .i64 (-1), .int .i64 0, .int .i64 0, .int .i64 0]) (by simp [results, Tryz.results139, go_sem]) rfl ⟨rfl, _, rfl⟩

theorem below_of_grown {a b : World} (h : a.grownBy b none) : Below a.heap.size a b := ⟨h.os, h.tape, h.output, h.size, fun k hk => h.block k hk (by simp)⟩
/-- what the base holds -/
def baseB (M : DM) : Bytes := match M.fs (nm sB) with | some f => f.2 | none => []
set_option maxRecDepth 100000 in
set_option maxHeartbeats 1000000 in
/-- no journal, no log -/
theorem committed_jour {w : World} {X : PG} {M : DM} {okp okd : Nat → Prop} (hP : PgAt w X okp) (h : DiskAt w X.d M okd) (hmode : X.mode = 1) (ho : M.off = false) {L : List Name} (hL : L.Pairwise (· < ·) ∧ ∀ x, x ∈ L ↔ (M.fs x).isSome = true) (h16 : L.length ≤ 16)
    (hJ : M.fs (nm sJ) = none) (hLg : M.fs (nm sL) = none) (hlen : (baseB M).length ≤ 2097152) (hmod : (baseB M).length % 512 = 0) :
    Calls Tryz.prog 95 #[dp X.p] w fun e w' => ∃ v, e = .returned (.tuple #[v, .int .i64 0]) ∧ U8.R 5 w' w.heap.size (fun k => w.heap.size ≤ k) v (baseB M) ∧ Below w.heap.size w w' := by
  obtain ⟨bo, vw, vm, hP⟩ := hP
  have c0 := hP.cell 0
  have c1 := hP.cell 1
  rw [hmode] at c1
  have hlt := hP.lt
  obtain ⟨p, hp⟩ : ∃ p, p = X.p := ⟨_, rfl⟩
  rw [← hp] at c0 c1 hlt ⊢
  have HU := Aside0.mk (undo_none h c0 ho hJ)
  have HF := Aside0.mk (fun n => fold_none (w := w.drewN n) (h.drewN n) c0 ho hL h16 hLg)
  have HM := Aside0.mk (And.intro h (And.intro ho (And.intro hLg (And.intro hlen hmod))))
  have HC0 := Aside0.mk c0
  clear hP hp h ho hJ hLg hL h16 hmode
  unfold baseB at hlen hmod ⊢
  cases hx : M.fs (nm sB) with
  | none =>
    clear hlen hmod
    simp only
    have HX := Aside0.mk hx
    clear hx
    go_enter Tryz.func95, Tryz.ntmps95
    go_wp2_with (first
      | (go_at_call 142; refine (HU.out).mono ?_; rintro e w' ⟨rfl, n, rfl⟩)
      | (go_at_call 140; refine (HF.out _).mono ?_; rintro e w1 ⟨rfl, hb1⟩
         have hb1' : Below w.heap.size w w1 := below_undrawn hb1
         have HA := Aside0.mk (all_none (HM.out.1.below hb1') ((hb1'.cell (p := ⟨p, 0, none⟩) hlt).trans HC0.out) good_B HM.out.2.1 HX.out)
         have HB := Aside0.mk (fun n => blocks_none (w := w1.drewN n) ((HM.out.1.below hb1').drewN n) ((hb1'.cell (p := ⟨p, 0, none⟩) hlt).trans HC0.out) HM.out.2.1 HM.out.2.2.1)
         have HB1 := Aside0.mk hb1'
         clear hb1 hb1')
      | (go_at_call 143; refine (HA.out).mono ?_; rintro e w' ⟨rfl, n2, rfl⟩)
      | (go_at_call 139; refine (HB.out _).mono ?_; rintro e w' ⟨rfl, n3, rfl⟩)
      | (at_range; refine wpList_range_own _ rfl _ 125 rfl 3 35 (int_keyed Tryz.underlying3) Tryz.underlying125 sliE w1.heap.size 0 (.map []) rfl (World.ownsMap_made _ _ _ _) ?_; intro w0 hrg0 hg0 hs0))
    go_frame
    refine wp_loop_rounds 1 ?_
    rw [rounds_succ]
    go_wp2_with (at_next; refine wpList_next_ranges _ rfl _ rfl 3 (int_keyed Tryz.underlying3) sliE (fun x : Value => x) (fun x : Value => x) (fun key kl _ => ⟨key, rfl⟩) (fun v y _ => ⟨v, rfl⟩) _ _ 0 (.map []) _ _ rfl hrg0 ?_ ?_)
    · intro _ _
      go_wp2
      go_ret2
      have hb := HB1.out
      refine ⟨_, rfl, Kd.R_nil _ _ _ _ _, ?_⟩
      have h3 : Below w.heap.size w ((w1.drewN (n2 + n3)).alloc (.map #[] 0)) := (pw_below_drewN hb _).alloc hb.size _
      exact h3.grown hg0 h3.size (fun k hk => by cases hk)
    · intro x c kl a b w' cnt' _ hlk
      cases hlk
  | some f =>
    rw [hx] at hlen hmod
    simp only at hlen hmod ⊢
    obtain ⟨n, hn⟩ : ∃ n, n = f.2.length := ⟨_, rfl⟩
    rw [← hn] at hlen hmod
    have q1 : ((n : Int) % 512 != 0) = false := by simp; omega
    have q1' : (Int.tmod (n : Int) 512 != 0) = false := by rw [Int.tmod_eq_emod_of_nonneg (by omega)]; exact q1
    have q2 : decide ((2097152 : Int) < (n : Int)) = false := by simp; omega
    have HX := Aside0.mk (And.intro hx (And.intro hn hlen))
    clear hx hmod hn hlen
    go_enter Tryz.func95, Tryz.ntmps95
    go_wp2_with (first
      | (go_at_call 142; refine (HU.out).mono ?_; rintro e w' ⟨rfl, n1, rfl⟩)
      | (go_at_call 140; refine (HF.out _).mono ?_; rintro e w1 ⟨rfl, hb1⟩
         have hb1' : Below w.heap.size w w1 := below_undrawn hb1
         have HA := Aside0.mk (all_some (HM.out.1.below hb1') ((hb1'.cell (p := ⟨p, 0, none⟩) hlt).trans HC0.out) good_B HM.out.2.1 HX.out.1 (by rw [← HX.out.2.1]; have := HX.out.2.2; omega))
         have HB1 := Aside0.mk hb1'
         clear hb1 hb1')
      | (go_at_call 143; refine (HA.out).mono ?_; rintro e w2 ⟨v, rfl, hv, hb2⟩
         have hb2' : Below w.heap.size w w2 := HB1.out.trans (hb2.mono HB1.out.size)
         have HV := Aside0.mk (And.intro hv hb2')
         obtain ⟨A3, c3, hv3⟩ := Kd.R_slice hv
         rw [← HX.out.2.1] at hv3
         subst hv3
         have HB := Aside0.mk (blocks_none (w := w2) (HM.out.1.below hb2') ((hb2'.cell (p := ⟨p, 0, none⟩) hlt).trans HC0.out) HM.out.2.1 HM.out.2.2.1)
         clear hv hb2 hb2')
      | (go_at_call 139; refine (HB.out).mono ?_; rintro e w' ⟨rfl, n3, rfl⟩)
      | (at_range; refine wpList_range_own _ rfl _ 125 rfl 3 35 (int_keyed Tryz.underlying3) Tryz.underlying125 sliE w2.heap.size 0 (.map []) rfl (World.ownsMap_made _ _ _ _) ?_; intro w0 hrg0 hg0 hs0))
    go_frame
    refine wp_loop_rounds 1 ?_
    rw [rounds_succ]
    go_wp2_with (at_next; refine wpList_next_ranges _ rfl _ rfl 3 (int_keyed Tryz.underlying3) sliE (fun x : Value => x) (fun x : Value => x) (fun key kl _ => ⟨key, rfl⟩) (fun v y _ => ⟨v, rfl⟩) _ _ 0 (.map []) _ _ rfl hrg0 ?_ ?_)
    · intro _ _
      go_wp2
      go_ret2
      obtain ⟨hv, hb⟩ := HV.out
      have h3 : Below w.heap.size w ((w2.drewN n3).alloc (.map #[] 0)) := (pw_below_drewN hb _).alloc hb.size _
      have hv3 : U8.R 5 ((w2.drewN n3).alloc (.map #[] 0)) w1.heap.size (fun k => w1.heap.size ≤ k) (.slice A3 n c3) f.2 := Kd.R_alloc (Kd.R_drewN hv n3) _
      refine ⟨_, rfl, Kd.R_lower (Kd.R_mono (Kd.R_below hv3 (below_of_grown hg0)) (fun k hk => Nat.le_trans HB1.out.size hk)) HB1.out.size, h3.grown hg0 h3.size (fun k hk => by cases hk)⟩
    · intro x c kl a b w' cnt' _ hlk
      cases hlk
end Go.Proofs.YtpaiadidgokjlaaGreat

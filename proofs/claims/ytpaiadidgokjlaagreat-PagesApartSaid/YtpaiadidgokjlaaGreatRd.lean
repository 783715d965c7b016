/-
  page, Read: a page's bytes.
-/
import Derived.Test.YtpaiadidgokjlaaGreatTx
import Derived.OwnWalk
namespace Go.Proofs.YtpaiadidgokjlaaGreat
open Go.RowKit Go.Maps Go.Proofs.YtpaiadidgokjlaaGreatW.PrintWords Go.Proofs.YtpaiadidgokjlaaGreatW.PrintLast Go.Proofs.YtpaiadidgokjlaaGreatW.PrintMore
open Go.Proofs.YtpaiadidgokjlaaGreat.PPagesModel
set_option linter.unusedVariables false
set_option linter.unusedSimpArgs false

/-- copy(v, b) into a row that it fills -/
theorem copyAll {w : World} {base : Nat} {ok : Nat → Prop} {v : Value} {xs b : Bytes} {Ab : Option Addr} {nb cb : Nat} (hR : U8.R 5 w base ok v xs) (hC : U8.C w Ab nb b) (hpos : 0 < xs.length) (hfit : xs.length ≤ nb) :
    ∃ w1, (∀ nq ty, (Builtin.copy_ #[35, 35] ty #[v, .slice Ab nb cb]).run Tryz.prog (w.drewN nq) = .ok (.int .i64 xs.length) (World.drewN w1 nq)) ∧
      U8.R 5 w1 base ok v (b.take xs.length) ∧ w.grownBy w1 v.ownBlock := by
  obtain ⟨i5, hi, hz⟩ := Option.map_eq_some_iff.1 info5
  simp only [Prod.mk.injEq] at hz
  obtain ⟨h1, h2⟩ := Kd.own_of_R hR
  rcases h2 with ⟨rfl, h0⟩ | ⟨g, cap, cur, rfl, hbg, hg, hnc, hmax, hcur, htake⟩
  · omega
  · rw [Nat.mul_one] at hcur htake
    obtain rfl : b.length = nb := hC.1
    have hC2 := Kd.C_take hC hfit
    have htl : (b.take xs.length).length = xs.length := by simp; omega
    obtain ⟨ad, rfl, hcells⟩ := C_cells hC2 (by omega)
    have hrun := fun (nq : Nat) (ty : TypeId) => run_copy_row (P := Tryz.prog) (w.drewN nq) 35 35 ty 5 g 0 xs.length cap ad b.length cb cur 5 ((b.take xs.length).map (Value.int .u8)) Tryz.underlying35
      (by rw [hi]; simp [hz.2.1]) hg (by rw [List.length_map, htl]; simp [Nat.min_def]; omega) hcells (by rw [List.length_map, htl]; omega) (fun v hv => by obtain ⟨p, _, rfl⟩ := List.mem_map.1 hv; rfl)
    rw [List.length_map, htl] at hrun
    refine ⟨w.setRow g (cur.toList.take 0 ++ (b.take xs.length).map (Value.int .u8) ++ cur.toList.drop (0 + xs.length)).toArray, fun nq ty => hrun nq ty, ?_, ?_⟩
    · refine Kd.R_of_own (enc := Value.int .u8) ⟨by simp [encs], .inr ⟨g, cap, _, ?_, hbg, setRow_heap _ _ _ _ _ _ hg, ?_, hmax, ?_, ?_⟩⟩ hR.1
      · rw [htl]
      · rw [htl]; exact hnc
      · simp; omega
      · rw [htl, Nat.mul_one]
        have hlm : ((b.take xs.length).map (Value.int .u8)).length = xs.length := by rw [List.length_map, htl]
        show List.take xs.length ((List.take 0 cur.toList ++ (b.take xs.length).map (Value.int .u8)) ++ List.drop (0 + xs.length) cur.toList) = (b.take xs.length).map (Value.int .u8)
        rw [List.take_zero, List.nil_append, List.take_append_of_le_length (by omega), List.take_of_length_le (by omega)]
    · exact ⟨rfl, rfl, rfl, by simp [World.setRow], fun i _ hi => setRow_other _ _ _ _ (fun e => hi (by rw [e]; rfl))⟩

set_option maxHeartbeats 1000000 in
theorem page_any {w : World} {X : PG} {ok : Nat → Prop} (h : PgAt w X ok) (n : Int) (h0 : 0 ≤ n) (h1 : n < 4096) (hw : X.was.length ≤ 4194304) :
    Calls Tryz.prog 128 #[dp X.p, .int .i64 n] w fun e w' => ∃ v, e = .returned v ∧ U8.R 5 w' w.heap.size (fun k => w.heap.size ≤ k) v (X.page n) ∧ Below w.heap.size w w' := by
  obtain ⟨bo, vw, vm, h⟩ := h
  have c7 := h.cell 7
  have hlt := h.lt
  obtain ⟨A, c, rfl, hle, hC⟩ := h.was.reads
  have HB := Aside0.mk (Below.refl w.heap.size w)
  have HC := Aside0.mk hC
  obtain ⟨p, hp⟩ : ∃ p, p = X.p := ⟨_, rfl⟩
  rw [← hp] at c7 hlt ⊢
  clear hp h hC
  unfold PG.page
  obtain ⟨wl, hwl⟩ : ∃ wl, wl = X.was.length := ⟨_, rfl⟩
  rw [← hwl] at c7 hle hw HC ⊢
  have HWL := Aside0.mk hwl
  clear hwl
  by_cases hc : (n + 1) * 512 ≤ (wl : Int)
  · rw [if_pos hc]
    have q0 : decide ((n + 1) * 512 ≤ (wl : Int)) = true := decide_eq_true hc
    have g0 : 0 ≤ n * 512 := by omega
    obtain ⟨A', m, c', hcut, hC', hmc, hm⟩ := cutB HC.out hle (k := n.toNat * 512) (by omega) (n * 512) (by omega)
    have hm512 : 512 ≤ m := by omega
    have HC' := Aside0.mk hC'
    have HM := Aside0.mk (And.intro hmc (And.intro hm hm512))
    clear hc hC' hmc hm hm512
    go_enter Tryz.func128, Tryz.ntmps128
    go_wp2_with (first | ((with_reducible refine gate_dst (N := 6) rfl ?_); refine Kd.R_make U8 _ 5 rfl (N := 6) rfl 35 _ _ rfl 512 rfl rfl Tryz.underlying35 (.int .u8 0) 1 info5 rfl (by decide) (by omega) 0 (ok := fun k => w.heap.size ≤ k) (okp := fun _ => False) rfl (fun _ hk => hk.elim) (Nat.le_refl _) (by omega) (by omega) (Below.refl _ _) (Nat.le_refl _) ?_; intro v1 w1 hR hb _ _; have c7' := (hb.cell (p := ⟨p, 7, none⟩) hlt).trans c7; obtain ⟨w2, hcp, hR2, hg2⟩ := copyAll (cb := c') hR (Kd.C_below HC'.out hb) (by rw [List.length_replicate]; omega) (by rw [List.length_replicate]; exact HM.out.2.2); have hcp' := hcp 0; clear hcp; rw [List.length_replicate] at hcp'; simp only [World.drewN_zero] at hcp'; have HR := Aside0.mk (And.intro hR hR2); have HB1 := Aside0.mk (And.intro hb hg2); clear hb hR hR2 hg2 c7))
    go_ret
    obtain ⟨hR, hR2⟩ := HR.out
    obtain ⟨hb, hg2⟩ := HB1.out
    rw [List.length_replicate] at hR2
    exact ⟨_, rfl, hR2, pw_below_grown hb _ hb.size hg2 (fun k hk => hR.1 k hk)⟩
  · rw [if_neg hc]
    have q0 : decide ((n + 1) * 512 ≤ (wl : Int)) = false := decide_eq_false hc
    clear hc
    go_enter Tryz.func128, Tryz.ntmps128
    go_wp2_with (first | ((with_reducible refine gate_dst (N := 6) rfl ?_); refine Kd.R_make U8 _ 5 rfl (N := 6) rfl 35 _ _ rfl 512 rfl rfl Tryz.underlying35 (.int .u8 0) 1 info5 rfl (by decide) (by omega) 0 (ok := fun k => w.heap.size ≤ k) (okp := fun _ => False) rfl (fun _ hk => hk.elim) (Nat.le_refl _) (by omega) (by omega) (Below.refl _ _) (Nat.le_refl _) ?_; intro v1 w1 hR hb _ _; have c7' := (hb.cell (p := ⟨p, 7, none⟩) hlt).trans c7; have HR := Aside0.mk hR; have HB1 := Aside0.mk hb; clear hb hR c7))
    go_ret
    exact ⟨_, rfl, HR.out, HB1.out⟩

theorem good_any (n : Int) (w : World) : Calls Tryz.prog 127 #[.int .i64 n] w fun e w' => e = .returned (.bool (decide (0 ≤ n ∧ n < 4096))) ∧ w = w' := by
  by_cases h0 : 0 ≤ n <;> by_cases h1 : n < 4096
  all_goals
    go_enter Tryz.func127, Tryz.ntmps127
    go_wp2
    go_ret
    exact ⟨by simp [h0, h1], rfl⟩
theorem good_ok (n : Int) (w : World) (h0 : 0 ≤ n) (h1 : n < 4096) : Calls Tryz.prog 127 #[.int .i64 n] w fun e w' => e = .returned (.bool true) ∧ w = w' :=
  (good_any n w).mono fun _ _ ⟨he, hw⟩ => ⟨by rw [he, decide_eq_true ⟨h0, h1⟩], hw⟩
theorem good_bad (n : Int) (w : World) (h : ¬ (0 ≤ n ∧ n < 4096)) : Calls Tryz.prog 127 #[.int .i64 n] w fun e w' => e = .returned (.bool false) ∧ w = w' :=
  (good_any n w).mono fun _ _ ⟨he, hw⟩ => ⟨by rw [he, decide_eq_false h], hw⟩

theorem wf4096 {n : Int} (h0 : 0 ≤ n) (h1 : n < 4096) : (Lit.int .i64 n).wf = true := WalkArith.wf_i64 (by omega)
theorem zero35 (w : World) : (zeroValue 35).run Tryz.prog w = .ok nilS w := by kernel_rfl

/-- without a transaction, or dead -/
theorem pread_ask {w : World} {X : PG} {ok : Nat → Prop} (h : PgAt w X ok) (n : Int) (hx : (askE X == 0) = false) :
    Calls Tryz.prog 72 #[dp X.p, .int .i64 n] w fun e w' => e = .returned (.tuple #[.slice none 0 0, .int .i64 (askE X)]) ∧ w = w' := by
  have HA := Aside0.mk (ask_any h)
  clear h
  have hx' : (askE X != 0) = true := by simpa using hx
  obtain ⟨a, ha⟩ : ∃ a, a = askE X := ⟨_, rfl⟩
  rw [← ha] at hx hx' HA ⊢
  clear ha
  go_enter Tryz.func72, Tryz.ntmps72
  go_wp2_with (go_at_call 85; refine (HA.out).mono ?_; rintro e w' ⟨rfl, rfl⟩)
  go_ret2
  exact ⟨rfl, rfl⟩
theorem askE_in {X : PG} (hd : X.dead = false) (hi : X.inn = true) : askE X = 0 := by unfold askE; rw [hd, hi]; rfl
theorem pread_bad {w : World} {X : PG} {ok : Nat → Prop} (h : PgAt w X ok) (n : Int) (hd : X.dead = false) (hi : X.inn = true) (hn : ¬ (0 ≤ n ∧ n < 4096)) :
    Calls Tryz.prog 72 #[dp X.p, .int .i64 n] w fun e w' => e = .returned (.tuple #[.slice none 0 0, .int .i64 1]) ∧ w = w' := by
  have HA := ask_any h
  rw [askE_in hd hi] at HA
  have HA := Aside0.mk HA
  have HG := Aside0.mk (fun w => good_bad n w hn)
  clear h hd hi hn
  go_enter Tryz.func72, Tryz.ntmps72
  go_wp2_with (first | (go_at_call 85; refine (HA.out).mono ?_; rintro e w' ⟨rfl, rfl⟩) | (go_at_call 127; refine (HG.out _).mono ?_; rintro e w' ⟨rfl, rfl⟩))
  go_ret2
  exact ⟨rfl, rfl⟩
set_option maxHeartbeats 1000000 in
theorem pread_in {w : World} {X : PG} {ok : Nat → Prop} (h : PgAt w X ok) (n : Int) (hd : X.dead = false) (hi : X.inn = true) (h0 : 0 ≤ n) (h1 : n < 4096) (hw : X.was.length ≤ 4194304) :
    Calls Tryz.prog 72 #[dp X.p, .int .i64 n] w fun e w' => ∃ v, e = .returned (.tuple #[v, .int .i64 0]) ∧ U8.R 5 w' w.heap.size (fun k => w.heap.size ≤ k) v (X.view n) ∧ Below w.heap.size w w' := by
  have HA := ask_any h
  rw [askE_in hd hi] at HA
  have HA := Aside0.mk HA
  have HG := Aside0.mk (fun w => good_ok n w h0 h1)
  have HP := Aside0.mk (page_any h n h0 h1 hw)
  obtain ⟨bo, vw, vm, h⟩ := h
  have c8 := h.cell 8
  rw [if_pos hi] at c8
  have hlt := h.lt
  obtain ⟨hob, f, sz, hm, hnone, hsome⟩ := h.own hi
  have hlk := hm.look_ok (T := 125) Tryz.underlying3 Tryz.underlying125 zero35 (wf4096 h0 h1)
  obtain ⟨p, hp⟩ : ∃ p, p = X.p := ⟨_, rfl⟩
  rw [← hp] at c8 hlt HA HP ⊢
  clear hp
  unfold PG.view
  cases hx : f n with
  | none =>
    rw [hx] at hlk
    rw [hnone n hx]
    simp only [Option.getD_none, Option.isSome_none] at hlk ⊢
    clear h hd hi hw hob hm hnone hsome hx h0 h1
    go_enter Tryz.func72, Tryz.ntmps72
    go_wp2_with (first | (go_at_call 85; refine (HA.out).mono ?_; rintro e w' ⟨rfl, rfl⟩) | (go_at_call 127; refine (HG.out _).mono ?_; rintro e w' ⟨rfl, rfl⟩) | (go_at_call 128; refine (HP.out).mono ?_; rintro e w' ⟨v, rfl, hv, hb⟩; obtain ⟨A3, c3, rfl⟩ := Kd.R_slice hv; have HV := Aside0.mk (And.intro hv hb); clear hv hb))
    go_ret2
    exact ⟨_, rfl, HV.out.1, HV.out.2⟩
  | some v =>
    rw [hx] at hlk
    obtain ⟨_, _, bs, hbs, hbl, hR⟩ := hsome n v hx
    rw [hbs]
    simp only [Option.getD_some, Option.isSome_some] at hlk ⊢
    obtain ⟨A, c, rfl, hle, hC⟩ := hR.reads
    have HCl := Aside0.mk (clone_any A bs.length c bs w (by rw [hbl]; unfold roomy; omega) hC)
    rw [hbl] at hlk HCl
    clear h hd hi hw hob hm hnone hsome hx h0 h1 hC hR hle hbs hbl
    go_enter Tryz.func72, Tryz.ntmps72
    go_wp2_with (first | (go_at_call 85; refine (HA.out).mono ?_; rintro e w' ⟨rfl, rfl⟩) | (go_at_call 127; refine (HG.out _).mono ?_; rintro e w' ⟨rfl, rfl⟩) | (go_at_call 123; refine (HCl.out).mono ?_; rintro e w' ⟨v, rfl, hv, hb⟩; obtain ⟨A3, c3, rfl⟩ := Kd.R_slice hv; have HV := Aside0.mk (And.intro hv hb); clear hv hb))
    go_ret2
    exact ⟨_, rfl, HV.out.1, HV.out.2⟩
end Go.Proofs.YtpaiadidgokjlaaGreat

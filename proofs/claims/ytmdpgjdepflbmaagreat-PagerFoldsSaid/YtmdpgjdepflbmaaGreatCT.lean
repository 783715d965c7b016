/-
  Calls that are refused: without a transaction, within one, or dead.
-/
import Derived.Test.YtmdpgjdepflbmaaGreatCS
namespace Go.Proofs.YtmdpgjdepflbmaaGreat
open Go.RowKit Go.Maps Go.Proofs.YtmdpgjdepflbmaaGreatW.PrintWords Go.Proofs.YtmdpgjdepflbmaaGreatW.PrintLast Go.Proofs.YtmdpgjdepflbmaaGreatW.PrintMore
open Go.Proofs.YtmdpgjdepflbmaaGreat.PPagerFolds
set_option linter.unusedVariables false
set_option linter.unusedSimpArgs false

section
variable {w : World} {X : PG} {ok : Nat → Prop}
theorem pwrite_ask (h : PgAt w X ok) (n : Int) (A : Option Addr) (k c : Nat) (hx : (askE X == 0) = false) :
    Calls Tryz.prog 20 #[dp X.p, .int .i64 n, .slice A k c] w fun e w' => e = .returned (.int .i64 (askE X)) ∧ w = w' := by
  have HA := Aside0.mk (ask_any h)
  clear h
  have hx' : (askE X != 0) = true := by simpa using hx
  obtain ⟨a, ha⟩ : ∃ a, a = askE X := ⟨_, rfl⟩
  rw [← ha] at hx hx' HA ⊢
  clear ha
  go_enter Tryz.func20, Tryz.ntmps20
  go_wp2_with (go_at_call 53; refine (HA.out).mono ?_; rintro e w' ⟨rfl, rfl⟩)
  go_ret
  exact ⟨rfl, rfl⟩
theorem pcommit_ask (h : PgAt w X ok) (hx : (askE X == 0) = false) :
    Calls Tryz.prog 26 #[dp X.p] w fun e w' => e = .returned (.int .i64 (askE X)) ∧ w = w' := by
  have HA := Aside0.mk (ask_any h)
  clear h
  have hx' : (askE X != 0) = true := by simpa using hx
  obtain ⟨a, ha⟩ : ∃ a, a = askE X := ⟨_, rfl⟩
  rw [← ha] at hx hx' HA ⊢
  clear ha
  go_enter Tryz.func26, Tryz.ntmps26
  go_wp2_with (go_at_call 53; refine (HA.out).mono ?_; rintro e w' ⟨rfl, rfl⟩)
  go_ret
  exact ⟨rfl, rfl⟩
theorem proll_ask (h : PgAt w X ok) (hx : (askE X == 0) = false) :
    Calls Tryz.prog 27 #[dp X.p] w fun e w' => e = .returned (.int .i64 (askE X)) ∧ w = w' := by
  have HA := Aside0.mk (ask_any h)
  clear h
  have hx' : (askE X != 0) = true := by simpa using hx
  obtain ⟨a, ha⟩ : ∃ a, a = askE X := ⟨_, rfl⟩
  rw [← ha] at hx hx' HA ⊢
  clear ha
  go_enter Tryz.func27, Tryz.ntmps27
  go_wp2_with (go_at_call 53; refine (HA.out).mono ?_; rintro e w' ⟨rfl, rfl⟩)
  go_ret
  exact ⟨rfl, rfl⟩
theorem pmark_ask (h : PgAt w X ok) (hx : (askE X == 0) = false) :
    Calls Tryz.prog 32 #[dp X.p] w fun e w' => e = .returned (.tuple #[.int .i64 0, .int .i64 (askE X)]) ∧ w = w' := by
  have HA := Aside0.mk (ask_any h)
  clear h
  have hx' : (askE X != 0) = true := by simpa using hx
  obtain ⟨a, ha⟩ : ∃ a, a = askE X := ⟨_, rfl⟩
  rw [← ha] at hx hx' HA ⊢
  clear ha
  go_enter Tryz.func32, Tryz.ntmps32
  go_wp2_with (go_at_call 53; refine (HA.out).mono ?_; rintro e w' ⟨rfl, rfl⟩)
  go_ret2
  exact ⟨rfl, rfl⟩
theorem pback_ask (h : PgAt w X ok) (hok : ∀ k, ok k → k < w.heap.size) (m : Int) (hx : (askE X == 0) = false) :
    Calls Tryz.prog 31 #[dp X.p, .int .i64 m] w fun e w' => e = .returned (.int .i64 (askE X)) ∧ Below w.heap.size w w' := by
  obtain ⟨W, hW⟩ : ∃ W, W = w.alloc (.cells #[.int .i64 m] 3) := ⟨_, rfl⟩
  have hbW : Below w.heap.size w W := by rw [hW]; exact (Below.refl _ _).alloc (Nat.le_refl _) _
  obtain ⟨bo, vw, vm, hP⟩ := h
  have HA := Aside0.mk (ask_any (w := W) (X := X) ⟨bo, vw, vm, hP.move (fun j hj hl => hbW.block j hl)⟩)
  have HW := Aside0.mk (And.intro hW hbW)
  clear hP hbW hW
  have hx' : (askE X != 0) = true := by simpa using hx
  obtain ⟨a, ha⟩ : ∃ a, a = askE X := ⟨_, rfl⟩
  rw [← ha] at hx hx' HA ⊢
  clear ha
  go_enter Tryz.func31, Tryz.ntmps31
  go_wp2_with (go_at_call 53; rw [← HW.out.1]; refine (HA.out).mono ?_; rintro e w' ⟨rfl, rfl⟩)
  go_ret
  exact ⟨rfl, HW.out.2⟩
theorem pbegin_no (h : PgAt w X ok) (hx : X.dead = true ∨ X.inn = true) :
    Calls Tryz.prog 19 #[dp X.p] w fun e w' => e = .returned (.int .i64 (if X.dead = true then 9 else 11)) ∧ w = w' := by
  obtain ⟨bo, vw, vm, h⟩ := h
  have c4 := h.cell 4
  have c5 := h.cell 5
  clear h
  cases hd : X.dead <;> cases hi : X.inn <;> rw [hd] at c4 <;> rw [hi] at c5 <;> rw [hd, hi] at hx <;> first | (exact absurd hx (by decide)) | skip
  all_goals
    clear hd hi hx
    go_enter Tryz.func19, Tryz.ntmps19
    go_wp2
    go_ret
    exact ⟨rfl, rfl⟩
theorem pfold_no (h : PgAt w X ok) (hx : X.dead = true ∨ X.inn = true) :
    Calls Tryz.prog 35 #[dp X.p] w fun e w' => e = .returned (.int .i64 (if X.dead = true then 9 else 11)) ∧ w = w' := by
  obtain ⟨bo, vw, vm, h⟩ := h
  have c4 := h.cell 4
  have c5 := h.cell 5
  clear h
  cases hd : X.dead <;> cases hi : X.inn <;> rw [hd] at c4 <;> rw [hi] at c5 <;> rw [hd, hi] at hx <;> first | (exact absurd hx (by decide)) | skip
  all_goals
    clear hd hi hx
    go_enter Tryz.func35, Tryz.ntmps35
    go_wp2
    go_ret
    exact ⟨rfl, rfl⟩
end
section
variable {W w w' : World} {X : PG} {B : World → (Nat → Prop) → Prop} {p d ls : Nat} {mo cc : Int} {C : Bytes} {Ds : List Bytes}
theorem Opn.at (h : Opn W B X p d mo C Ds ls cc w) : ∃ ok : Nat → Prop, PgAt w X ok ∧ (∀ k, ok k → k < w.heap.size) ∧ X.p = p ∧ X.dead = false ∧ X.inn = true := by
  obtain ⟨M, hG, hX, hD⟩ := h
  obtain ⟨ok, hS, hok, hV⟩ := hG.ex
  exact ⟨ok, hS.pg, fun k hk => (hok k hk).2, hX.p, hX.dead, hX.inn⟩
theorem Shut.at (h : Shut W B p d mo C ls cc w) : ∃ X, ∃ ok : Nat → Prop, PgAt w X ok ∧ (∀ k, ok k → k < w.heap.size) ∧ X.p = p ∧ X.dead = false ∧ X.inn = false ∧ askE X = 11 ∧ (askE X == 0) = false := by
  obtain ⟨X, M, hG, hX, hD⟩ := h
  obtain ⟨ok, hS, hok, hV⟩ := hG.ex
  have e : askE X = 11 := by unfold askE; rw [hX.dead, hX.inn]; rfl
  exact ⟨X, ok, hS.pg, fun k hk => (hok k hk).2, hX.p, hX.dead, hX.inn, e, by rw [e]; rfl⟩
theorem o_begin_in (h : Opn W B X p d mo C Ds ls cc w) : Calls Tryz.prog 19 #[dp p] w fun e w' => e = .returned (.int .i64 11) ∧ w = w' := by
  obtain ⟨ok, hP, _, rfl, hd, hi⟩ := h.at
  have := pbegin_no hP (.inr hi)
  rw [hd] at this
  exact this
theorem o_fold_in (h : Opn W B X p d mo C Ds ls cc w) : Calls Tryz.prog 35 #[dp p] w fun e w' => e = .returned (.int .i64 11) ∧ w = w' := by
  obtain ⟨ok, hP, _, rfl, hd, hi⟩ := h.at
  have := pfold_no hP (.inr hi)
  rw [hd] at this
  exact this
theorem o_write_out (h : Shut W B p d mo C ls cc w) (n : Int) (A : Option Addr) (k c : Nat) : Calls Tryz.prog 20 #[dp p, .int .i64 n, .slice A k c] w fun e w' => e = .returned (.int .i64 11) ∧ w = w' := by
  obtain ⟨X, ok, hP, _, rfl, hd, hi, e, hx⟩ := h.at
  have := pwrite_ask hP n A k c hx
  rw [e] at this
  exact this
theorem o_read_out (h : Shut W B p d mo C ls cc w) (n : Int) : Calls Tryz.prog 23 #[dp p, .int .i64 n] w fun e w' => e = .returned (.tuple #[.slice none 0 0, .int .i64 11]) ∧ w = w' := by
  obtain ⟨X, ok, hP, _, rfl, hd, hi, e, hx⟩ := h.at
  have := pread_ask hP n hx
  rw [e] at this
  exact this
theorem o_commit_out (h : Shut W B p d mo C ls cc w) : Calls Tryz.prog 26 #[dp p] w fun e w' => e = .returned (.int .i64 11) ∧ w = w' := by
  obtain ⟨X, ok, hP, _, rfl, hd, hi, e, hx⟩ := h.at
  have := pcommit_ask hP hx
  rw [e] at this
  exact this
theorem o_roll_out (h : Shut W B p d mo C ls cc w) : Calls Tryz.prog 27 #[dp p] w fun e w' => e = .returned (.int .i64 11) ∧ w = w' := by
  obtain ⟨X, ok, hP, _, rfl, hd, hi, e, hx⟩ := h.at
  have := proll_ask hP hx
  rw [e] at this
  exact this
theorem o_mark_out (h : Shut W B p d mo C ls cc w) : Calls Tryz.prog 32 #[dp p] w fun e w' => e = .returned (.tuple #[.int .i64 0, .int .i64 11]) ∧ w = w' := by
  obtain ⟨X, ok, hP, _, rfl, hd, hi, e, hx⟩ := h.at
  have := pmark_ask hP hx
  rw [e] at this
  exact this
theorem o_back_out (h : Shut W B p d mo C ls cc w) (m : Int) : Calls Tryz.prog 31 #[dp p, .int .i64 m] w fun e w' => e = .returned (.int .i64 11) ∧ Below w.heap.size w w' := by
  obtain ⟨X, ok, hP, hok, rfl, hd, hi, e, hx⟩ := h.at
  have := pback_ask hP hok m hx
  rw [e] at this
  exact this
theorem o_count_out (h : Shut W B p d mo C ls cc w) : Calls Tryz.prog 25 #[dp p] w fun e w' => e = .returned (.int .i64 0) ∧ w = w' := by
  obtain ⟨X, M, hG, hX, hD⟩ := h
  obtain ⟨ok, hS, hok, hV⟩ := hG.ex
  have hS0 := s_count hS
  rw [hX.p, hX.cnt] at hS0
  exact hS0
theorem o_fold2 (h : Shut W B p d mo C ls cc w) (hcc : cc + 6000 < 1000000) (hls : ls ≤ 4194304) :
    Calls Tryz.prog 35 #[dp p] w fun e w' => e = .returned (.int .i64 0) ∧ Shut W B p d mo C ls (cc + 4100) w' := by
  have hm : mo = 2 ∨ mo = 1 := by
    obtain ⟨X, M, hG, hX, hD⟩ := h
    obtain ⟨c, bs, k, hL, hC, hm, hls'⟩ := hD.ex
    exact hm.imp id (fun h => h.1)
  refine (o_fold h hcc hls).mono ?_
  rintro e w' ⟨rfl, X, M, hG, hX, k, hL, hq⟩
  exact ⟨rfl, X, M, hG, hX, ⟨C, [], k, hL, hL.com_nil, hm.imp id (fun h => ⟨h, rfl⟩), by simp [logB]⟩, hq⟩
end
end Go.Proofs.YtmdpgjdepflbmaaGreat
namespace Go.Proofs.YtmdpgjdepflbmaaGreat
open Go.RowKit Go.Maps Go.Proofs.YtmdpgjdepflbmaaGreatW.PrintWords Go.Proofs.YtmdpgjdepflbmaaGreatW.PrintLast Go.Proofs.YtmdpgjdepflbmaaGreatW.PrintMore
open Go.Proofs.YtmdpgjdepflbmaaGreat.PPagerFolds
set_option linter.unusedVariables false
set_option linter.unusedSimpArgs false

/-- a row's words: where, how long, how much room -/
abbrev HD := Option Addr × Nat × Nat
def encH (h : HD) : Value := .slice h.1 h.2.1 h.2.2
abbrev HT : Kd HD := Kd.scalar encH (fun _ => rfl)
theorem info32t : (Tryz.prog.info? 32).map (fun i => (i.zero, i.size, i.bytes)) = some (some (.slice none 0 0), 1, 24) := by kernel_rfl
/-- blocks that hold pages of the model -/
def Ar (g : Nat) (vi vm : Value) (P : Nat → Prop) : Nat → Prop := fun k => P k ∧ k ≠ g ∧ vi.ownBlock ≠ some k ∧ vm.ownBlock ≠ some k
structure MR (lo g : Nat) (op : Bool) (vd vn vm vi : Value) (Dd Dw : List Bytes) (Ms : List (List Bytes)) (Id : List Int) (w : World) (P : Nat → Prop) : Prop where
  blk : w.heap[g]? = some (.cells #[vd, .bool op, vn, vm, vi] 73 (0, 0))
  pg : P g
  hlo : lo ≤ g
  ids : I64.R 3 w lo P vi Id
  ms : ∃ Hs : List HD, HT.R 32 w lo P vm Hs ∧ Hs.length = Ms.length ∧ ∀ (i : Nat) (h : HD) (D : List Bytes), Hs[i]? = some h → Ms[i]? = some D → PV w (Ar g vi vm P) (encH h) D
  done : PV w (Ar g vi vm P) vd Dd
  now : PV w (Ar g vi vm P) vn Dw
  gi : vi.ownBlock ≠ some g
  gm : vm.ownBlock ≠ some g
  apart : ∀ k, vi.ownBlock = some k → vm.ownBlock ≠ some k
abbrev MB (lo g : Nat) (op : Bool) (vd vn vm vi : Value) (Dd Dw : List Bytes) (Ms : List (List Bytes)) (Id : List Int) : World → (Nat → Prop) → Prop := fun w P => MR lo g op vd vn vm vi Dd Dw Ms Id w P
section
variable {lo g : Nat} {op : Bool} {vd vn vm vi : Value} {Dd Dw : List Bytes} {Ms : List (List Bytes)} {Id : List Int} {w w' : World} {P Q : Nat → Prop}
theorem MR.step (h : MR lo g op vd vn vm vi Dd Dw Ms Id w P) (hm : ∀ k, P k → k < w.heap.size → w'.heap[k]? = w.heap[k]?) : MR lo g op vd vn vm vi Dd Dw Ms Id w' P := by
  obtain ⟨Hs, h1, h2, h3⟩ := h.ms
  exact ⟨(hm g h.pg (heap_lt h.blk)).trans h.blk, h.pg, h.hlo, Kd.R_step h.ids hm, ⟨Hs, Kd.R_step h1 hm, h2, fun i x D hx hD => Kd.V_step (h3 i x D hx hD) (fun k hk => hm k hk.1)⟩, Kd.V_step h.done (fun k hk => hm k hk.1), Kd.V_step h.now (fun k hk => hm k hk.1), h.gi, h.gm, h.apart⟩
theorem MR.mono (h : MR lo g op vd vn vm vi Dd Dw Ms Id w P) (hq : ∀ k, P k → Q k) : MR lo g op vd vn vm vi Dd Dw Ms Id w Q := by
  obtain ⟨Hs, h1, h2, h3⟩ := h.ms
  have ha : ∀ k, Ar g vi vm P k → Ar g vi vm Q k := fun k hk => ⟨hq k hk.1, hk.2⟩
  exact ⟨h.blk, hq g h.pg, h.hlo, Kd.R_mono h.ids hq, ⟨Hs, Kd.R_mono h1 hq, h2, fun i x D hx hD => Kd.V_mono (h3 i x D hx hD) ha⟩, Kd.V_mono h.done ha, Kd.V_mono h.now ha, h.gi, h.gm, h.apart⟩
theorem MB.stab (lo g : Nat) (op : Bool) (vd vn vm vi : Value) (Dd Dw : List Bytes) (Ms : List (List Bytes)) (Id : List Int) : Stab (MB lo g op vd vn vm vi Dd Dw Ms Id) := ⟨fun h hm => MR.step h hm, fun h hq => MR.mono h hq⟩
theorem MR.c (h : MR lo g op vd vn vm vi Dd Dw Ms Id w P) (i : Nat) : w.cell? ⟨g, i, none⟩ = (#[vd, .bool op, vn, vm, vi] : Array Value)[i]? := cell_of_row w g i _ _ (0, 0) h.blk
/-- the block of the model is written: open or not, done, now -/
theorem MR.set (h : MR lo g op vd vn vm vi Dd Dw Ms Id w P) (op' : Bool) {vd' vn' : Value} {Dd' Dw' : List Bytes} (hd : PV w (Ar g vi vm P) vd' Dd') (hn : PV w (Ar g vi vm P) vn' Dw') (hblk : w'.heap[g]? = some (.cells #[vd', .bool op', vn', vm, vi] 73 (0, 0))) (hm : ∀ k, k ≠ g → k < w.heap.size → w'.heap[k]? = w.heap[k]?) : MR lo g op' vd' vn' vm vi Dd' Dw' Ms Id w' P := by
  obtain ⟨Hs, h1, h2, h3⟩ := h.ms
  have hi : ∀ k, vi.ownBlock = some k → k ≠ g := fun k hk e => h.gi (e ▸ hk)
  have hmm : ∀ k, vm.ownBlock = some k → k ≠ g := fun k hk e => h.gm (e ▸ hk)
  exact ⟨hblk, h.pg, h.hlo, Kd.R_mono (Kd.R_step (ok := fun k => P k ∧ vi.ownBlock = some k) ⟨fun k hk => ⟨h.ids.1 k hk, hk⟩, h.ids.2⟩ (fun k hk hl => hm k (hi k hk.2) hl)) (fun k hk => hk.1),
    ⟨Hs, Kd.R_mono (Kd.R_step (ok := fun k => P k ∧ vm.ownBlock = some k) ⟨fun k hk => ⟨h1.1 k hk, hk⟩, h1.2⟩ (fun k hk hl => hm k (hmm k hk.2) hl)) (fun k hk => hk.1), h2, fun i x D hx hD => Kd.V_step (h3 i x D hx hD) (fun k hk hl => hm k hk.2.1 hl)⟩,
    Kd.V_step hd (fun k hk hl => hm k hk.2.1 hl), Kd.V_step hn (fun k hk hl => hm k hk.2.1 hl), h.gi, h.gm, h.apart⟩
/-- no marks any more -/
theorem MR.fresh (h : MR lo g op vd vn vm vi Dd Dw Ms Id w P) (op' : Bool) {vd' vn' : Value} {Dd' Dw' : List Bytes} (hd : PV w (Ar g vi vm P) vd' Dd') (hn : PV w (Ar g vi vm P) vn' Dw') (hblk : w'.heap[g]? = some (.cells #[vd', .bool op', vn', .slice none 0 0, .slice none 0 0] 73 (0, 0))) (hm : ∀ k, k ≠ g → k < w.heap.size → w'.heap[k]? = w.heap[k]?) : MR lo g op' vd' vn' (.slice none 0 0) (.slice none 0 0) Dd' Dw' [] [] w' P := by
  have ha : ∀ k, Ar g vi vm P k → Ar g (.slice none 0 0) (.slice none 0 0) P k := fun k hk => ⟨hk.1, hk.2.1, by simp [Value.ownBlock], by simp [Value.ownBlock]⟩
  exact ⟨hblk, h.pg, h.hlo, ⟨fun k hk => by simp [Value.ownBlock] at hk, [], own_nil _ _ _ _, Reps.none _ _⟩, ⟨[], ⟨fun k hk => by simp [Value.ownBlock] at hk, [], own_nil _ _ _ _, Reps.none _ _⟩, rfl, fun i x D hx => by simp at hx⟩,
    Kd.V_mono (Kd.V_step hd (fun k hk hl => hm k hk.2.1 hl)) ha, Kd.V_mono (Kd.V_step hn (fun k hk hl => hm k hk.2.1 hl)) ha, by simp [Value.ownBlock], by simp [Value.ownBlock], fun k hk => by simp [Value.ownBlock] at hk⟩
end
section
variable {W w w' : World} {X : PG} {M : DM} {B B' : World → (Nat → Prop) → Prop} {p d ls : Nat} {mo cc : Int} {C : Bytes} {Ds : List Bytes}
/-- what stands beside is written -/
theorem GJ.parts (h : GJ W X M B w) : ∃ P : Nat → Prop, B w P ∧ (∀ k, P k → k < w.heap.size) ∧ ∀ (w' : World) (S : Nat → Prop) (B' : World → (Nat → Prop) → Prop), Fr S w w' → Stab B' → (∀ k, S k → P k ∧ W.heap.size ≤ k) → B' w' (fun k => P k ∨ (w.heap.size ≤ k ∧ k < w'.heap.size)) → GJ W X M B' w' := by
  obtain ⟨ok, hSy, hok, hV⟩ := h.ex
  refine ⟨_, hV, fun k hk => hk.1, fun w' S B' hF hst hS hB => ?_⟩
  have hs := hF.size
  have hW := h.below.size
  refine ⟨⟨ok, hSy.move hs (fun k hk hl => hF.block k hl (fun e => ((hS k e).1).2 hk)), fun k hk => by have := hok k hk; exact ⟨this.1, by omega⟩, hst.mono hB (fun k hk => ?_)⟩, h.below.trans (hF.below (fun k hk => (hS k hk).2) hW), hst⟩
  rcases hk with hk | hk
  · exact ⟨by omega, hk.2⟩
  · exact ⟨hk.2, fun e => by have := hok k e; omega⟩
theorem Shut.parts (h : Shut W B p d mo C ls cc w) : ∃ P : Nat → Prop, B w P ∧ (∀ k, P k → k < w.heap.size) ∧ ∀ (w' : World) (S : Nat → Prop) (B' : World → (Nat → Prop) → Prop), Fr S w w' → Stab B' → (∀ k, S k → P k ∧ W.heap.size ≤ k) → B' w' (fun k => P k ∨ (w.heap.size ≤ k ∧ k < w'.heap.size)) → Shut W B' p d mo C ls cc w' := by
  obtain ⟨X, M, a, b, e⟩ := h
  obtain ⟨P, h1, h2, h3⟩ := a.parts
  exact ⟨P, h1, h2, fun w' S B' c1 c2 c3 c4 => ⟨X, M, h3 w' S B' c1 c2 c3 c4, b, e⟩⟩
theorem Opn.parts (h : Opn W B X p d mo C Ds ls cc w) : ∃ P : Nat → Prop, B w P ∧ (∀ k, P k → k < w.heap.size) ∧ ∀ (w' : World) (S : Nat → Prop) (B' : World → (Nat → Prop) → Prop), Fr S w w' → Stab B' → (∀ k, S k → P k ∧ W.heap.size ≤ k) → B' w' (fun k => P k ∨ (w.heap.size ≤ k ∧ k < w'.heap.size)) → Opn W B' X p d mo C Ds ls cc w' := by
  obtain ⟨M, a, b, e⟩ := h
  obtain ⟨P, h1, h2, h3⟩ := a.parts
  exact ⟨P, h1, h2, fun w' S B' c1 c2 c3 c4 => ⟨M, h3 w' S B' c1 c2 c3 c4, b, e⟩⟩
theorem Shut.b (h : Shut W B p d mo C ls cc w) : ∃ P : Nat → Prop, B w P ∧ ∀ k, P k → k < w.heap.size := by
  obtain ⟨X, M, a, b, e⟩ := h
  obtain ⟨ok, hSy, hok, hV⟩ := a.ex
  exact ⟨_, hV, fun k hk => hk.1⟩
end
/-- one store to the model's block -/
theorem blk_set {w : World} {g : Nat} {cs : Array Value} {ty : Nat} (h : w.heap[g]? = some (.cells cs ty (0, 0))) (j : Nat) (u : Value) : (w.setCell ⟨g, j, none⟩ u).heap[g]? = some (.cells (cs.setIfInBounds j u) ty (0, 0)) ∧ Fr (fun k => k = g) w (w.setCell ⟨g, j, none⟩ u) ∧ ∀ k, k ≠ g → k < w.heap.size → (w.setCell ⟨g, j, none⟩ u).heap[k]? = w.heap[k]? := by
  refine ⟨by simp [World.setCell, Array.getElem?_modify, h], (Fr.refl (fun k => k = g) w).set_ (p := ⟨g, j, none⟩) (.inl rfl) u, fun k hk hl => Below.heap_setCell _ _ _ _ (fun e => hk (by rw [e]))⟩
end Go.Proofs.YtmdpgjdepflbmaaGreat
namespace Go.Proofs.YtmdpgjdepflbmaaGreat
open Go.RowKit Go.Maps Go.Proofs.YtmdpgjdepflbmaaGreatW.PrintWords Go.Proofs.YtmdpgjdepflbmaaGreatW.PrintLast Go.Proofs.YtmdpgjdepflbmaaGreatW.PrintMore
open Go.Proofs.YtmdpgjdepflbmaaGreat.PPagerFolds
set_option linter.unusedVariables false
set_option linter.unusedSimpArgs false

theorem blkset {w : World} {g : Nat} {cs : Array Value} {ty : Nat} (h : w.heap[g]? = some (.cells cs ty (0, 0))) (j : Nat) (u : Value) : (w.setCell ⟨g, j, none⟩ u).heap[g]? = some (.cells (cs.setIfInBounds j u) ty (0, 0)) := (blk_set h j u).1
theorem keepset (w : World) (g j : Nat) (u : Value) : ∀ k, k ≠ g → (w.setCell ⟨g, j, none⟩ u).heap[k]? = w.heap[k]? := fun k hk => Below.heap_setCell _ _ _ _ (fun e => hk (by rw [e]))
theorem sizeset (w : World) (a : Addr) (u : Value) : (w.setCell a u).heap.size = w.heap.size := by simp [World.setCell]
section
variable {lo g : Nat} {op : Bool} {vd vn vm vi : Value} {Dd Dw : List Bytes} {Ms : List (List Bytes)} {Id : List Int} {w w' : World} {P Q : Nat → Prop}
theorem MR.begun (h : MR lo g op vd vn vm vi Dd Dw Ms Id w P) : MR lo g true vd vd (.slice none 0 0) (.slice none 0 0) Dd Dd [] [] ((((w.setCell ⟨g, 1, none⟩ (.bool true)).setCell ⟨g, 2, none⟩ vd).setCell ⟨g, 3, none⟩ (.slice none 0 0)).setCell ⟨g, 4, none⟩ (.slice none 0 0)) P ∧ Fr (fun k => k = g) w ((((w.setCell ⟨g, 1, none⟩ (.bool true)).setCell ⟨g, 2, none⟩ vd).setCell ⟨g, 3, none⟩ (.slice none 0 0)).setCell ⟨g, 4, none⟩ (.slice none 0 0)) := by
  have b1 := blkset h.blk 1 (.bool true)
  have b2 := blkset b1 2 vd
  have b3 := blkset b2 3 (.slice none 0 0)
  have b4 := blkset b3 4 (.slice none 0 0)
  refine ⟨h.fresh true h.done h.done b4 (fun k hk _ => ?_), ((((Fr.refl (fun k => k = g) w).set_ (p := ⟨g, 1, none⟩) (.inl rfl) _).set_ (p := ⟨g, 2, none⟩) (.inl rfl) _).set_ (p := ⟨g, 3, none⟩) (.inl rfl) _).set_ (p := ⟨g, 4, none⟩) (.inl rfl) _⟩
  rw [keepset _ g 4 _ k hk, keepset _ g 3 _ k hk, keepset _ g 2 _ k hk, keepset _ g 1 _ k hk]
theorem one_int (w : World) (x : Int) : I64.C (w.alloc (.cells #[.int .i64 x] 3)) (some ⟨w.heap.size, 0, none⟩) 1 [x] := by
  have h1 : I64.R 3 (w.alloc (.cells #[.int .i64 x] 3)) 0 (fun _ => True) (.slice (some ⟨w.heap.size, 0, none⟩) 1 1) [x] :=
    ⟨fun _ _ => trivial, [.int .i64 x], ⟨rfl, .inr ⟨w.heap.size, 1, #[.int .i64 x], rfl, Nat.zero_le _, heap_alloc_new w _, Nat.le_refl _, by decide, rfl, rfl⟩⟩, Reps.one rfl (Reps.none _ _)⟩
  exact (C_of_rowk h1).1
theorem one_hd (w : World) (x : HD) : HT.C (w.alloc (.cells #[encH x] 32)) (some ⟨w.heap.size, 0, none⟩) 1 [x] := by
  have h1 : HT.R 32 (w.alloc (.cells #[encH x] 32)) 0 (fun _ => True) (.slice (some ⟨w.heap.size, 0, none⟩) 1 1) [x] :=
    ⟨fun _ _ => trivial, [encH x], ⟨rfl, .inr ⟨w.heap.size, 1, #[encH x], rfl, Nat.zero_le _, heap_alloc_new w _, Nat.le_refl _, by decide, rfl, rfl⟩⟩, Reps.one rfl (Reps.none _ _)⟩
  exact (C_of_rowk h1).1
/-- a row of its own, kept by what turns other blocks -/
theorem R_keep {α : Type} {enc : α → Value} {h1 : ∀ x, (enc x).oneCell' = true} {e lo : Nat} {w w' : World} {P : Nat → Prop} {v : Value} {l : List α} (h : (Kd.scalar enc h1).R e w lo P v l) (hm : ∀ k, v.ownBlock = some k → k < w.heap.size → w'.heap[k]? = w.heap[k]?) : (Kd.scalar enc h1).R e w' lo (fun k => P k ∧ v.ownBlock = some k) v l :=
  Kd.R_step (ok := fun k => P k ∧ v.ownBlock = some k) ⟨fun k hk => ⟨h.1 k hk, hk⟩, h.2⟩ (fun k hk hl => hm k hk.2 hl)
theorem MR.mark (h : MR lo g op vd vn vm vi Dd Dw Ms Id w P) (hPl : ∀ k, P k → k < w.heap.size) (hlo : lo ≤ w.heap.size) (x : Int) (hl : Id.length ≤ 1000) (hml : Ms.length ≤ 1000) (hd : HD) (hvn : vn = encH hd) :
    ∃ Ai ni ci wa, (Builtin.append_ #[60, 60] 60 #[vi, .slice (some ⟨w.heap.size, 0, none⟩) 1 1]).run Tryz.prog (w.alloc (.cells #[.int .i64 x] 3)) = .ok (.slice Ai ni ci) wa ∧ wa.heap[g]? = some (.cells #[vd, .bool op, vn, vm, vi] 73 (0, 0)) ∧
    ∃ ws, ws = wa.setCell ⟨g, 4, none⟩ (.slice Ai ni ci) ∧ ws.heap[g]? = some (.cells #[vd, .bool op, vn, vm, .slice Ai ni ci] 73 (0, 0)) ∧ (ws.drew.alloc (.cells #[vn] 32)).heap[g]? = some (.cells #[vd, .bool op, vn, vm, .slice Ai ni ci] 73 (0, 0)) ∧
    ∃ Am nm cm wb, (Builtin.append_ #[71, 71] 71 #[vm, .slice (some ⟨ws.heap.size, 0, none⟩) 1 1]).run Tryz.prog (ws.drew.alloc (.cells #[vn] 32)) = .ok (.slice Am nm cm) wb ∧ wb.heap[g]? = some (.cells #[vd, .bool op, vn, vm, .slice Ai ni ci] 73 (0, 0)) ∧
      MR lo g op vd vn (.slice Am nm cm) (.slice Ai ni ci) Dd Dw (Ms ++ [Dw]) (Id ++ [x]) (wb.setCell ⟨g, 3, none⟩ (.slice Am nm cm)) (fun k => P k ∨ (w.heap.size ≤ k ∧ k < (wb.setCell ⟨g, 3, none⟩ (.slice Am nm cm)).heap.size)) ∧ Fr (fun k => k = g ∨ vi.ownBlock = some k ∨ vm.ownBlock = some k) w (wb.setCell ⟨g, 3, none⟩ (.slice Am nm cm)) := by
  have hgl := heap_lt h.blk
  obtain ⟨Hs, hms, hHl, hHv⟩ := h.ms
  have hil := fun k hk => Kd.R_lt h.ids k hk
  have hmml := fun k hk => Kd.R_lt hms k hk
  obtain ⟨W1, hW1⟩ : ∃ W1, W1 = w.alloc (.cells #[.int .i64 x] 3) := ⟨_, rfl⟩
  have hb1 : Below w.heap.size w W1 := by rw [hW1]; exact (Below.refl _ _).alloc (Nat.le_refl _) _
  have hs1 : W1.heap.size = w.heap.size + 1 := by rw [hW1]; simp
  have hone := one_int w x
  rw [← hW1] at hone ⊢
  obtain ⟨v1, wa, run1, R1, g1⟩ := app_run W1 lo 60 60 3 (.int .i64 0) 8 Tryz.underlying60 PPagesModel.info3 rfl (by decide) vi Id [x] (some ⟨w.heap.size, 0, none⟩) 1 1 (fun k => (P k ∧ vi.ownBlock = some k) ∨ W1.heap.size ≤ k) ⟨fun k hk => .inl ⟨h.ids.1 k hk, hk⟩, (Kd.R_below h.ids hb1).2⟩ hone (fun k hk => .inr hk) (by omega) (by omega)
  obtain ⟨Ai, ci, hv1⟩ := Kd.R_slice (d := I64) R1
  have hsa := g1.size
  have k1 : ∀ k, k < w.heap.size → vi.ownBlock ≠ some k → wa.heap[k]? = w.heap[k]? := fun k hk hn => (g1.block k (by omega) (fun e => hn e.symm)).trans (hb1.block k hk)
  have bg1 : wa.heap[g]? = some (.cells #[vd, .bool op, vn, vm, vi] 73 (0, 0)) := (k1 g hgl h.gi).trans h.blk
  have o1 : ∀ k, v1.ownBlock = some k → vi.ownBlock = some k ∨ w.heap.size < k := fun k hk => (R1.1 k hk).elim (fun e => .inl e.2) (fun e => .inr (by omega))
  have v1g : v1.ownBlock ≠ some g := fun e => (o1 g e).elim h.gi (fun e => by omega)
  have v1l := fun k hk => Kd.R_lt R1 k hk
  have F1 : Fr (fun k => k = g ∨ vi.ownBlock = some k ∨ vm.ownBlock = some k) w wa := ⟨g1.os.trans hb1.os, g1.tape.trans hb1.tape, g1.output.trans hb1.output, by omega, fun k hk hn => k1 k hk (fun e => hn (.inr (.inl e)))⟩
  have M1 : HT.R 32 wa lo (fun k => P k ∧ vm.ownBlock = some k) vm Hs := R_keep hms (fun k hk hl => k1 k hl (fun e => h.apart k e hk))
  obtain ⟨ws, hws⟩ : ∃ ws, ws = wa.setCell ⟨g, 4, none⟩ v1 := ⟨_, rfl⟩
  have bs : ws.heap[g]? = some (.cells #[vd, .bool op, vn, vm, v1] 73 (0, 0)) := by rw [hws]; exact blkset bg1 4 v1
  have hss : ws.heap.size = wa.heap.size := by rw [hws]; exact sizeset _ _ _
  have ks : ∀ k, k ≠ g → ws.heap[k]? = wa.heap[k]? := fun k hk => by rw [hws]; exact keepset _ _ _ _ k hk
  have F2 : Fr (fun k => k = g ∨ vi.ownBlock = some k ∨ vm.ownBlock = some k) w ws := by rw [hws]; exact F1.set_ (p := ⟨g, 4, none⟩) (.inl (.inl rfl)) _
  have M2 : HT.R 32 ws lo (fun k => P k ∧ vm.ownBlock = some k) vm Hs := Kd.R_mono (R_keep M1 (fun k hk hl => ks k (fun e => h.gm (e ▸ hk)))) (fun k hk => hk.1)
  have I2 := R_keep R1 (w' := ws) (fun k hk hl => ks k (fun e => v1g (e ▸ hk)))
  obtain ⟨W2, hW2⟩ : ∃ W2, W2 = ws.drew.alloc (.cells #[vn] 32) := ⟨_, rfl⟩
  have hb2 : Below ws.heap.size ws W2 := by rw [hW2]; exact (below_drew (Below.refl ws.heap.size ws)).alloc (Nat.le_refl _) _
  have hs2 : W2.heap.size = ws.heap.size + 1 := by rw [hW2]; simp
  have hone2 := one_hd ws.drew hd
  rw [← hvn, ← hW2] at hone2
  have F3 : Fr (fun k => k = g ∨ vi.ownBlock = some k ∨ vm.ownBlock = some k) w W2 := by rw [hW2]; exact F2.drew.alloc _
  obtain ⟨v2, wb, run2, R2, g2⟩ := app_run W2 lo 71 71 32 (.slice none 0 0) 24 Tryz.underlying71 info32t rfl (by decide) vm Hs [hd] (some ⟨ws.heap.size, 0, none⟩) 1 1 (fun k => (P k ∧ vm.ownBlock = some k) ∨ W2.heap.size ≤ k) ⟨fun k hk => .inl (M2.1 k hk), (Kd.R_below M2 hb2).2⟩ hone2 (fun k hk => .inr hk) (by omega) (by omega)
  obtain ⟨Am, cm, hv2⟩ := Kd.R_slice (d := HT) R2
  have hsb := g2.size
  have kb : ∀ k, k < ws.heap.size → vm.ownBlock ≠ some k → wb.heap[k]? = ws.heap[k]? := fun k hk hn => (g2.block k (by omega) (fun e => hn e.symm)).trans (hb2.block k hk)
  have bW2 : W2.heap[g]? = some (.cells #[vd, .bool op, vn, vm, v1] 73 (0, 0)) := (hb2.block g (by omega)).trans bs
  have bb : wb.heap[g]? = some (.cells #[vd, .bool op, vn, vm, v1] 73 (0, 0)) := (kb g (by omega) h.gm).trans bs
  have o2 : ∀ k, v2.ownBlock = some k → vm.ownBlock = some k ∨ ws.heap.size < k := fun k hk => (R2.1 k hk).elim (fun e => .inl e.2) (fun e => .inr (by omega))
  have v2g : v2.ownBlock ≠ some g := fun e => (o2 g e).elim h.gm (fun e => by omega)
  have F4 : Fr (fun k => k = g ∨ vi.ownBlock = some k ∨ vm.ownBlock = some k) w wb := F3.grown g2 (fun k hk => .inl (.inr (.inr hk)))
  have hap : ∀ k, v1.ownBlock = some k → vm.ownBlock ≠ some k := fun k hk e => (o1 k hk).elim (fun e1 => h.apart k e1 e) (fun e1 => by have := hmml k e; omega)
  have I3 : I64.R 3 wb lo _ v1 _ := R_keep I2 (fun k hk hl => kb k hl (hap k hk))
  obtain ⟨wf, hwf⟩ : ∃ wf, wf = wb.setCell ⟨g, 3, none⟩ v2 := ⟨_, rfl⟩
  have bf : wf.heap[g]? = some (.cells #[vd, .bool op, vn, v2, v1] 73 (0, 0)) := by rw [hwf]; exact blkset bb 3 v2
  have hsf : wf.heap.size = wb.heap.size := by rw [hwf]; exact sizeset _ _ _
  have kf : ∀ k, k ≠ g → wf.heap[k]? = wb.heap[k]? := fun k hk => by rw [hwf]; exact keepset _ _ _ _ k hk
  have F5 : Fr (fun k => k = g ∨ vi.ownBlock = some k ∨ vm.ownBlock = some k) w wf := by rw [hwf]; exact F4.set_ (p := ⟨g, 3, none⟩) (.inl (.inl rfl)) _
  have I4 := R_keep I3 (w' := wf) (fun k hk hl => kf k (fun e => v1g (e ▸ hk)))
  have M4 := R_keep R2 (w' := wf) (fun k hk hl => kf k (fun e => v2g (e ▸ hk)))
  have hap2 : ∀ k, v1.ownBlock = some k → v2.ownBlock ≠ some k := fun k hk e => (o2 k e).elim (fun e1 => hap k hk e1) (fun e1 => by have := v1l k hk; omega)
  have hPV : ∀ (v : Value) (D : List Bytes), PV w (Ar g vi vm P) v D → PV wf (Ar g v1 v2 (fun k => P k ∨ (w.heap.size ≤ k ∧ k < wf.heap.size))) v D := fun v D hV => by
    refine Kd.V_mono (Kd.V_step (Kd.V_bound hV) (fun k hk hl => F5.block k hl (fun e => e.elim hk.1.2.1 (fun e => e.elim hk.1.2.2.1 hk.1.2.2.2)))) (fun k hk => ⟨.inl hk.1.1, hk.1.2.1, fun e => (o1 k e).elim hk.1.2.2.1 (fun e => by have := hk.2; omega), fun e => (o2 k e).elim hk.1.2.2.2 (fun e => by have := hk.2; omega)⟩)
  rw [hv1] at run1 hws
  rw [hv2] at run2
  refine ⟨Ai, _, ci, wa, run1, bg1, ws, hws, by rw [← hv1]; exact bs, by rw [← hW2, ← hv1]; exact bW2, Am, _, cm, wb, by rw [← hW2]; exact run2, by rw [← hv1]; exact bb, ?_, by rw [← hv2, ← hwf]; exact F5⟩
  rw [← hv2, ← hv1, ← hwf]
  refine ⟨bf, .inl h.pg, h.hlo, Kd.R_mono I4 (fun k hk => ?_), ⟨Hs ++ [hd], Kd.R_mono M4 (fun k hk => ?_), by simp [hHl], fun i a D ha hD => ?_⟩, hPV _ _ h.done, hPV _ _ h.now, v1g, v2g, hap2⟩
  · rcases o1 k hk.2 with e | e
    · exact .inl (h.ids.1 k e)
    · exact .inr ⟨by omega, by have := v1l k hk.2; omega⟩
  · rcases o2 k hk.2 with e | e
    · exact .inl (hms.1 k e)
    · exact .inr ⟨by omega, by have := Kd.R_lt R2 k hk.2; omega⟩
  · by_cases hi : i < Hs.length
    · rw [List.getElem?_append_left hi] at ha
      rw [List.getElem?_append_left (by omega)] at hD
      exact hPV _ _ (hHv i a D ha hD)
    · have e1 : i = Hs.length := by
        have := (List.getElem?_eq_some_iff.1 ha).1
        simp at this
        omega
      rw [e1, List.getElem?_append_right (Nat.le_refl _)] at ha
      rw [e1, hHl, List.getElem?_append_right (Nat.le_refl _)] at hD
      simp at ha hD
      subst ha hD
      rw [← hvn]
      exact hPV _ _ h.now
theorem at_hd {w : World} {A : Option Addr} {n : Nat} {Hs : List HD} (h : HT.C w A n Hs) {k : Nat} {hd : HD} (hk : Hs[k]? = some hd) : ∃ ad, A = some ad ∧ w.cell? (ad.add k) = some (encH hd) := by
  have hl := h.1
  have hkl := (List.getElem?_eq_some_iff.1 hk).1
  obtain ⟨ad, e, hh⟩ := h.2.2 (by omega)
  obtain ⟨vs, h1, h2, h3⟩ := hh k hd hk
  have h4 : vs = [encH hd] := h2
  have h5 := h3 0 (encH hd) (by rw [h4]; rfl)
  have h6 : HT.sz = 1 := rfl
  rw [h6, Nat.mul_one, Nat.add_zero] at h5
  exact ⟨ad, e, h5⟩
theorem MR.backs {Am Ai : Option Addr} {nm cm ni ci : Nat} (h : MR lo g op vd vn (.slice Am nm cm) (.slice Ai ni ci) Dd Dw Ms Id w P) (hlI : Ms.length = Id.length) (k : Nat) (hk : k < Id.length) :
    ∃ am ai Ax nx cx D, Am = some am ∧ Ai = some ai ∧ Ms[k]? = some D ∧ ni = Id.length ∧ nm = Id.length ∧ nx = D.length ∧ w.cell? (am.add k) = some (.slice Ax nx cx) ∧ w.cell? (ai.add k) = some (.int .i64 (rd Id k)) ∧
      (∀ W : World, (Instr.slice 60 (.slice Ai ni ci) none (some (.int .i64 ((k : Int) + 1))) none).run Tryz.prog W = .ok (.slice Ai (k + 1) ci) W) ∧ (∀ W : World, (Instr.slice 71 (.slice Am nm cm) none (some (.int .i64 ((k : Int) + 1))) none).run Tryz.prog W = .ok (.slice Am (k + 1) cm) W) ∧
      MR lo g op vd (.slice Ax nx cx) (.slice Am (k + 1) cm) (.slice Ai (k + 1) ci) Dd D (Ms.take (k + 1)) (Id.take (k + 1)) (((w.setCell ⟨g, 2, none⟩ (.slice Ax nx cx)).setCell ⟨g, 4, none⟩ (.slice Ai (k + 1) ci)).setCell ⟨g, 3, none⟩ (.slice Am (k + 1) cm)) P ∧ Fr (fun k => k = g) w (((w.setCell ⟨g, 2, none⟩ (.slice Ax nx cx)).setCell ⟨g, 4, none⟩ (.slice Ai (k + 1) ci)).setCell ⟨g, 3, none⟩ (.slice Am (k + 1) cm)) := by
  obtain ⟨Hs, hms, hHl, hHv⟩ := h.ms
  obtain ⟨hCi, hci, hni⟩ := C_of_rowk h.ids
  obtain ⟨hCm, hcm, hnm⟩ := C_of_rowk hms
  have hkm : k < Ms.length := by omega
  have hkh : k < Hs.length := by omega
  obtain ⟨D, hD⟩ : ∃ D, Ms[k]? = some D := ⟨_, List.getElem?_eq_getElem hkm⟩
  obtain ⟨⟨Ax, nx, cx⟩, hhd⟩ : ∃ hd, Hs[k]? = some hd := ⟨_, List.getElem?_eq_getElem hkh⟩
  obtain ⟨am, e1, c1⟩ := at_hd hCm hhd
  obtain ⟨ai, e2, c2⟩ := Kd.at_int hCi (k : Int) (by omega) (by omega)
  rw [Int.toNat_natCast] at c2
  have hv := hHv k _ D hhd hD
  have hnx : nx = D.length := (Kd.V_at hv).1
  obtain ⟨r1, C1⟩ := cut_T 60 3 _ 8 Tryz.underlying60 PPagesModel.info3 hCi hci (k := k + 1) (by omega) ((k : Int) + 1) (by omega)
  obtain ⟨r2, C2⟩ := cut_T 71 32 _ 24 Tryz.underlying71 info32t hCm hcm (k := k + 1) (by omega) ((k : Int) + 1) (by omega)
  have b1 := blkset h.blk 2 (.slice Ax nx cx)
  have b2 := blkset b1 4 (.slice Ai (k + 1) ci)
  have b3 := blkset b2 3 (.slice Am (k + 1) cm)
  refine ⟨am, ai, Ax, nx, cx, D, e1, e2, hD, hni.symm, by omega, hnx, c1, c2, r1, r2, ?_, (((Fr.refl (fun k => k = g) w).set_ (p := ⟨g, 2, none⟩) (.inl rfl) _).set_ (p := ⟨g, 4, none⟩) (.inl rfl) _).set_ (p := ⟨g, 3, none⟩) (.inl rfl) _⟩
  subst e1 e2
  have hm : ∀ j, j ≠ g → j < w.heap.size → (((w.setCell ⟨g, 2, none⟩ (.slice Ax nx cx)).setCell ⟨g, 4, none⟩ (.slice (some ai) (k + 1) ci)).setCell ⟨g, 3, none⟩ (.slice (some am) (k + 1) cm)).heap[j]? = w.heap[j]? := fun j hj _ => by
    rw [keepset _ g 3 _ j hj, keepset _ g 4 _ j hj, keepset _ g 2 _ j hj]
  have hs := h.set op h.done hv (w' := w) (Dd' := Dd) (vd' := vd) (vn' := .slice Ax nx cx)
  have hi : ∀ j, (Value.slice (some ai) ni ci).ownBlock = some j → j ≠ g := fun j hj e => h.gi (e ▸ hj)
  have hmm : ∀ j, (Value.slice (some am) nm cm).ownBlock = some j → j ≠ g := fun j hj e => h.gm (e ▸ hj)
  have I1 := R_keep h.ids (w' := (((w.setCell ⟨g, 2, none⟩ (.slice Ax nx cx)).setCell ⟨g, 4, none⟩ (.slice (some ai) (k + 1) ci)).setCell ⟨g, 3, none⟩ (.slice (some am) (k + 1) cm))) (fun j hj hl => hm j (hi j hj) hl)
  have M1 := R_keep hms (w' := (((w.setCell ⟨g, 2, none⟩ (.slice Ax nx cx)).setCell ⟨g, 4, none⟩ (.slice (some ai) (k + 1) ci)).setCell ⟨g, 3, none⟩ (.slice (some am) (k + 1) cm))) (fun j hj hl => hm j (hmm j hj) hl)
  exact ⟨b3, h.pg, h.hlo, Kd.R_take (Kd.R_mono I1 (fun j hj => hj.1)) (by omega), ⟨Hs.take (k + 1), Kd.R_take (Kd.R_mono M1 (fun j hj => hj.1)) (by omega), by simp [hHl], fun i a D ha hD => by
    rw [List.getElem?_take] at ha hD
    by_cases hi : i < k + 1
    · rw [if_pos hi] at ha hD
      exact Kd.V_step (hHv i a D ha hD) (fun j hj hl => hm j hj.2.1 hl)
    · rw [if_neg hi] at ha; cases ha⟩,
    Kd.V_step h.done (fun j hj hl => hm j hj.2.1 hl), Kd.V_step hv (fun j hj hl => hm j hj.2.1 hl), h.gi, h.gm, h.apart⟩
end
theorem Shut.begun {W w : World} {g p d ls : Nat} {mo cc : Int} {C : Bytes} {op : Bool} {vd vn vm vi : Value} {Dd Dw : List Bytes} {Ms : List (List Bytes)} {Id : List Int} (h : Shut W (MB W.heap.size g op vd vn vm vi Dd Dw Ms Id) p d mo C ls cc w) :
    Shut W (MB W.heap.size g true vd vd (.slice none 0 0) (.slice none 0 0) Dd Dd [] []) p d mo C ls cc ((((w.setCell ⟨g, 1, none⟩ (.bool true)).setCell ⟨g, 2, none⟩ vd).setCell ⟨g, 3, none⟩ (.slice none 0 0)).setCell ⟨g, 4, none⟩ (.slice none 0 0)) := by
  obtain ⟨P, hP, hPl, hT⟩ := h.parts
  obtain ⟨h1, h2⟩ := hP.begun
  exact hT _ _ _ h2 (MB.stab _ _ _ _ _ _ _ _ _ _ _) (fun k hk => ⟨hk ▸ hP.pg, hk ▸ hP.hlo⟩) (h1.mono (fun k hk => .inl hk))
/-- the marks of the pager and those of the model -/
structure MkR (X : PG) (Ms : List (List Bytes)) (Id : List Int) : Prop where
  li : X.marks.length = Id.length
  lm : Ms.length = Id.length
  at_ : ∀ (i : Nat) (k : Mk), X.marks[i]? = some k → Id[i]? = some k.n ∧ k.n ≤ X.next
  see : ∀ (i : Nat) (k : Mk) (D : List Bytes), X.marks[i]? = some k → Ms[i]? = some D → Sees (X.bkd k i) D
  rise : ∀ (i j : Nat) (a b : Mk), i < j → X.marks[i]? = some a → X.marks[j]? = some b → a.n < b.n
  d12 : ∀ D ∈ Ms, D.length ≤ 12
theorem Sees.cong {X Y : PG} {D : List Bytes} (h : Sees X D) (h1 : Y.own = X.own) (h2 : Y.count = X.count) (h3 : Y.was = X.was) : Sees Y D := by
  have hv : ∀ i : Nat, Y.view i = X.view i := fun i => by unfold PG.view PG.page; rw [h1, h3]
  exact ⟨h2.trans h.cnt, fun i b hb => (hv i).trans (h.at_ i b hb), fun i hi => (hv i).trans (h.past i hi), h.full⟩
theorem MkR.nil {X : PG} (h : X.marks = []) : MkR X [] [] := ⟨by rw [h]; rfl, rfl, fun i k hk => by rw [h] at hk; simp at hk, fun i k D hk => by rw [h] at hk; simp at hk, fun i j a b _ hk => by rw [h] at hk; simp at hk, fun D hD => by cases hD⟩
theorem MkR.put {X : PG} {Ms : List (List Bytes)} {Id : List Int} (h : MkR X Ms Id) (n : Int) (b : Bytes) : MkR (X.put n b) Ms Id := ⟨h.li, h.lm, h.at_, fun i k D hk hD => (h.see i k D hk hD).cong rfl rfl rfl, h.rise, h.d12⟩
theorem MkR.mkd {X : PG} {Ms : List (List Bytes)} {Id : List Int} (h : MkR X Ms Id) {D : List Bytes} (hs : Sees X D) (h12 : D.length ≤ 12) : MkR X.mkd (Ms ++ [D]) (Id ++ [X.next + 1]) := by
  have hcase : ∀ (i : Nat) (k : Mk), X.mkd.marks[i]? = some k → (i < X.marks.length ∧ X.marks[i]? = some k) ∨ (i = X.marks.length ∧ k = ⟨X.next + 1, X.own, X.count⟩) := fun i k hk => by
    have hk' : (X.marks ++ [⟨X.next + 1, X.own, X.count⟩])[i]? = some k := hk
    by_cases hi : i < X.marks.length
    · rw [List.getElem?_append_left hi] at hk'; exact .inl ⟨hi, hk'⟩
    · rw [List.getElem?_append_right (by omega)] at hk'
      have := (List.getElem?_eq_some_iff.1 hk').1
      simp at this
      have e : i = X.marks.length := by omega
      rw [e, Nat.sub_self] at hk'
      simp at hk'
      exact .inr ⟨e, hk'.symm⟩
  refine ⟨?_, by simp [h.lm], fun i k hk => ?_, fun i k D' hk hD => ?_, fun i j a b hij ha hb => ?_, fun D' hD' => ?_⟩
  · show (X.marks ++ [_]).length = _
    simp [h.li]
  · rcases hcase i k hk with ⟨hi, hk'⟩ | ⟨hi, rfl⟩
    · obtain ⟨e1, e2⟩ := h.at_ i k hk'
      exact ⟨by rw [List.getElem?_append_left (by rw [← h.li]; exact hi)]; exact e1, by show k.n ≤ X.next + 1; omega⟩
    · exact ⟨by rw [hi, h.li, List.getElem?_append_right (Nat.le_refl _)]; simp, Int.le_refl _⟩
  · rcases hcase i k hk with ⟨hi, hk'⟩ | ⟨hi, rfl⟩
    · rw [List.getElem?_append_left (by rw [h.lm, ← h.li]; exact hi)] at hD
      exact (h.see i k D' hk' hD).cong rfl rfl rfl
    · rw [hi, h.li, ← h.lm, List.getElem?_append_right (Nat.le_refl _)] at hD
      simp at hD
      subst hD
      exact hs.cong rfl rfl rfl
  · rcases hcase i a ha with ⟨hi, ha'⟩ | ⟨hi, rfl⟩
    · rcases hcase j b hb with ⟨hj, hb'⟩ | ⟨hj, rfl⟩
      · exact h.rise i j a b hij ha' hb'
      · have := (h.at_ i a ha').2
        show a.n < X.next + 1
        omega
    · rcases hcase j b hb with ⟨hj, hb'⟩ | ⟨hj, rfl⟩ <;> omega
  · rcases List.mem_append.1 hD' with hD' | hD'
    · exact h.d12 D' hD'
    · rw [List.mem_singleton.1 hD']; exact h12
theorem MkR.bkd {X : PG} {Ms : List (List Bytes)} {Id : List Int} (h : MkR X Ms Id) {k : Mk} {i : Nat} (hk : X.marks[i]? = some k) : MkR (X.bkd k i) (Ms.take (i + 1)) (Id.take (i + 1)) := by
  have hil := (List.getElem?_eq_some_iff.1 hk).1
  have hcase : ∀ (j : Nat) (a : Mk), (X.bkd k i).marks[j]? = some a → j < i + 1 ∧ X.marks[j]? = some a := fun j a ha => by
    have ha' : (X.marks.take (i + 1))[j]? = some a := ha
    rw [List.getElem?_take] at ha'
    by_cases hj : j < i + 1
    · rw [if_pos hj] at ha'; exact ⟨hj, ha'⟩
    · rw [if_neg hj] at ha'; cases ha'
  refine ⟨?_, by simp [h.lm], fun j a ha => ?_, fun j a D ha hD => ?_, fun j l a b hjl ha hb => h.rise j l a b hjl (hcase j a ha).2 (hcase l b hb).2, fun D hD => h.d12 D (List.mem_of_mem_take hD)⟩
  · show (X.marks.take (i + 1)).length = _
    simp [h.li]
  · obtain ⟨hj, ha'⟩ := hcase j a ha
    exact ⟨by rw [List.getElem?_take, if_pos hj]; exact (h.at_ j a ha').1, (h.at_ j a ha').2⟩
  · obtain ⟨hj, ha'⟩ := hcase j a ha
    rw [List.getElem?_take, if_pos hj] at hD
    exact (h.see j a D ha' hD).cong rfl rfl rfl
end Go.Proofs.YtmdpgjdepflbmaaGreat
namespace Go.Proofs.YtmdpgjdepflbmaaGreat
open Go.RowKit Go.Maps Go.Proofs.YtmdpgjdepflbmaaGreatW.PrintWords Go.Proofs.YtmdpgjdepflbmaaGreatW.PrintLast Go.Proofs.YtmdpgjdepflbmaaGreatW.PrintMore
open Go.Proofs.YtmdpgjdepflbmaaGreat.PPagerFolds
set_option linter.unusedVariables false
set_option linter.unusedSimpArgs false

theorem within_d {a r : Int} (hr : r = (IntKind.u64.wrap a) % 11) (w : World) : Calls Tryz.prog 18 #[.int .i64 a, .int .i64 11] w fun e w' => e = .returned (.int .i64 r) ∧ ∃ m, w' = w.drewN m := by
  refine (within_any a 11 (by omega) (by omega) w).mono ?_
  rintro e w' ⟨r', rfl, _, h2, hm⟩
  have : (r' : Int) = r := by rw [h2, hr]; rfl
  rw [this]
  exact ⟨rfl, hm⟩
theorem within_12 (a : Int) (w : World) : Calls Tryz.prog 18 #[.int .i64 a, .int .i64 12] w fun e w' => ∃ r : Nat, e = .returned (.int .i64 r) ∧ Aside0 (r < 12) ∧ ∃ m, w' = w.drewN m := by
  refine (within_any a 12 (by omega) (by omega) w).mono ?_
  rintro e w' ⟨r', rfl, h1, h2, hm⟩
  exact ⟨r', rfl, ⟨by omega⟩, hm⟩
abbrev AB (D N L : Int) : Obj := .cells #[.int .i64 D, .int .i64 N, .int .i64 L] 42
theorem ab_cell (w : World) (D N L : Int) (i : Nat) : (w.alloc (AB D N L)).cell? ⟨w.heap.size, i, none⟩ = (#[.int .i64 D, .int .i64 N, .int .i64 L] : Array Value)[i]? := cell_of_row _ w.heap.size i _ _ (0, 0) (heap_alloc_new w _)
section
variable {W w w' : World} {X : PG} {M : DM} {g p d ls : Nat} {mo cc : Int} {C : Bytes} {Ds : List Bytes} {op : Bool} {vd vn vm vi : Value} {Dd Dw : List Bytes} {Ms : List (List Bytes)} {Id : List Int} {Ad An Am Ai : Option Addr} {nd nn nm ni cd cn cm ci : Nat}
set_option maxHeartbeats 4000000 in
set_option maxRecDepth 100000 in
theorem act_begin_in (h : Opn W (MB W.heap.size g true vd vn vm vi Dd Dw Ms Id) X p d mo C Dw ls cc w) (D N L : Int) (hd : 0 = (IntKind.u64.wrap D) % 11) :
    Calls Tryz.prog 34 #[dp g, dp p, .agg #[.int .i64 D, .int .i64 N, .int .i64 L]] w fun e w' => e = .returned (.bool true) ∧ Opn W (MB W.heap.size g true vd vn vm vi Dd Dw Ms Id) X p d mo C Dw ls cc w' := by
  have hb1 : Below w.heap.size w (w.alloc (AB D N L)) := (Below.refl w.heap.size w).alloc (Nat.le_refl _) (AB D N L)
  have h1 := h.step hb1
  have d0 : (w.alloc (AB D N L)).cell? ⟨w.heap.size, 0, none⟩ = some (.int .i64 D) := ab_cell w D N L 0
  have d1 : (w.alloc (AB D N L)).cell? ⟨w.heap.size, 1, none⟩ = some (.int .i64 N) := ab_cell w D N L 1
  have d2 : (w.alloc (AB D N L)).cell? ⟨w.heap.size, 2, none⟩ = some (.int .i64 L) := ab_cell w D N L 2
  obtain ⟨P, hP, hPl, hT⟩ := h1.parts
  have c1 : (w.alloc (AB D N L)).cell? ⟨g, 1, none⟩ = some (.bool true) := hP.c 1
  have HD := Aside0.mk (fun W : World => within_d hd W)
  have H1 := Aside0.mk h1
  clear h h1 hP hPl hT P hd hb1
  go_enter Tryz.func34, Tryz.ntmps34
  go_wp2_with fail
  refine (within_12 N _).mono ?_
  rintro e w' ⟨r, rfl, HRr, m1, rfl⟩
  go_wp2_with fail
  refine (HD.out _).mono ?_
  rintro e w' ⟨rfl, m2, rfl⟩
  go_wp2_with fail
  refine (o_begin_in (H1.out.drewN _)).mono ?_
  rintro e w3 ⟨rfl, rfl⟩
  go_wp2_with fail
  go_wp2_with (go_at_call 15; refine (num12_any _ _).mono ?_; rintro e w' ⟨rfl, rfl⟩)
  go_ret
  exact ⟨rfl, H1.out.drewN _⟩
set_option maxHeartbeats 4000000 in
set_option maxRecDepth 100000 in
theorem act_begin_out (h : Shut W (MB W.heap.size g false (.slice Ad nd cd) vn vm vi Dd Dw Ms Id) p d mo C ls cc w) (D N L : Int) (hH : Holds C Dd) (hl : Dd.length ≤ 4096) (hcc : cc + 10 < 1000000) (hd : 0 = (IntKind.u64.wrap D) % 11) :
    Calls Tryz.prog 34 #[dp g, dp p, .agg #[.int .i64 D, .int .i64 N, .int .i64 L]] w fun e w' => e = .returned (.bool true) ∧ ∃ X, Opn W (MB W.heap.size g true (.slice Ad nd cd) (.slice Ad nd cd) (.slice none 0 0) (.slice none 0 0) Dd Dd [] []) X p d mo C Dd ls (cc + 1) w' ∧ X.marks = [] := by
  have hb1 : Below w.heap.size w (w.alloc (AB D N L)) := (Below.refl w.heap.size w).alloc (Nat.le_refl _) (AB D N L)
  have h1 := h.step hb1
  have d0 : (w.alloc (AB D N L)).cell? ⟨w.heap.size, 0, none⟩ = some (.int .i64 D) := ab_cell w D N L 0
  have d1 : (w.alloc (AB D N L)).cell? ⟨w.heap.size, 1, none⟩ = some (.int .i64 N) := ab_cell w D N L 1
  have d2 : (w.alloc (AB D N L)).cell? ⟨w.heap.size, 2, none⟩ = some (.int .i64 L) := ab_cell w D N L 2
  obtain ⟨P, hP, hPl, hT⟩ := h1.parts
  have c0 : (w.alloc (AB D N L)).cell? ⟨g, 0, none⟩ = some ((.slice Ad nd cd)) := hP.c 0
  have c1 : (w.alloc (AB D N L)).cell? ⟨g, 1, none⟩ = some (.bool false) := hP.c 1
  have c2 : (w.alloc (AB D N L)).cell? ⟨g, 2, none⟩ = some (vn) := hP.c 2
  have c3 : (w.alloc (AB D N L)).cell? ⟨g, 3, none⟩ = some (vm) := hP.c 3
  have c4 : (w.alloc (AB D N L)).cell? ⟨g, 4, none⟩ = some (vi) := hP.c 4
  have z1 := frozen_of_cells hP.blk 1
  have z2 := frozen_of_cells hP.blk 2
  have z3 := frozen_of_cells hP.blk 3
  have z4 := frozen_of_cells hP.blk 4
  have HD := Aside0.mk (fun W : World => within_d hd W)
  have H1 := Aside0.mk h1
  clear h h1 hP hPl hT P hd hb1
  go_enter Tryz.func34, Tryz.ntmps34
  go_wp2_with fail
  refine (within_12 N _).mono ?_
  rintro e w' ⟨r, rfl, HRr, m1, rfl⟩
  go_wp2_with fail
  refine (HD.out _).mono ?_
  rintro e w' ⟨rfl, m2, rfl⟩
  go_wp2_with fail
  have hS : Shut W (MB W.heap.size g true (.slice Ad nd cd) (.slice Ad nd cd) (.slice none 0 0) (.slice none 0 0) Dd Dd [] []) p d mo C ls cc _ := (H1.out.drewN (m1 + m2)).begun
  generalize World.setCell _ _ _ = w3 at hS ⊢
  obtain ⟨P, hP, hPl, hT⟩ := hS.parts
  have c2 : w3.cell? ⟨g, 2, none⟩ = some (.slice Ad nd cd) := hP.c 2
  have hn := (Kd.V_at hP.done).1
  have HH := Aside0.mk (And.intro hS (And.intro hH (And.intro hl (And.intro hcc hn))))
  clear hS hP hPl hT P hH hl hcc hn c0 c1 c3 c4 d0 d1 d2 z1 z2 z3 z4
  go_region_held3 (fun w' => w'.cell? ⟨g, 2, none⟩ = some (.slice Ad nd cd)) (first | go_keep | assumption) (first
    | (go_at_call 19; refine (o_begin (HH.out.1.drewN _) HH.out.2.2.2.1 HH.out.2.1 HH.out.2.2.1).mono ?_; rintro e w4 ⟨rfl, X, hS4, hmk⟩
       obtain ⟨P, hP, hPl, hT⟩ := hS4.parts
       have c2' : w4.cell? ⟨g, 2, none⟩ = some (.slice Ad nd cd) := hP.c 2
       have H4 := Aside0.mk (And.intro hS4 hmk)
       clear hS4 hmk hP hPl hT P)
    | (go_at_call 15; refine (num12_any _ _).mono ?_; rintro e w' ⟨rfl, rfl⟩)
    | (go_at_call 25; refine (o_count H4.out.1).mono ?_; rintro e w' ⟨rfl, rfl⟩))
  go_wp2
  go_ret
  exact ⟨by rw [HH.out.2.2.2.2]; simp, X, H4.out⟩
set_option maxHeartbeats 4000000 in
set_option maxRecDepth 100000 in
theorem act_fold_in (h : Opn W (MB W.heap.size g true vd vn vm vi Dd Dw Ms Id) X p d mo C Dw ls cc w) (D N L : Int) (hd : 10 = (IntKind.u64.wrap D) % 11) :
    Calls Tryz.prog 34 #[dp g, dp p, .agg #[.int .i64 D, .int .i64 N, .int .i64 L]] w fun e w' => e = .returned (.bool true) ∧ Opn W (MB W.heap.size g true vd vn vm vi Dd Dw Ms Id) X p d mo C Dw ls cc w' := by
  have hb1 : Below w.heap.size w (w.alloc (AB D N L)) := (Below.refl w.heap.size w).alloc (Nat.le_refl _) (AB D N L)
  have h1 := h.step hb1
  have d0 : (w.alloc (AB D N L)).cell? ⟨w.heap.size, 0, none⟩ = some (.int .i64 D) := ab_cell w D N L 0
  have d1 : (w.alloc (AB D N L)).cell? ⟨w.heap.size, 1, none⟩ = some (.int .i64 N) := ab_cell w D N L 1
  have d2 : (w.alloc (AB D N L)).cell? ⟨w.heap.size, 2, none⟩ = some (.int .i64 L) := ab_cell w D N L 2
  obtain ⟨P, hP, hPl, hT⟩ := h1.parts
  have c1 : (w.alloc (AB D N L)).cell? ⟨g, 1, none⟩ = some (.bool true) := hP.c 1
  have HD := Aside0.mk (fun W : World => within_d hd W)
  have H1 := Aside0.mk h1
  clear h h1 hP hPl hT P hd hb1
  go_enter Tryz.func34, Tryz.ntmps34
  go_wp2_with fail
  refine (within_12 N _).mono ?_
  rintro e w' ⟨r, rfl, HRr, m1, rfl⟩
  go_wp2_with fail
  refine (HD.out _).mono ?_
  rintro e w' ⟨rfl, m2, rfl⟩
  go_wp2_with fail
  refine (o_fold_in (H1.out.drewN _)).mono ?_
  rintro e w3 ⟨rfl, rfl⟩
  go_wp2_with fail
  go_wp2_with (go_at_call 15; refine (num12_any _ _).mono ?_; rintro e w' ⟨rfl, rfl⟩)
  go_ret
  exact ⟨rfl, H1.out.drewN _⟩
set_option maxHeartbeats 4000000 in
set_option maxRecDepth 100000 in
theorem act_fold_out (h : Shut W (MB W.heap.size g false vd vn vm vi Dd Dw Ms Id) p d mo C ls cc w) (D N L : Int) (hcc : cc + 6000 < 1000000) (hls : ls ≤ 4194304) (hd : 10 = (IntKind.u64.wrap D) % 11) :
    Calls Tryz.prog 34 #[dp g, dp p, .agg #[.int .i64 D, .int .i64 N, .int .i64 L]] w fun e w' => e = .returned (.bool true) ∧ Shut W (MB W.heap.size g false vd vn vm vi Dd Dw Ms Id) p d mo C ls (cc + 4100) w' := by
  have hb1 : Below w.heap.size w (w.alloc (AB D N L)) := (Below.refl w.heap.size w).alloc (Nat.le_refl _) (AB D N L)
  have h1 := h.step hb1
  have d0 : (w.alloc (AB D N L)).cell? ⟨w.heap.size, 0, none⟩ = some (.int .i64 D) := ab_cell w D N L 0
  have d1 : (w.alloc (AB D N L)).cell? ⟨w.heap.size, 1, none⟩ = some (.int .i64 N) := ab_cell w D N L 1
  have d2 : (w.alloc (AB D N L)).cell? ⟨w.heap.size, 2, none⟩ = some (.int .i64 L) := ab_cell w D N L 2
  obtain ⟨P, hP, hPl, hT⟩ := h1.parts
  have c1 : (w.alloc (AB D N L)).cell? ⟨g, 1, none⟩ = some (.bool false) := hP.c 1
  have HD := Aside0.mk (fun W : World => within_d hd W)
  have H1 := Aside0.mk h1
  have HC := Aside0.mk (And.intro hcc hls)
  clear hcc hls
  clear h h1 hP hPl hT P hd hb1
  go_enter Tryz.func34, Tryz.ntmps34
  go_wp2_with fail
  refine (within_12 N _).mono ?_
  rintro e w' ⟨r, rfl, HRr, m1, rfl⟩
  go_wp2_with fail
  refine (HD.out _).mono ?_
  rintro e w' ⟨rfl, m2, rfl⟩
  go_wp2_with fail
  refine (o_fold2 (H1.out.drewN _) HC.out.1 HC.out.2).mono ?_
  rintro e w3 ⟨rfl, hS⟩
  have H3 := Aside0.mk hS
  clear hS
  go_wp2_with (go_at_call 15; refine (num12_any _ _).mono ?_; rintro e w' ⟨rfl, rfl⟩)
  go_ret
  exact ⟨rfl, H3.out⟩
set_option maxHeartbeats 4000000 in
set_option maxRecDepth 100000 in
theorem act_roll_in (h : Opn W (MB W.heap.size g true vd vn vm vi Dd Dw Ms Id) X p d mo C Dw ls cc w) (D N L : Int) (hd : 6 = (IntKind.u64.wrap D) % 11) :
    Calls Tryz.prog 34 #[dp g, dp p, .agg #[.int .i64 D, .int .i64 N, .int .i64 L]] w fun e w' => e = .returned (.bool true) ∧ Shut W (MB W.heap.size g false vd vn vm vi Dd Dw Ms Id) p d mo C ls cc w' := by
  have hb1 : Below w.heap.size w (w.alloc (AB D N L)) := (Below.refl w.heap.size w).alloc (Nat.le_refl _) (AB D N L)
  have h1 := h.step hb1
  have d0 : (w.alloc (AB D N L)).cell? ⟨w.heap.size, 0, none⟩ = some (.int .i64 D) := ab_cell w D N L 0
  have d1 : (w.alloc (AB D N L)).cell? ⟨w.heap.size, 1, none⟩ = some (.int .i64 N) := ab_cell w D N L 1
  have d2 : (w.alloc (AB D N L)).cell? ⟨w.heap.size, 2, none⟩ = some (.int .i64 L) := ab_cell w D N L 2
  obtain ⟨P, hP, hPl, hT⟩ := h1.parts
  have c1 : (w.alloc (AB D N L)).cell? ⟨g, 1, none⟩ = some (.bool true) := hP.c 1
  have HD := Aside0.mk (fun W : World => within_d hd W)
  have H1 := Aside0.mk h1
  clear h h1 hP hPl hT P hd hb1
  go_enter Tryz.func34, Tryz.ntmps34
  go_wp2_with fail
  refine (within_12 N _).mono ?_
  rintro e w' ⟨r, rfl, HRr, m1, rfl⟩
  go_wp2_with fail
  refine (HD.out _).mono ?_
  rintro e w' ⟨rfl, m2, rfl⟩
  go_wp2_with fail
  refine (o_roll (H1.out.drewN _)).mono ?_
  rintro e w3 ⟨rfl, hS⟩
  obtain ⟨P, hP, hPl, hT⟩ := hS.parts
  have c1 : w3.cell? ⟨g, 1, none⟩ = some (.bool true) := hP.c 1
  have hfz := frozen_of_cells hP.blk 1
  obtain ⟨s1, s2, s3⟩ := blk_set hP.blk 1 (.bool false)
  have hS4 := Aside0.mk (hT _ _ (MB W.heap.size g false vd vn vm vi Dd Dw Ms Id) s2 (MB.stab _ _ _ _ _ _ _ _ _ _ _) (fun k hk => ⟨hk ▸ hP.pg, hk ▸ hP.hlo⟩) ((hP.set false hP.done hP.now s1 s3).mono (fun k hk => .inl hk)))
  clear hS hP hPl hT s1 s2 s3 P
  go_wp2_with fail
  go_wp2_with (go_at_call 15; refine (num12_any _ _).mono ?_; rintro e w' ⟨rfl, rfl⟩)
  refine (o_count_out hS4.out).mono ?_
  rintro e w5 ⟨rfl, rfl⟩
  go_wp2_with fail
  go_ret
  exact ⟨rfl, hS4.out⟩
set_option maxHeartbeats 4000000 in
set_option maxRecDepth 100000 in
theorem act_roll_out (h : Shut W (MB W.heap.size g false vd vn vm vi Dd Dw Ms Id) p d mo C ls cc w) (D N L : Int) (hd : 6 = (IntKind.u64.wrap D) % 11) :
    Calls Tryz.prog 34 #[dp g, dp p, .agg #[.int .i64 D, .int .i64 N, .int .i64 L]] w fun e w' => e = .returned (.bool true) ∧ Shut W (MB W.heap.size g false vd vn vm vi Dd Dw Ms Id) p d mo C ls cc w' := by
  have hb1 : Below w.heap.size w (w.alloc (AB D N L)) := (Below.refl w.heap.size w).alloc (Nat.le_refl _) (AB D N L)
  have h1 := h.step hb1
  have d0 : (w.alloc (AB D N L)).cell? ⟨w.heap.size, 0, none⟩ = some (.int .i64 D) := ab_cell w D N L 0
  have d1 : (w.alloc (AB D N L)).cell? ⟨w.heap.size, 1, none⟩ = some (.int .i64 N) := ab_cell w D N L 1
  have d2 : (w.alloc (AB D N L)).cell? ⟨w.heap.size, 2, none⟩ = some (.int .i64 L) := ab_cell w D N L 2
  obtain ⟨P, hP, hPl, hT⟩ := h1.parts
  have c1 : (w.alloc (AB D N L)).cell? ⟨g, 1, none⟩ = some (.bool false) := hP.c 1
  have HD := Aside0.mk (fun W : World => within_d hd W)
  have H1 := Aside0.mk h1
  clear h h1 hP hPl hT P hd hb1
  go_enter Tryz.func34, Tryz.ntmps34
  go_wp2_with fail
  refine (within_12 N _).mono ?_
  rintro e w' ⟨r, rfl, HRr, m1, rfl⟩
  go_wp2_with fail
  refine (HD.out _).mono ?_
  rintro e w' ⟨rfl, m2, rfl⟩
  go_wp2_with fail
  have hS := H1.out.drewN (m1 + m2)
  generalize World.drewN _ _ = w3 at hS ⊢
  refine (o_roll_out hS).mono ?_
  rintro e w' ⟨rfl, rfl⟩
  obtain ⟨P, hP, hPl, hT⟩ := hS.parts
  have c1 : w3.cell? ⟨g, 1, none⟩ = some (.bool false) := hP.c 1
  have hfz := frozen_of_cells hP.blk 1
  obtain ⟨s1, s2, s3⟩ := blk_set hP.blk 1 (.bool false)
  have hS4 := Aside0.mk (hT _ _ (MB W.heap.size g false vd vn vm vi Dd Dw Ms Id) s2 (MB.stab _ _ _ _ _ _ _ _ _ _ _) (fun k hk => ⟨hk ▸ hP.pg, hk ▸ hP.hlo⟩) ((hP.set false hP.done hP.now s1 s3).mono (fun k hk => .inl hk)))
  clear hS hP hPl hT s1 s2 s3 P
  go_wp2_with (go_at_call 15; refine (num12_any _ _).mono ?_; rintro e w' ⟨rfl, rfl⟩)
  refine (o_count_out hS4.out).mono ?_
  rintro e w5 ⟨rfl, rfl⟩
  go_wp2_with fail
  go_ret
  exact ⟨rfl, hS4.out⟩
set_option maxHeartbeats 4000000 in
set_option maxRecDepth 100000 in
theorem act_commit_out (h : Shut W (MB W.heap.size g false vd vn vm vi Dd Dw Ms Id) p d mo C ls cc w) (D N L : Int) (hd : 5 = (IntKind.u64.wrap D) % 11) :
    Calls Tryz.prog 34 #[dp g, dp p, .agg #[.int .i64 D, .int .i64 N, .int .i64 L]] w fun e w' => e = .returned (.bool true) ∧ Shut W (MB W.heap.size g false vd vn vm vi Dd Dw Ms Id) p d mo C ls cc w' := by
  have hb1 : Below w.heap.size w (w.alloc (AB D N L)) := (Below.refl w.heap.size w).alloc (Nat.le_refl _) (AB D N L)
  have h1 := h.step hb1
  have d0 : (w.alloc (AB D N L)).cell? ⟨w.heap.size, 0, none⟩ = some (.int .i64 D) := ab_cell w D N L 0
  have d1 : (w.alloc (AB D N L)).cell? ⟨w.heap.size, 1, none⟩ = some (.int .i64 N) := ab_cell w D N L 1
  have d2 : (w.alloc (AB D N L)).cell? ⟨w.heap.size, 2, none⟩ = some (.int .i64 L) := ab_cell w D N L 2
  obtain ⟨P, hP, hPl, hT⟩ := h1.parts
  have c1 : (w.alloc (AB D N L)).cell? ⟨g, 1, none⟩ = some (.bool false) := hP.c 1
  have HD := Aside0.mk (fun W : World => within_d hd W)
  have H1 := Aside0.mk h1
  clear h h1 hP hPl hT P hd hb1
  go_enter Tryz.func34, Tryz.ntmps34
  go_wp2_with fail
  refine (within_12 N _).mono ?_
  rintro e w' ⟨r, rfl, HRr, m1, rfl⟩
  go_wp2_with fail
  refine (HD.out _).mono ?_
  rintro e w' ⟨rfl, m2, rfl⟩
  go_wp2_with fail
  have hS := H1.out.drewN (m1 + m2)
  generalize World.drewN _ _ = w3 at hS ⊢
  refine (o_commit_out hS).mono ?_
  rintro e w' ⟨rfl, rfl⟩
  obtain ⟨P, hP, hPl, hT⟩ := hS.parts
  have c1 : w3.cell? ⟨g, 1, none⟩ = some (.bool false) := hP.c 1
  have hfz := frozen_of_cells hP.blk 1
  obtain ⟨s1, s2, s3⟩ := blk_set hP.blk 1 (.bool false)
  have hS4 := Aside0.mk (hT _ _ (MB W.heap.size g false vd vn vm vi Dd Dw Ms Id) s2 (MB.stab _ _ _ _ _ _ _ _ _ _ _) (fun k hk => ⟨hk ▸ hP.pg, hk ▸ hP.hlo⟩) ((hP.set false hP.done hP.now s1 s3).mono (fun k hk => .inl hk)))
  clear hS hP hPl hT s1 s2 s3 P
  go_wp2_with (go_at_call 15; refine (num12_any _ _).mono ?_; rintro e w' ⟨rfl, rfl⟩)
  refine (o_count_out hS4.out).mono ?_
  rintro e w5 ⟨rfl, rfl⟩
  go_wp2_with fail
  go_ret
  exact ⟨rfl, hS4.out⟩
set_option maxHeartbeats 4000000 in
set_option maxRecDepth 100000 in
theorem act_commit_in (h : Opn W (MB W.heap.size g true vd (.slice An nn cn) vm vi Dd Dw Ms Id) X p d mo C Dw ls cc w) (D N L : Int) (hcc : cc + 20000 < 1000000) (hls : ls ≤ 2080000) (hd : 5 = (IntKind.u64.wrap D) % 11) :
    Calls Tryz.prog 34 #[dp g, dp p, .agg #[.int .i64 D, .int .i64 N, .int .i64 L]] w fun e w' => e = .returned (.bool true) ∧ ∃ C', Shut W (MB W.heap.size g false (.slice An nn cn) (.slice An nn cn) vm vi Dw Dw Ms Id) p d mo C' (ls + (9 + 516 * Dw.length)) (cc + 5000) w' ∧ Holds C' Dw := by
  have hb1 : Below w.heap.size w (w.alloc (AB D N L)) := (Below.refl w.heap.size w).alloc (Nat.le_refl _) (AB D N L)
  have h1 := h.step hb1
  have d0 : (w.alloc (AB D N L)).cell? ⟨w.heap.size, 0, none⟩ = some (.int .i64 D) := ab_cell w D N L 0
  have d1 : (w.alloc (AB D N L)).cell? ⟨w.heap.size, 1, none⟩ = some (.int .i64 N) := ab_cell w D N L 1
  have d2 : (w.alloc (AB D N L)).cell? ⟨w.heap.size, 2, none⟩ = some (.int .i64 L) := ab_cell w D N L 2
  obtain ⟨P, hP, hPl, hT⟩ := h1.parts
  have c1 : (w.alloc (AB D N L)).cell? ⟨g, 1, none⟩ = some (.bool true) := hP.c 1
  have HD := Aside0.mk (fun W : World => within_d hd W)
  have H1 := Aside0.mk h1
  have HC := Aside0.mk (And.intro hcc hls)
  clear hcc hls
  clear h h1 hP hPl hT P hd hb1
  go_enter Tryz.func34, Tryz.ntmps34
  go_wp2_with fail
  refine (within_12 N _).mono ?_
  rintro e w' ⟨r, rfl, HRr, m1, rfl⟩
  go_wp2_with fail
  refine (HD.out _).mono ?_
  rintro e w' ⟨rfl, m2, rfl⟩
  go_wp2_with fail
  refine (o_commit (H1.out.drewN _) HC.out.1 HC.out.2).mono ?_
  rintro e w3 ⟨rfl, C', hS, hH⟩
  obtain ⟨P, hP, hPl, hT⟩ := hS.parts
  have c0 : w3.cell? ⟨g, 0, none⟩ = some vd := hP.c 0
  have c1 : w3.cell? ⟨g, 1, none⟩ = some (.bool true) := hP.c 1
  have c2 : w3.cell? ⟨g, 2, none⟩ = some (.slice An nn cn) := hP.c 2
  have z0 := frozen_of_cells hP.blk 0
  have z1 := frozen_of_cells hP.blk 1
  have hS4 := Aside0.mk (And.intro (hT _ _ (MB W.heap.size g false (.slice An nn cn) (.slice An nn cn) vm vi Dw Dw Ms Id) (((Fr.refl (fun k => k = g) w3).set_ (p := ⟨g, 0, none⟩) (.inl rfl) (.slice An nn cn)).set_ (p := ⟨g, 1, none⟩) (.inl rfl) (.bool false)) (MB.stab _ _ _ _ _ _ _ _ _ _ _) (fun k hk => ⟨hk ▸ hP.pg, hk ▸ hP.hlo⟩) ((hP.set false hP.now hP.now (blkset (blkset hP.blk 0 (.slice An nn cn)) 1 (.bool false)) (fun k hk _ => by rw [keepset _ g 1 _ k hk, keepset _ g 0 _ k hk])).mono (fun k hk => .inl hk))) hH)
  clear hS hP hPl hT P hH
  go_wp2_with fail
  go_wp2_with (go_at_call 15; refine (num12_any _ _).mono ?_; rintro e w' ⟨rfl, rfl⟩)
  refine (o_count_out hS4.out.1).mono ?_
  rintro e w5 ⟨rfl, rfl⟩
  go_wp2_with fail
  go_ret
  exact ⟨rfl, C', hS4.out⟩
set_option maxHeartbeats 4000000 in
set_option maxRecDepth 100000 in
theorem act_mark_out (h : Shut W (MB W.heap.size g false vd vn vm vi Dd Dw Ms Id) p d mo C ls cc w) (D N L : Int) (hd : 7 = (IntKind.u64.wrap D) % 11) :
    Calls Tryz.prog 34 #[dp g, dp p, .agg #[.int .i64 D, .int .i64 N, .int .i64 L]] w fun e w' => e = .returned (.bool true) ∧ Shut W (MB W.heap.size g false vd vn vm vi Dd Dw Ms Id) p d mo C ls cc w' := by
  have hb1 : Below w.heap.size w (w.alloc (AB D N L)) := (Below.refl w.heap.size w).alloc (Nat.le_refl _) (AB D N L)
  have h1 := h.step hb1
  have d0 : (w.alloc (AB D N L)).cell? ⟨w.heap.size, 0, none⟩ = some (.int .i64 D) := ab_cell w D N L 0
  have d1 : (w.alloc (AB D N L)).cell? ⟨w.heap.size, 1, none⟩ = some (.int .i64 N) := ab_cell w D N L 1
  have d2 : (w.alloc (AB D N L)).cell? ⟨w.heap.size, 2, none⟩ = some (.int .i64 L) := ab_cell w D N L 2
  obtain ⟨P, hP, hPl, hT⟩ := h1.parts
  have c1 : (w.alloc (AB D N L)).cell? ⟨g, 1, none⟩ = some (.bool false) := hP.c 1
  have HD := Aside0.mk (fun W : World => within_d hd W)
  have H1 := Aside0.mk h1
  clear h h1 hP hPl hT P hd hb1
  go_enter Tryz.func34, Tryz.ntmps34
  go_wp2_with fail
  refine (within_12 N _).mono ?_
  rintro e w' ⟨r, rfl, HRr, m1, rfl⟩
  go_wp2_with fail
  refine (HD.out _).mono ?_
  rintro e w' ⟨rfl, m2, rfl⟩
  go_wp2_with fail
  have hS := H1.out.drewN (m1 + m2)
  generalize World.drewN _ _ = w3 at hS ⊢
  obtain ⟨P, hP, hPl, hT⟩ := hS.parts
  have c1 : w3.cell? ⟨g, 1, none⟩ = some (.bool false) := hP.c 1
  have H3 := Aside0.mk hS
  clear hS hP hPl hT P
  refine (o_mark_out H3.out).mono ?_
  rintro e w' ⟨rfl, rfl⟩
  go_wp2_with (go_at_call 15; refine (num12_any _ _).mono ?_; rintro e w' ⟨rfl, rfl⟩)
  refine (o_count_out H3.out).mono ?_
  rintro e w5 ⟨rfl, rfl⟩
  go_wp2_with fail
  go_ret
  exact ⟨rfl, H3.out⟩
set_option maxHeartbeats 4000000 in
set_option maxRecDepth 100000 in
theorem act_back_out (h : Shut W (MB W.heap.size g false vd vn vm vi Dd Dw Ms Id) p d mo C ls cc w) (D N L : Int) (hd : 8 = (IntKind.u64.wrap D) % 11) :
    Calls Tryz.prog 34 #[dp g, dp p, .agg #[.int .i64 D, .int .i64 N, .int .i64 L]] w fun e w' => e = .returned (.bool true) ∧ Shut W (MB W.heap.size g false vd vn vm vi Dd Dw Ms Id) p d mo C ls cc w' := by
  have hb1 : Below w.heap.size w (w.alloc (AB D N L)) := (Below.refl w.heap.size w).alloc (Nat.le_refl _) (AB D N L)
  have h1 := h.step hb1
  have d0 : (w.alloc (AB D N L)).cell? ⟨w.heap.size, 0, none⟩ = some (.int .i64 D) := ab_cell w D N L 0
  have d1 : (w.alloc (AB D N L)).cell? ⟨w.heap.size, 1, none⟩ = some (.int .i64 N) := ab_cell w D N L 1
  have d2 : (w.alloc (AB D N L)).cell? ⟨w.heap.size, 2, none⟩ = some (.int .i64 L) := ab_cell w D N L 2
  obtain ⟨P, hP, hPl, hT⟩ := h1.parts
  have c1 : (w.alloc (AB D N L)).cell? ⟨g, 1, none⟩ = some (.bool false) := hP.c 1
  have HD := Aside0.mk (fun W : World => within_d hd W)
  have H1 := Aside0.mk h1
  clear h h1 hP hPl hT P hd hb1
  go_enter Tryz.func34, Tryz.ntmps34
  go_wp2_with fail
  refine (within_12 N _).mono ?_
  rintro e w' ⟨r, rfl, HRr, m1, rfl⟩
  go_wp2_with fail
  refine (HD.out _).mono ?_
  rintro e w' ⟨rfl, m2, rfl⟩
  go_wp2_with fail
  have hS := H1.out.drewN (m1 + m2)
  generalize World.drewN _ _ = w3 at hS ⊢
  have H3 := Aside0.mk hS
  clear hS
  refine (o_back_out H3.out 0).mono ?_
  rintro e w4 ⟨rfl, hb⟩
  have H4 := Aside0.mk hb
  clear hb
  go_wp2_with (go_at_call 15; refine (num12_any _ _).mono ?_; rintro e w' ⟨rfl, rfl⟩)
  go_ret
  exact ⟨rfl, H3.out.step H4.out⟩
set_option maxHeartbeats 4000000 in
set_option maxRecDepth 100000 in
theorem act_back_none (h : Opn W (MB W.heap.size g true vd vn vm (.slice Ai 0 ci) Dd Dw Ms Id) X p d mo C Dw ls cc w) (D N L : Int) (hd : 8 = (IntKind.u64.wrap D) % 11) :
    Calls Tryz.prog 34 #[dp g, dp p, .agg #[.int .i64 D, .int .i64 N, .int .i64 L]] w fun e w' => e = .returned (.bool true) ∧ Opn W (MB W.heap.size g true vd vn vm (.slice Ai 0 ci) Dd Dw Ms Id) X p d mo C Dw ls cc w' := by
  have hb1 : Below w.heap.size w (w.alloc (AB D N L)) := (Below.refl w.heap.size w).alloc (Nat.le_refl _) (AB D N L)
  have h1 := h.step hb1
  have d0 : (w.alloc (AB D N L)).cell? ⟨w.heap.size, 0, none⟩ = some (.int .i64 D) := ab_cell w D N L 0
  have d1 : (w.alloc (AB D N L)).cell? ⟨w.heap.size, 1, none⟩ = some (.int .i64 N) := ab_cell w D N L 1
  have d2 : (w.alloc (AB D N L)).cell? ⟨w.heap.size, 2, none⟩ = some (.int .i64 L) := ab_cell w D N L 2
  obtain ⟨P, hP, hPl, hT⟩ := h1.parts
  have c1 : (w.alloc (AB D N L)).cell? ⟨g, 1, none⟩ = some (.bool true) := hP.c 1
  have c4 : (w.alloc (AB D N L)).cell? ⟨g, 4, none⟩ = some ((.slice Ai 0 ci)) := hP.c 4
  have HD := Aside0.mk (fun W : World => within_d hd W)
  have H1 := Aside0.mk h1
  clear h h1 hP hPl hT P hd hb1
  go_enter Tryz.func34, Tryz.ntmps34
  go_wp2_with fail
  refine (within_12 N _).mono ?_
  rintro e w' ⟨r, rfl, HRr, m1, rfl⟩
  go_wp2_with fail
  refine (HD.out _).mono ?_
  rintro e w' ⟨rfl, m2, rfl⟩
  go_wp2_with fail
  go_ret
  exact ⟨rfl, H1.out.drewN _⟩
set_option maxHeartbeats 1000000 in
/-- the default arm's tests -/
theorem notk {r : Int} (h : r = 1 ∨ r = 2 ∨ r = 3 ∨ r = 9) : (r == 0) = false ∧ (r == 4) = false ∧ (r == 5) = false ∧ (r == 6) = false ∧ (r == 7) = false ∧ (r == 8) = false ∧ (r == 10) = false := by
  rcases h with rfl | rfl | rfl | rfl <;> decide
set_option maxHeartbeats 4000000 in
set_option maxRecDepth 100000 in
theorem act_write_out (h : Shut W (MB W.heap.size g false vd vn vm vi Dd Dw Ms Id) p d mo C ls cc w) (D N L : Int) {q : Int} (hr4 : q = 1 ∨ q = 2 ∨ q = 3 ∨ q = 9) (hd : q = (IntKind.u64.wrap D) % 11) :
    Calls Tryz.prog 34 #[dp g, dp p, .agg #[.int .i64 D, .int .i64 N, .int .i64 L]] w fun e w' => e = .returned (.bool true) ∧ Shut W (MB W.heap.size g false vd vn vm vi Dd Dw Ms Id) p d mo C ls cc w' := by
  have hb1 : Below w.heap.size w (w.alloc (AB D N L)) := (Below.refl w.heap.size w).alloc (Nat.le_refl _) (AB D N L)
  have h1 := h.step hb1
  have d0 : (w.alloc (AB D N L)).cell? ⟨w.heap.size, 0, none⟩ = some (.int .i64 D) := ab_cell w D N L 0
  have d1 : (w.alloc (AB D N L)).cell? ⟨w.heap.size, 1, none⟩ = some (.int .i64 N) := ab_cell w D N L 1
  have d2 : (w.alloc (AB D N L)).cell? ⟨w.heap.size, 2, none⟩ = some (.int .i64 L) := ab_cell w D N L 2
  obtain ⟨P, hP, hPl, hT⟩ := h1.parts
  have c1 : (w.alloc (AB D N L)).cell? ⟨g, 1, none⟩ = some (.bool false) := hP.c 1
  have HD := Aside0.mk (fun W : World => within_d hd W)
  have H1 := Aside0.mk h1
  obtain ⟨k0, k4, k5, k6, k7, k8, k10⟩ := notk hr4
  clear hr4
  clear h h1 hP hPl hT P hd hb1
  go_enter Tryz.func34, Tryz.ntmps34
  go_wp2_with fail
  refine (within_12 N _).mono ?_
  rintro e w' ⟨r, rfl, HRr, m1, rfl⟩
  go_wp2_with fail
  refine (HD.out _).mono ?_
  rintro e w' ⟨rfl, m2, rfl⟩
  go_wp2_with fail
  have hS := H1.out.drewN (m1 + m2)
  generalize World.drewN _ _ = w3 at hS ⊢
  have H3 := Aside0.mk hS
  clear hS
  refine (page12_any L _).mono ?_
  rintro e w4 ⟨v4, rfl, hv4, hb4⟩
  have hl4 : (pg12 L).length = 512 := pg12_length L
  obtain ⟨A4, q4, rfl⟩ := Kd.R_slice (d := U8) hv4
  rw [hl4] at hv4 ⊢
  have H4 := Aside0.mk (And.intro hv4 hb4)
  clear hv4 hb4 hl4
  go_wp2_with fail
  refine (o_write_out (H3.out.step H4.out.2) _ _ _ _).mono ?_
  rintro e w' ⟨rfl, rfl⟩
  go_wp2_with (go_at_call 15; refine (num12_any _ _).mono ?_; rintro e w' ⟨rfl, rfl⟩)
  refine (bytes_any H4.out.2 H4.out.1 (by rw [pg12_length]; omega)).mono ?_
  rintro e w5 ⟨rfl, hb5, -⟩
  have hS5 := H3.out.step hb5
  obtain ⟨P, hP, hPl, hT⟩ := hS5.parts
  have c1 : w5.cell? ⟨g, 1, none⟩ = some (.bool false) := hP.c 1
  have H5 := Aside0.mk hS5
  clear hS5 hP hPl hT P hb5
  go_wp2_with fail
  refine (o_count_out H5.out).mono ?_
  rintro e w6 ⟨rfl, rfl⟩
  go_wp2_with fail
  go_ret
  exact ⟨rfl, H5.out⟩
end
end Go.Proofs.YtmdpgjdepflbmaaGreat
namespace Go.Proofs.YtmdpgjdepflbmaaGreat
open Go.RowKit Go.Maps Go.Proofs.YtmdpgjdepflbmaaGreatW.PrintWords Go.Proofs.YtmdpgjdepflbmaaGreatW.PrintLast Go.Proofs.YtmdpgjdepflbmaaGreatW.PrintMore
open Go.Proofs.YtmdpgjdepflbmaaGreat.PPagerFolds
set_option linter.unusedVariables false
set_option linter.unusedSimpArgs false

/-- beside B a row of bytes of its own -/
def Bs (lo : Nat) (B : World → (Nat → Prop) → Prop) (v : Value) (pg : Bytes) : World → (Nat → Prop) → Prop := fun w P => B w (fun k => P k ∧ v.ownBlock ≠ some k) ∧ U8.R 5 w lo P v pg
theorem Bs.stab {lo : Nat} {B : World → (Nat → Prop) → Prop} (hst : Stab B) (v : Value) (pg : Bytes) : Stab (Bs lo B v pg) :=
  ⟨fun h hm => ⟨hst.step h.1 (fun k hk => hm k hk.1), Kd.R_step h.2 hm⟩, fun h hq => ⟨hst.mono h.1 (fun k hk => ⟨hq k hk.1, hk.2⟩), Kd.R_mono h.2 hq⟩⟩
section
variable {W w w' : World} {X : PG} {M : DM} {B : World → (Nat → Prop) → Prop} {p d ls lo : Nat} {mo cc : Int} {C : Bytes} {Ds : List Bytes}
theorem Opn.beside {w0 : World} (h : Opn W B X p d mo C Ds ls cc w0) (hb : Below w0.heap.size w0 w) {v : Value} {pg : Bytes} (hR : U8.R 5 w w0.heap.size (fun k => w0.heap.size ≤ k) v pg) : Opn W (Bs W.heap.size B v pg) X p d mo C Ds ls cc w := by
  obtain ⟨M, hG, hX, hD⟩ := h
  obtain ⟨ok, hS, hok, hV⟩ := hG.ex
  have hs := hb.size
  have hW := hG.below.size
  refine ⟨M, ⟨⟨ok, hS.below hb, fun k hk => by have := hok k hk; exact ⟨this.1, by omega⟩, hG.stab.mono (hG.stab.step hV (fun k hk hl => hb.block k hl)) (fun k hk => ⟨⟨by omega, hk.2⟩, fun e => by have := hR.1 k e; omega⟩), Kd.R_lower (Kd.R_mono (Kd.R_bound hR) (fun k hk => ⟨hk.2.2.1, fun e => by have := hok k e; have := hk.1; omega⟩)) hW⟩, hG.below.trans (hb.mono hW), Bs.stab hG.stab _ _⟩, hX, hD⟩
theorem o_writeB {A : Option Addr} {cb : Nat} {bs : Bytes} (h : Opn W (Bs lo B (.slice A 512 cb) bs) X p d mo C Ds ls cc w) (n : Nat) (h1 : n < 4096) :
    Calls Tryz.prog 20 #[dp p, .int .i64 n, .slice A 512 cb] w fun e w' => e = .returned (.int .i64 0) ∧ Opn W (Bs lo B (.slice A 512 cb) bs) (X.put n bs) p d mo C (putL Ds n bs) ls cc w' := by
  obtain ⟨M, hG, hX, hD⟩ := h
  obtain ⟨ok, hS, hok, hV⟩ := hG.ex
  obtain ⟨hC, hc, hl⟩ := C_of_row hV.2
  have hS0 := s_write (cb := cb) hS n hX.dead hX.inn (by omega) (by omega) hC (fun ad e => by
    subst e
    obtain ⟨b4, c4, e4, _⟩ := Kd.R_form hV.2 (by omega)
    have e5 : some ad = some ⟨b4, 0, none⟩ := by injection e4
    obtain rfl := Option.some.inj e5
    have := hV.2.1 b4 (by simp [Value.ownBlock])
    exact ⟨this.2, this.1⟩)
  rw [hX.p] at hS0
  refine hS0.mono ?_
  rintro e w' ⟨rfl, hS'⟩
  exact ⟨rfl, M, GJ.left hG.below hG.stab hok hV hS', ⟨hX.p, hX.d, hX.md, hX.dead, hX.inn, hX.was, hX.ti.put n bs (by omega), hX.see.put n bs hl, hX.nx0, hX.nx⟩, hD⟩
theorem Fr.of_kept {S : Nat → Prop} {V w w' : World} (h0 : Below V.heap.size V w) (h1 : Below V.heap.size V w') (hk : Kept w w' S) : Fr S w w' :=
  ⟨h1.os.trans h0.os.symm, h1.tape.trans h0.tape.symm, h1.output.trans h0.output.symm, hk.1, hk.2⟩
theorem bytes_opn {v : Value} {bs : Bytes} (h : Opn W (Bs W.heap.size B v bs) X p d mo C Ds ls cc w) (hst : Stab B) (hl : bs.length ≤ 1000000) :
    Calls Tryz.prog 66 #[v] w fun e w' => e = .returned (.tuple #[]) ∧ Opn W B X p d mo C Ds ls cc w' := by
  obtain ⟨P, hP, hPl, hT⟩ := h.parts
  refine (bytes_any h.below (Kd.R_tight rfl hP.2) hl).mono ?_
  rintro e w' ⟨rfl, hb, hk⟩
  refine ⟨rfl, hT _ _ _ (Fr.of_kept h.below hb hk) hst (fun k hk => ⟨hP.2.1 k hk.symm, Kd.R_base hP.2 k hk.symm⟩) (hst.mono (hst.step hP.1 (fun k hk' hl => hk.2 k hl (fun e => hk'.2 e.symm))) (fun k hk => .inl hk.1))⟩
end
end Go.Proofs.YtmdpgjdepflbmaaGreat
namespace Go.Proofs.YtmdpgjdepflbmaaGreat
open Go.RowKit Go.Maps Go.Proofs.YtmdpgjdepflbmaaGreatW.PrintWords Go.Proofs.YtmdpgjdepflbmaaGreatW.PrintLast Go.Proofs.YtmdpgjdepflbmaaGreatW.PrintMore
open Go.Proofs.YtmdpgjdepflbmaaGreat.PPagerFolds
set_option linter.unusedVariables false
set_option linter.unusedSimpArgs false


/-- beside B a block that is only read -/
def Bx (B : World → (Nat → Prop) → Prop) (b : Nat) (o : Obj) : World → (Nat → Prop) → Prop := fun w P => B w P ∧ P b ∧ w.heap[b]? = some o
theorem Bx.stab {B : World → (Nat → Prop) → Prop} (hst : Stab B) (b : Nat) (o : Obj) : Stab (Bx B b o) :=
  ⟨fun h hm => ⟨hst.step h.1 hm, h.2.1, (hm _ h.2.1 (heap_lt h.2.2)).trans h.2.2⟩, fun h hq => ⟨hst.mono h.1 hq, hq _ h.2.1, h.2.2⟩⟩
section
variable {W w w' : World} {X : PG} {M : DM} {B : World → (Nat → Prop) → Prop} {p d ls lo : Nat} {mo cc : Int} {C : Bytes} {Ds : List Bytes}
theorem Opn.box (h : Opn W B X p d mo C Ds ls cc w) (o : Obj) : Opn W (Bx B w.heap.size o) X p d mo C Ds ls cc (w.alloc o) := by
  obtain ⟨M, hG, hX, hD⟩ := h
  obtain ⟨ok, hS, hok, hV⟩ := hG.ex
  have hb : Below w.heap.size w (w.alloc o) := (Below.refl w.heap.size w).alloc (Nat.le_refl _) o
  have hs := hb.size
  have hsz : (w.alloc o).heap.size = w.heap.size + 1 := by simp
  refine ⟨M, ⟨⟨ok, hS.below hb, fun k hk => by have := hok k hk; exact ⟨this.1, by omega⟩, hG.stab.mono (hG.stab.step hV (fun k hk hl => hb.block k hl)) (fun k hk => ⟨by omega, hk.2⟩), ⟨by omega, fun e => by have := hok _ e; omega⟩, heap_alloc_new w o⟩, hG.below.trans (hb.mono hG.below.size), Bx.stab hG.stab _ _⟩, hX, hD⟩
/-- a page of a row of pages -/
theorem PV.page {P : Nat → Prop} {A : Option Addr} {n c : Nat} {Dn : List Bytes} (h : PV w P (.slice A n c) Dn) {i : Nat} (hi : i < n) :
    ∃ ad Av cv b, A = some ad ∧ Dn[i]? = some b ∧ w.cell? (ad.add i) = some (.slice Av b.length cv) ∧ b.length ≤ cv ∧ U8.C w Av b.length b := by
  have hn : n = Dn.length := (Kd.V_at h).1
  obtain ⟨ad, rfl⟩ : ∃ ad, A = some ad := by
    obtain ⟨A', c', he, _, hf⟩ := h
    injection he with he1 _ _
    subst he1
    obtain ⟨ad, _, e, _⟩ := Kd.F_get hf ([] : Bytes) (i : Int) (by omega) (by omega)
    exact ⟨ad, e⟩
  obtain ⟨bs, hbs⟩ : ∃ bs, Dn[i]? = some bs := ⟨_, List.getElem?_eq_getElem (by omega)⟩
  obtain ⟨cs, _, hFK, hcc⟩ := Kd.V_get h ([] : Bytes) (i : Int) (by omega) (by omega)
  rw [show Dn.getD (i : Int).toNat [] = bs by simp [List.getD_eq_getElem?_getD, hbs]] at hFK
  obtain ⟨Av, cv, rfl, hcv, hFv⟩ := Kd.FK_slice_open hFK
  have hcx : w.cell? (ad.add i) = some (.slice Av bs.length cv) := by
    have := hcc 0 _ rfl
    simpa [Kd.slice] using this
  exact ⟨ad, Av, cv, bs, rfl, hbs, hcx, hcv, Kd.F_now hFv⟩
theorem within_n (a : Int) {n : Nat} (h0 : 0 < n) (h1 : n ≤ 1000) : ∃ k : Nat, k < n ∧ ∀ W : World, Calls Tryz.prog 18 #[.int .i64 a, .int .i64 n] W fun e w' => e = .returned (.int .i64 k) ∧ ∃ m, w' = W.drewN m := by
  have hp := Int.emod_nonneg (IntKind.u64.wrap a) (show (n : Int) ≠ 0 by omega)
  have hl := Int.emod_lt_of_pos (IntKind.u64.wrap a) (show (0 : Int) < n by omega)
  refine ⟨((IntKind.u64.wrap a) % n).toNat, by omega, fun W => (within_any a n (by omega) (by omega) W).mono ?_⟩
  rintro e w' ⟨r', rfl, _, h2, hm⟩
  have : (r' : Int) = ((((IntKind.u64.wrap a) % n).toNat : Nat) : Int) := by rw [h2]; exact (Int.toNat_of_nonneg hp).symm
  rw [this]
  exact ⟨rfl, hm⟩
end

section
variable {W w w' w6 w7 : World} {X : PG} {M : DM} {g b p d ls : Nat} {mo cc : Int} {C : Bytes} {Ds : List Bytes} {vd vn vm vi : Value} {Dd Dw : List Bytes} {Ms : List (List Bytes)} {Id : List Int} {An : Option Addr} {nn cn : Nat} {D N L : Int}
/-- put, its store to the model, and what stands then -/
theorem o_put6 (h : Opn W (Bx (MB W.heap.size g true vd (.slice An nn cn) vm vi Dd Dw Ms Id) b (AB D N L)) X p d mo C Ds ls cc w6) (hl : Dw.length ≤ 1000) (n : Nat) (hn : n < 1000) (hb7 : Below w6.heap.size w6 w7) {A7 : Option Addr} {q7 : Nat} {pg : Bytes} (hv7 : U8.R 5 w7 w6.heap.size (fun k => w6.heap.size ≤ k) (.slice A7 512 q7) pg) (hp : pg.length = 512) :
    Calls Tryz.prog 22 #[.slice An nn cn, .int .i64 n, .slice A7 512 q7] w7 fun e w8 => ∃ A8 n8 q8, e = .returned (.slice A8 n8 q8) ∧ w8.cell? ⟨g, 2, none⟩ = some (.slice An nn cn) ∧ w8.cell? ⟨b, 2, none⟩ = some (.int .i64 L) ∧ w8.frozen? ⟨g, 2, none⟩ = false ∧ w8.cell? ⟨g, 1, none⟩ = some (.bool true) ∧ n8 = (putL Dw n pg).length ∧
      Opn W (MB W.heap.size g true vd (.slice A8 n8 q8) vm vi Dd (putL Dw n pg) Ms Id) X p d mo C Ds ls cc (w8.setCell ⟨g, 2, none⟩ (.slice A8 n8 q8)) := by
  obtain ⟨P, hP, hPl, hT⟩ := h.parts
  have hR : MR W.heap.size g true vd (.slice An nn cn) vm vi Dd Dw Ms Id w6 P := hP.1
  have hgl := heap_lt hR.blk
  have hbl := heap_lt hP.2.2
  have hpv := hR.now
  have hm : Dw.length = nn := (Kd.V_at hpv).1.symm
  obtain ⟨Hs, hms, _, _⟩ := hR.ms
  have hil := fun k hk => Kd.R_lt hR.ids k hk
  have hml := fun k hk => Kd.R_lt hms k hk
  have hV2 : Kd.V U8 5 w7 w7.heap.size (fun k => w6.heap.size ≤ k) (.slice A7 512 q7) pg := Kd.N_V (Kd.R_N hv7)
  refine (lput_any hm (Kd.V_below hpv hb7) hV2 hp (by omega) (by omega)).mono ?_
  rintro e w8 ⟨v, rfl, hv, hb8⟩
  obtain ⟨A8, q8, rfl⟩ := Kd.V_slice hv
  have hb68 : Below w6.heap.size w6 w8 := hb7.trans (hb8.mono hb7.size)
  have bg8 := (hb68.block g hgl).trans hR.blk
  have bb8 := (hb68.block b hbl).trans hP.2.2
  have hs := hb68.size
  have hs7 := hb7.size
  refine ⟨A8, _, q8, rfl, cell_of_row w8 g 2 _ _ (0, 0) bg8, cell_of_row w8 b 2 _ _ (0, 0) bb8, frozen_of_cells bg8 2, cell_of_row w8 g 1 _ _ (0, 0) bg8, rfl, ?_⟩
  have hM8 : MR W.heap.size g true vd (.slice An nn cn) vm vi Dd Dw Ms Id w8 (fun k => P k ∨ (w6.heap.size ≤ k ∧ k < w8.heap.size)) := (hR.step (fun k _ hl => hb68.block k hl)).mono (fun k hk => .inl hk)
  have hn8 : PV w8 (Ar g vi vm (fun k => P k ∨ (w6.heap.size ≤ k ∧ k < w8.heap.size))) (.slice A8 (putL Dw n pg).length q8) (putL Dw n pg) := by
    refine Kd.V_mono (Kd.V_bound hv) (fun k hk => ?_)
    have hnew : w6.heap.size ≤ k → Ar g vi vm (fun k => P k ∨ (w6.heap.size ≤ k ∧ k < w8.heap.size)) k := fun h6 => ⟨.inr ⟨h6, hk.2⟩, by omega, fun e => by have := hil k e; omega, fun e => by have := hml k e; omega⟩
    rcases hk.1 with (h1 | h1) | h1
    · exact ⟨.inl h1.1, h1.2⟩
    · exact hnew h1
    · exact hnew (by omega)
  refine hT _ (fun k => k = g) _ ((Fr.of_below (ok := fun k => k = g) hb68).set_ (p := ⟨g, 2, none⟩) (.inl rfl) _) (MB.stab _ _ _ _ _ _ _ _ _ _ _) (fun k hk => ⟨hk ▸ hR.pg, hk ▸ hR.hlo⟩) ?_
  have := hM8.set true hM8.done hn8 (blkset bg8 2 (.slice A8 (putL Dw n pg).length q8)) (fun k hk _ => keepset _ g 2 _ k hk)
  rw [sizeset]
  exact this
end

theorem mark_own {lo g : Nat} {op : Bool} {vd vn vm vi : Value} {Dd Dw : List Bytes} {Ms : List (List Bytes)} {Id : List Int} {w : World} {P : Nat → Prop} (h : MR lo g op vd vn vm vi Dd Dw Ms Id w P) (k : Nat) (hk : k = g ∨ vi.ownBlock = some k ∨ vm.ownBlock = some k) : P k ∧ lo ≤ k := by
  obtain ⟨Hs, hms, _, _⟩ := h.ms
  rcases hk with rfl | hk | hk
  · exact ⟨h.pg, h.hlo⟩
  · exact ⟨h.ids.1 k hk, Kd.R_base h.ids k hk⟩
  · exact ⟨hms.1 k hk, Kd.R_base hms k hk⟩
section
variable {W w w' : World} {X : PG} {M : DM} {g p d ls : Nat} {mo cc : Int} {C : Bytes} {Ds : List Bytes} {op : Bool} {vd vn vm vi : Value} {Dd Dw : List Bytes} {Ms : List (List Bytes)} {Id : List Int} {Ad An Am Ai : Option Addr} {nd nn nm ni cd cn cm ci : Nat}
set_option maxHeartbeats 4000000 in
set_option maxRecDepth 100000 in
theorem act_read_out (h : Shut W (MB W.heap.size g false vd (.slice An nn cn) vm vi Dd Dw Ms Id) p d mo C ls cc w) (D N L : Int) (hd : 4 = (IntKind.u64.wrap D) % 11) :
    Calls Tryz.prog 34 #[dp g, dp p, .agg #[.int .i64 D, .int .i64 N, .int .i64 L]] w fun e w' => e = .returned (.bool true) ∧ Shut W (MB W.heap.size g false vd (.slice An nn cn) vm vi Dd Dw Ms Id) p d mo C ls cc w' := by
  have hb1 : Below w.heap.size w (w.alloc (AB D N L)) := (Below.refl w.heap.size w).alloc (Nat.le_refl _) (AB D N L)
  have h1 := h.step hb1
  have d0 : (w.alloc (AB D N L)).cell? ⟨w.heap.size, 0, none⟩ = some (.int .i64 D) := ab_cell w D N L 0
  have d1 : (w.alloc (AB D N L)).cell? ⟨w.heap.size, 1, none⟩ = some (.int .i64 N) := ab_cell w D N L 1
  have d2 : (w.alloc (AB D N L)).cell? ⟨w.heap.size, 2, none⟩ = some (.int .i64 L) := ab_cell w D N L 2
  obtain ⟨P, hP, hPl, hT⟩ := h1.parts
  have c1 : (w.alloc (AB D N L)).cell? ⟨g, 1, none⟩ = some (.bool false) := hP.c 1
  have HD := Aside0.mk (fun W : World => within_d hd W)
  have H1 := Aside0.mk h1
  clear h h1 hP hPl hT P hd hb1
  go_enter Tryz.func34, Tryz.ntmps34
  go_wp2_with fail
  refine (within_12 N _).mono ?_
  rintro e w' ⟨r, rfl, HRr, m1, rfl⟩
  go_wp2_with fail
  refine (HD.out _).mono ?_
  rintro e w' ⟨rfl, m2, rfl⟩
  go_wp2_with fail
  have hS := H1.out.drewN (m1 + m2)
  generalize World.drewN _ _ = w3 at hS ⊢
  have hb4 : Below w3.heap.size w3 (w3.alloc (.cells (madeCells #[.int .u8 0] 512) 5)) := (Below.refl _ _).alloc (Nat.le_refl _) _
  have hS4 := hS.step hb4
  obtain ⟨P, hP, hPl, hT⟩ := hS4.parts
  have c2 : (w3.alloc (.cells (madeCells #[.int .u8 0] 512) 5)).cell? ⟨g, 2, none⟩ = some (.slice An nn cn) := hP.c 2
  have hpv := hP.now
  have H3 := Aside0.mk hS
  have H4 := Aside0.mk hS4
  clear hS hS4 hb4 hP hPl hT
  refine (o_read_out H3.out _).mono ?_
  rintro e w' ⟨rfl, rfl⟩
  have hmk := make512
  by_cases hrn : r < nn
  · obtain ⟨ad, Av, cv, b, rfl, -, hcx, -, -⟩ := hpv.page hrn
    clear hpv
    go_wp2_with (go_at_call 15; refine (num12_any _ _).mono ?_; rintro e w' ⟨rfl, rfl⟩)
    refine (bytes_any (w0 := w3.alloc (.cells (madeCells #[.int .u8 0] 512) 5)) (P0 := fun _ => True) (Below.refl _ _) (Kd.R_nil _ _ _ _ _) (by decide)).mono ?_
    rintro e w6 ⟨rfl, hb6, -⟩
    have H6 := Aside0.mk hb6
    clear hb6
    go_wp2_with fail
    go_ret
    exact ⟨rfl, H4.out.step H6.out⟩
  · clear hpv
    go_wp2_with (go_at_call 15; refine (num12_any _ _).mono ?_; rintro e w' ⟨rfl, rfl⟩)
    refine (bytes_any (w0 := w3.alloc (.cells (madeCells #[.int .u8 0] 512) 5)) (P0 := fun _ => True) (Below.refl _ _) (Kd.R_nil _ _ _ _ _) (by decide)).mono ?_
    rintro e w6 ⟨rfl, hb6, -⟩
    have H6 := Aside0.mk hb6
    clear hb6
    go_wp2_with fail
    go_ret
    exact ⟨rfl, H4.out.step H6.out⟩
set_option maxHeartbeats 4000000 in
set_option maxRecDepth 100000 in
theorem act_read_in (h : Opn W (MB W.heap.size g true vd (.slice An nn cn) vm vi Dd Dw Ms Id) X p d mo C Dw ls cc w) (D N L : Int) (hd : 4 = (IntKind.u64.wrap D) % 11) :
    Calls Tryz.prog 34 #[dp g, dp p, .agg #[.int .i64 D, .int .i64 N, .int .i64 L]] w fun e w' => e = .returned (.bool true) ∧ Opn W (MB W.heap.size g true vd (.slice An nn cn) vm vi Dd Dw Ms Id) X p d mo C Dw ls cc w' := by
  have hb1 : Below w.heap.size w (w.alloc (AB D N L)) := (Below.refl w.heap.size w).alloc (Nat.le_refl _) (AB D N L)
  have h1 := h.step hb1
  have d0 : (w.alloc (AB D N L)).cell? ⟨w.heap.size, 0, none⟩ = some (.int .i64 D) := ab_cell w D N L 0
  have d1 : (w.alloc (AB D N L)).cell? ⟨w.heap.size, 1, none⟩ = some (.int .i64 N) := ab_cell w D N L 1
  have d2 : (w.alloc (AB D N L)).cell? ⟨w.heap.size, 2, none⟩ = some (.int .i64 L) := ab_cell w D N L 2
  obtain ⟨P, hP, hPl, hT⟩ := h1.parts
  have c1 : (w.alloc (AB D N L)).cell? ⟨g, 1, none⟩ = some (.bool true) := hP.c 1
  have HD := Aside0.mk (fun W : World => within_d hd W)
  have H1 := Aside0.mk h1
  clear h h1 hP hPl hT P hd hb1
  go_enter Tryz.func34, Tryz.ntmps34
  go_wp2_with fail
  refine (within_12 N _).mono ?_
  rintro e w' ⟨r, rfl, HRr, m1, rfl⟩
  go_wp2_with fail
  refine (HD.out _).mono ?_
  rintro e w' ⟨rfl, m2, rfl⟩
  go_wp2_with fail
  have hO := H1.out.drewN (m1 + m2)
  generalize World.drewN _ _ = w3 at hO ⊢
  have hdl : ((Dw[r]?).getD (List.replicate 512 0)).length = 512 := by
    cases e : Dw[r]? with
    | none => exact List.length_replicate
    | some b => exact hO.ib.see.full b (List.mem_of_getElem? e)
  have H3 := Aside0.mk hO
  refine (o_read hO r (by have := HRr.out; omega)).mono ?_
  rintro e w4 ⟨v4, rfl, hv4, hb4⟩
  obtain ⟨A4, q4, rfl⟩ := Kd.R_slice hv4
  have hb5 : Below w4.heap.size w4 (w4.alloc (.cells (madeCells #[.int .u8 0] 512) 5)) := (Below.refl _ _).alloc (Nat.le_refl _) _
  obtain ⟨W5, hW5⟩ : ∃ W5, W5 = w4.alloc (.cells (madeCells #[.int .u8 0] 512) 5) := ⟨_, rfl⟩
  have hb35 : Below w3.heap.size w3 W5 := by rw [hW5]; exact hb4.trans (hb5.mono hb4.size)
  have hO5 := hO.step hb35
  have hv5 : U8.R 5 W5 w3.heap.size (fun k => w3.heap.size ≤ k) (.slice A4 ((Dw[r]?).getD (List.replicate 512 0)).length q4) ((Dw[r]?).getD (List.replicate 512 0)) := by rw [hW5]; exact Kd.R_below hv4 hb5
  have hmade : U8.C W5 (some ⟨w4.heap.size, 0, none⟩) 512 zeros := by rw [hW5]; exact made512 w4
  obtain ⟨P, hP, hPl, hT⟩ := hO5.parts
  have c2 : W5.cell? ⟨g, 2, none⟩ = some (.slice An nn cn) := hP.c 2
  have hpv := hP.now
  have hmk := make512 w4
  rw [← hW5] at hmk
  rw [hdl] at hv5 ⊢
  obtain ⟨hC4, hc4, _⟩ := C_of_row hv5
  have hn := (Kd.V_at hpv).1
  have HV := Aside0.mk (And.intro hO5 (And.intro hb35 (And.intro hv5 hdl)))
  clear hO hO5 hv4 hb4 hb5 hW5 hb35 hP hPl hT hdl hv5
  by_cases hrn : r < nn
  · obtain ⟨ad, Av, cv, b, rfl, hb, hcx, hcv, hCv⟩ := hpv.page hrn
    have hb512 : b.length = 512 := H3.out.ib.see.full b (List.mem_of_getElem? hb)
    rw [hb512] at hcx hcv hCv
    rw [hb, Option.getD_some] at hC4
    have HE := eqbytes_any hC4 hc4 hCv hcv (by omega)
    rw [decide_eq_true rfl] at HE
    replace HE := Aside0.mk HE
    clear hpv hb hb512 hC4 hc4 hCv hcv hmade hn
    go_wp2_with (go_at_call 15; refine (num12_any _ _).mono ?_; rintro e w' ⟨rfl, rfl⟩)
    refine HE.out.mono ?_
    rintro e w' ⟨rfl, m7, rfl⟩
    go_wp2_with fail
    refine (bytes_any (pw_below_drewN HV.out.2.1 m7) (Kd.R_drewN HV.out.2.2.1 m7) (by rw [HV.out.2.2.2]; omega)).mono ?_
    rintro e w8 ⟨rfl, hb8, -⟩
    have H8 := Aside0.mk hb8
    clear hb8
    go_wp2_with fail
    go_ret
    exact ⟨rfl, H3.out.step H8.out⟩
  · have hz : (Dw[r]?).getD (List.replicate 512 0) = zeros := by rw [List.getElem?_eq_none (by omega)]; rfl
    rw [hz] at hC4
    have HE := eqbytes_any hC4 hc4 hmade (Nat.le_refl 512) (by omega)
    rw [decide_eq_true rfl] at HE
    replace HE := Aside0.mk HE
    clear hpv hC4 hc4 hmade hn hz
    go_wp2_with (go_at_call 15; refine (num12_any _ _).mono ?_; rintro e w' ⟨rfl, rfl⟩)
    refine HE.out.mono ?_
    rintro e w' ⟨rfl, m7, rfl⟩
    go_wp2_with fail
    refine (bytes_any (pw_below_drewN HV.out.2.1 m7) (Kd.R_drewN HV.out.2.2.1 m7) (by rw [HV.out.2.2.2]; omega)).mono ?_
    rintro e w8 ⟨rfl, hb8, -⟩
    have H8 := Aside0.mk hb8
    clear hb8
    go_wp2_with fail
    go_ret
    exact ⟨rfl, H3.out.step H8.out⟩
set_option maxHeartbeats 4000000 in
set_option maxRecDepth 100000 in
theorem act_write_in (h : Opn W (MB W.heap.size g true vd (.slice An nn cn) vm vi Dd Dw Ms Id) X p d mo C Dw ls cc w) (D N L : Int) {q : Int} (hr4 : q = 1 ∨ q = 2 ∨ q = 3 ∨ q = 9) (hl : Dw.length ≤ 1000) (hd : q = (IntKind.u64.wrap D) % 11) :
    Calls Tryz.prog 34 #[dp g, dp p, .agg #[.int .i64 D, .int .i64 N, .int .i64 L]] w fun e w' => e = .returned (.bool true) ∧ ∃ (r : Nat) (A8 : Option Addr) (n8 q8 : Nat), r < 12 ∧ Opn W (MB W.heap.size g true vd (.slice A8 n8 q8) vm vi Dd (putL Dw r (pg12 L)) Ms Id) (X.put r (pg12 L)) p d mo C (putL Dw r (pg12 L)) ls cc w' := by
  have hb1 : Below w.heap.size w (w.alloc (AB D N L)) := (Below.refl w.heap.size w).alloc (Nat.le_refl _) (AB D N L)
  have h1 := h.step hb1
  have d0 : (w.alloc (AB D N L)).cell? ⟨w.heap.size, 0, none⟩ = some (.int .i64 D) := ab_cell w D N L 0
  have d1 : (w.alloc (AB D N L)).cell? ⟨w.heap.size, 1, none⟩ = some (.int .i64 N) := ab_cell w D N L 1
  have d2 : (w.alloc (AB D N L)).cell? ⟨w.heap.size, 2, none⟩ = some (.int .i64 L) := ab_cell w D N L 2
  obtain ⟨P, hP, hPl, hT⟩ := h1.parts
  have c1 : (w.alloc (AB D N L)).cell? ⟨g, 1, none⟩ = some (.bool true) := hP.c 1
  have HD := Aside0.mk (fun W : World => within_d hd W)
  have H1 := Aside0.mk h1
  obtain ⟨k0, k4, k5, k6, k7, k8, k10⟩ := notk hr4
  clear hr4
  have HX := Aside0.mk (h.box (AB D N L))
  have HL := Aside0.mk hl
  clear hl
  clear h h1 hP hPl hT P hd hb1
  go_enter Tryz.func34, Tryz.ntmps34
  go_wp2_with fail
  refine (within_12 N _).mono ?_
  rintro e w' ⟨r, rfl, HRr, m1, rfl⟩
  go_wp2_with fail
  refine (HD.out _).mono ?_
  rintro e w' ⟨rfl, m2, rfl⟩
  go_wp2_with fail
  have hO := HX.out.drewN (m1 + m2)
  generalize World.drewN _ _ = w3 at hO ⊢
  have H3 := Aside0.mk hO
  clear hO
  refine (page12_any L _).mono ?_
  rintro e w4 ⟨v4, rfl, hv4, hb4⟩
  have hl4 : (pg12 L).length = 512 := pg12_length L
  obtain ⟨A4, q4, rfl⟩ := Kd.R_slice (d := U8) hv4
  rw [hl4] at hv4 ⊢
  have H4 := Aside0.mk (And.intro hv4 hb4)
  clear hv4 hb4 hl4
  go_wp2_with fail
  refine (o_writeB (H3.out.beside H4.out.2 H4.out.1) r (by have := HRr.out; omega)).mono ?_
  rintro e w5 ⟨rfl, hO5⟩
  have H5 := Aside0.mk hO5
  clear hO5
  go_wp2_with (go_at_call 15; refine (num12_any _ _).mono ?_; rintro e w' ⟨rfl, rfl⟩)
  refine (bytes_opn H5.out (Bx.stab (MB.stab _ _ _ _ _ _ _ _ _ _ _) _ _) (by rw [pg12_length]; omega)).mono ?_
  rintro e w6 ⟨rfl, hO6⟩
  obtain ⟨P, hP, hPl, hT⟩ := hO6.parts
  have c1 : w6.cell? ⟨g, 1, none⟩ = some (.bool true) := hP.1.c 1
  have c2 : w6.drew.cell? ⟨g, 2, none⟩ = some (.slice An nn cn) := hP.1.c 2
  have e2 : w6.drew.cell? ⟨w.heap.size, 2, none⟩ = some (.int .i64 L) := cell_of_row w6 w.heap.size 2 _ _ (0, 0) hP.2.2
  have H6 := Aside0.mk (And.intro (hO6.step (below_drew (Below.refl _ _))) (And.intro (show g < w6.drew.heap.size from heap_lt hP.1.blk) (show w.heap.size < w6.drew.heap.size from heap_lt hP.2.2)))
  clear hO6 hP hPl hT P d0 d1 d2
  go_wp2_with fail
  refine start_ (n := 13) (S := fun w' => w'.cell? ⟨g, 2, none⟩ = some (.slice An nn cn) ∧ w'.cell? ⟨w.heap.size, 2, none⟩ = some (.int .i64 L)) (ds := [12]) #[false, false, false, false, false, false, false, false, false, false, false, false, false] (by kernel_rfl) rfl rfl ⟨c2, e2⟩ (fun hHeld => ?_)
  refine pure_ (i := 0) (N := some 46) (v := ?_) (a' := ?_) #[true, false, false, false, false, false, false, false, false, false, false, false, false] rfl rfl (by kernel_rfl) (fun _ _ _ h => h) (Or.inl ⟨by rfl, ?_⟩) ?_ ?_
  rotate_left
  · intro w'
    go_simp
    with_reducible rfl
  rotate_left
  · simp only [Act.put, List.setIfInBounds_toArray, List.set_cons_zero, List.set_cons_succ, i64_w, i32_w]
    rfl
  refine pure_ (i := 1) (N := some 47) (v := ?_) (a' := ?_) #[true, true, false, false, false, false, false, false, false, false, false, false, false] rfl rfl (by kernel_rfl) (fun _ _ _ h => h) (Or.inl ⟨by rfl, ?_⟩) ?_ ?_
  rotate_left
  · intro w'
    go_simp
    with_reducible rfl
  rotate_left
  · simp only [Act.put, List.setIfInBounds_toArray, List.set_cons_zero, List.set_cons_succ, i64_w, i32_w]
    rfl
  refine pure_ (i := 2) (N := some 48) (v := ?_) (a' := ?_) #[true, true, true, false, false, false, false, false, false, false, false, false, false] rfl rfl (by kernel_rfl) (fun _ _ _ h => h) (Or.inl ⟨by rfl, ?_⟩) ?_ ?_
  rotate_left
  · intro w'
    go_simp
    with_reducible rfl
  rotate_left
  · simp only [Act.put, List.setIfInBounds_toArray, List.set_cons_zero, List.set_cons_succ, i64_w, i32_w]
    rfl
  refine pure_ (i := 3) (N := some 49) (v := ?_) (a' := ?_) #[true, true, true, true, false, false, false, false, false, false, false, false, false] rfl rfl (by kernel_rfl) (fun _ _ _ h => h) (Or.inl ⟨by rfl, ?_⟩) ?_ ?_
  rotate_left
  · intro w'
    go_simp
    with_reducible rfl
  rotate_left
  · simp only [Act.put, List.setIfInBounds_toArray, List.set_cons_zero, List.set_cons_succ, i64_w, i32_w]
    rfl
  refine take_ (i := 4) (N := some 50) (v := ?_) (a' := ?_) #[true, true, true, true, true, false, false, false, false, false, false, false, false] rfl rfl (by kernel_rfl) (fun _ _ _ h => h) (Or.inl ⟨by rfl, ?_⟩) hHeld ?_ ?_
  rotate_left
  · rintro w' ⟨s0, s1⟩
    go_simp
    with_reducible rfl
  rotate_left
  · simp only [Act.put, List.setIfInBounds_toArray, List.set_cons_zero, List.set_cons_succ, i64_w, i32_w]
    rfl
  refine pure_ (i := 5) (N := some 51) (v := ?_) (a' := ?_) #[true, true, true, true, true, true, false, false, false, false, false, false, false] rfl rfl (by kernel_rfl) (fun _ _ _ h => h) (Or.inl ⟨by rfl, ?_⟩) ?_ ?_
  rotate_left
  · intro w'
    go_simp
    with_reducible rfl
  rotate_left
  · simp only [Act.put, List.setIfInBounds_toArray, List.set_cons_zero, List.set_cons_succ, i64_w, i32_w]
    rfl
  refine pure_ (i := 6) (N := some 52) (v := ?_) (a' := ?_) #[true, true, true, true, true, true, true, false, false, false, false, false, false] rfl rfl (by kernel_rfl) (fun _ _ _ h => h) (Or.inl ⟨by rfl, ?_⟩) ?_ ?_
  rotate_left
  · intro w'
    go_simp
    with_reducible rfl
  rotate_left
  · simp only [Act.put, List.setIfInBounds_toArray, List.set_cons_zero, List.set_cons_succ, i64_w, i32_w]
    rfl
  refine take_ (i := 7) (N := some 53) (v := ?_) (a' := ?_) #[true, true, true, true, true, true, true, true, false, false, false, false, false] rfl rfl (by kernel_rfl) (fun _ _ _ h => h) (Or.inl ⟨by rfl, ?_⟩) hHeld ?_ ?_
  rotate_left
  · rintro w' ⟨s0, s1⟩
    go_simp
    with_reducible rfl
  rotate_left
  · simp only [Act.put, List.setIfInBounds_toArray, List.set_cons_zero, List.set_cons_succ, i64_w, i32_w]
    rfl
  refine one_ (i := 8) (N := some 54) #[true, true, true, true, true, true, true, true, true, false, false, false, false] rfl rfl (by kernel_rfl) (by decide) (fun K hK => ?_)
  refine goes_ Tryz.func21 (by kernel_rfl) rfl #[.int .i64 L] (by rfl) rfl rfl (by simp only [List.map_toArray, List.map_cons, List.map_nil]; rfl) ?_
  refine (page12_any L _).mono ?_
  rintro e w7 ⟨v7, rfl, hv7, hb7⟩
  obtain ⟨A7, q7, rfl⟩ := Kd.R_slice (d := U8) hv7
  have x7 := (hb7.cell (p := ⟨g, 2, none⟩) H6.out.2.1).trans c2
  have y7 := (hb7.cell (p := ⟨w.heap.size, 2, none⟩) H6.out.2.2).trans e2
  rw [pg12_length] at hv7 ⊢
  have hput := o_put6 H6.out.1 HL.out r (by have := HRr.out; omega) hb7 hv7 (pg12_length L)
  have H7 := Aside0.mk hput
  clear hv7 hput hb7
  refine ⟨_, rfl, ?_⟩
  refine hK.out _ _ ⟨x7, y7⟩ (fun hHeld => ?_)
  clear hK K
  refine norm_ (a' := ?_) ?_ ?_
  rotate_left
  · show Act.put _ (some 54) _ = _
    simp only [Act.put, List.setIfInBounds_toArray, List.set_cons_zero, List.set_cons_succ, i64_w, i32_w]
    rfl
  refine one_ (i := 9) (N := some 55) #[true, true, true, true, true, true, true, true, true, true, false, false, false] rfl rfl (by kernel_rfl) (by decide) (fun K hK => ?_)
  refine goes_ Tryz.func22 (by kernel_rfl) rfl #[.slice An nn cn, .int .i64 r, .slice A7 512 q7] (by rfl) rfl rfl (by simp only [List.map_toArray, List.map_cons, List.map_nil]; rfl) ?_
  refine H7.out.mono ?_
  rintro e w8 ⟨A8, n8, q8, rfl, x8, y8, z8, k8, hn8, hO9⟩
  have H9 := Aside0.mk (And.intro hO9 hn8)
  clear hO9 hn8
  refine ⟨_, rfl, ?_⟩
  refine hK.out _ _ ⟨x8, y8⟩ (fun hHeld => ?_)
  clear hK K
  refine norm_ (a' := ?_) ?_ ?_
  rotate_left
  · show Act.put _ (some 55) _ = _
    simp only [Act.put, List.setIfInBounds_toArray, List.set_cons_zero, List.set_cons_succ, i64_w, i32_w]
    rfl
  refine pure_ (i := 10) (N := some 56) (v := ?_) (a' := ?_) #[true, true, true, true, true, true, true, true, true, true, true, false, false] rfl rfl (by kernel_rfl) (fun _ _ _ h => h) (Or.inl ⟨by rfl, ?_⟩) ?_ ?_
  rotate_left
  · intro w'
    go_simp
    with_reducible rfl
  rotate_left
  · simp only [Act.put, List.setIfInBounds_toArray, List.set_cons_zero, List.set_cons_succ, i64_w, i32_w]
    rfl
  refine pure_ (i := 11) (N := some 57) (v := ?_) (a' := ?_) #[true, true, true, true, true, true, true, true, true, true, true, true, false] rfl rfl (by kernel_rfl) (fun _ _ _ h => h) (Or.inl ⟨by rfl, ?_⟩) ?_ ?_
  rotate_left
  · intro w'
    go_simp
    with_reducible rfl
  rotate_left
  · simp only [Act.put, List.setIfInBounds_toArray, List.set_cons_zero, List.set_cons_succ, i64_w, i32_w]
    rfl
  refine last_ (i := 12) (N := none) #[true, true, true, true, true, true, true, true, true, true, true, true, true] rfl rfl (by kernel_rfl) (by decide) (fun K hK => ?_)
  refine skip_ (w1 := ?_) (by rfl) rfl ?_ ?_
  rotate_left
  · go_simp
    rfl
  refine hK.out _ _ ?_
  clear hK K
  refine done_ (by kernel_rfl) ?_
  go_wp2_with fail
  refine (o_count H9.out.1).mono ?_
  rintro e w10 ⟨rfl, rfl⟩
  go_wp2_with fail
  go_ret
  exact ⟨by rw [H9.out.2]; simp, r, A8, n8, q8, HRr.out, H9.out.1⟩
set_option maxHeartbeats 4000000 in
set_option maxRecDepth 100000 in
theorem act_mark_in (h : Opn W (MB W.heap.size g true vd (.slice An nn cn) (.slice Am nm cm) (.slice Ai ni ci) Dd Dw Ms Id) X p d mo C Dw ls cc w) (D N L : Int) (hcc : cc < 1000000) (hml : X.marks.length ≤ 100000) (hi1 : Id.length ≤ 1000) (hm1 : Ms.length ≤ 1000) (hd : 7 = (IntKind.u64.wrap D) % 11) :
    Calls Tryz.prog 34 #[dp g, dp p, .agg #[.int .i64 D, .int .i64 N, .int .i64 L]] w fun e w' => e = .returned (.bool true) ∧ ∃ (Am2 : Option Addr) (nm2 cm2 : Nat) (Ai2 : Option Addr) (ni2 ci2 : Nat), Opn W (MB W.heap.size g true vd (.slice An nn cn) (.slice Am2 nm2 cm2) (.slice Ai2 ni2 ci2) Dd Dw (Ms ++ [Dw]) (Id ++ [X.next + 1])) X.mkd p d mo C Dw ls (cc + 1) w' := by
  have hb1 : Below w.heap.size w (w.alloc (AB D N L)) := (Below.refl w.heap.size w).alloc (Nat.le_refl _) (AB D N L)
  have h1 := h.step hb1
  have d0 : (w.alloc (AB D N L)).cell? ⟨w.heap.size, 0, none⟩ = some (.int .i64 D) := ab_cell w D N L 0
  have d1 : (w.alloc (AB D N L)).cell? ⟨w.heap.size, 1, none⟩ = some (.int .i64 N) := ab_cell w D N L 1
  have d2 : (w.alloc (AB D N L)).cell? ⟨w.heap.size, 2, none⟩ = some (.int .i64 L) := ab_cell w D N L 2
  obtain ⟨P, hP, hPl, hT⟩ := h1.parts
  have c1 : (w.alloc (AB D N L)).cell? ⟨g, 1, none⟩ = some (.bool true) := hP.c 1
  have HD := Aside0.mk (fun W : World => within_d hd W)
  have H1 := Aside0.mk h1
  have HC := Aside0.mk (And.intro hcc (And.intro hml (And.intro hi1 hm1)))
  clear hcc hml hi1 hm1
  clear h h1 hP hPl hT P hd hb1
  go_enter Tryz.func34, Tryz.ntmps34
  go_wp2_with fail
  refine (within_12 N _).mono ?_
  rintro e w' ⟨r, rfl, HRr, m1, rfl⟩
  go_wp2_with fail
  refine (HD.out _).mono ?_
  rintro e w' ⟨rfl, m2, rfl⟩
  go_wp2_with fail
  refine (o_mark (H1.out.drewN _) HC.out.1 HC.out.2.1).mono ?_
  rintro e w3 ⟨rfl, hS⟩
  obtain ⟨P, hP, hPl, hT⟩ := hS.parts
  obtain ⟨Ai2, ni2, ci2, wa, run1, b1, ws, hws, bs1, bs2, Am2, nm2, cm2, wb, run2, b2, hM, hF⟩ := hP.mark hPl hS.below.size (X.next + 1) HC.out.2.2.1 HC.out.2.2.2 (An, nn, cn) rfl
  have c1 : w3.cell? ⟨g, 1, none⟩ = some (.bool true) := hP.c 1
  have c4 : w3.cell? ⟨g, 4, none⟩ = some (.slice Ai ni ci) := hP.c 4
  have ac4 : wa.cell? ⟨g, 4, none⟩ = some (.slice Ai ni ci) := cell_of_row wa g 4 _ _ (0, 0) b1
  have az4 := frozen_of_cells b1 4
  have w3c : ws.drew.cell? ⟨g, 3, none⟩ = some (.slice Am nm cm) := cell_of_row ws g 3 _ _ (0, 0) bs1
  have w2c : ws.drew.cell? ⟨g, 2, none⟩ = some (.slice An nn cn) := cell_of_row ws g 2 _ _ (0, 0) bs1
  have x3 : (ws.drew.alloc (.cells #[.slice An nn cn] 32)).cell? ⟨g, 3, none⟩ = some (.slice Am nm cm) := cell_of_row _ g 3 _ _ (0, 0) bs2
  have x2 : (ws.drew.alloc (.cells #[.slice An nn cn] 32)).cell? ⟨g, 2, none⟩ = some (.slice An nn cn) := cell_of_row _ g 2 _ _ (0, 0) bs2
  have y3 : wb.cell? ⟨g, 3, none⟩ = some (.slice Am nm cm) := cell_of_row wb g 3 _ _ (0, 0) b2
  have y2 : wb.cell? ⟨g, 2, none⟩ = some (.slice An nn cn) := cell_of_row wb g 2 _ _ (0, 0) b2
  have y1 : wb.cell? ⟨g, 1, none⟩ = some (.bool true) := cell_of_row wb g 1 _ _ (0, 0) b2
  have zb3 := frozen_of_cells b2 3
  have hn := (Kd.V_at hP.now).1
  have hO9 := hT _ _ _ hF (MB.stab _ _ _ _ _ _ _ _ _ _ _) (fun k hk => mark_own hP k hk) hM
  have H9 := Aside0.mk (And.intro hO9 hn)
  have HW := Aside0.mk hws
  clear hS hP hPl hT P b1 bs1 bs2 b2 hM hF hn hO9 d0 d1 d2 hws
  go_wp2_with (first
    | (go_at_call 15; refine (num12_any _ _).mono ?_; rintro e w' ⟨rfl, rfl⟩)
    | ((with_reducible refine gate_builtin (b := .append) (xs := #[.tmp 194, .tmp 196]) rfl ?_); at_builtin; refine app_list rfl (.tmp 194) (.tmp 196) 60 rfl _ _ rfl rfl run1 ?_))
  rw [← HW.out]
  refine start_ (n := 14) (S := fun w' => w'.cell? ⟨g, 3, none⟩ = some (.slice Am nm cm) ∧ w'.cell? ⟨g, 2, none⟩ = some (.slice An nn cn)) (ds := [13]) #[false, false, false, false, false, false, false, false, false, false, false, false, false, false] (by kernel_rfl) rfl rfl ⟨w3c, w2c⟩ (fun hHeld => ?_)
  refine pure_ (i := 0) (N := some 200) (v := ?_) (a' := ?_) #[true, false, false, false, false, false, false, false, false, false, false, false, false, false] rfl rfl (by kernel_rfl) (fun _ _ _ h => h) (Or.inl ⟨by rfl, ?_⟩) ?_ ?_
  rotate_left
  · intro w'
    go_simp
    with_reducible rfl
  rotate_left
  · simp only [Act.put, List.setIfInBounds_toArray, List.set_cons_zero, List.set_cons_succ, i64_w, i32_w]
    rfl
  refine pure_ (i := 1) (N := some 201) (v := ?_) (a' := ?_) #[true, true, false, false, false, false, false, false, false, false, false, false, false, false] rfl rfl (by kernel_rfl) (fun _ _ _ h => h) (Or.inl ⟨by rfl, ?_⟩) ?_ ?_
  rotate_left
  · intro w'
    go_simp
    with_reducible rfl
  rotate_left
  · simp only [Act.put, List.setIfInBounds_toArray, List.set_cons_zero, List.set_cons_succ, i64_w, i32_w]
    rfl
  refine pure_ (i := 2) (N := some 202) (v := ?_) (a' := ?_) #[true, true, true, false, false, false, false, false, false, false, false, false, false, false] rfl rfl (by kernel_rfl) (fun _ _ _ h => h) (Or.inl ⟨by rfl, ?_⟩) ?_ ?_
  rotate_left
  · intro w'
    go_simp
    with_reducible rfl
  rotate_left
  · simp only [Act.put, List.setIfInBounds_toArray, List.set_cons_zero, List.set_cons_succ, i64_w, i32_w]
    rfl
  refine pure_ (i := 3) (N := some 203) (v := ?_) (a' := ?_) #[true, true, true, true, false, false, false, false, false, false, false, false, false, false] rfl rfl (by kernel_rfl) (fun _ _ _ h => h) (Or.inl ⟨by rfl, ?_⟩) ?_ ?_
  rotate_left
  · intro w'
    go_simp
    with_reducible rfl
  rotate_left
  · simp only [Act.put, List.setIfInBounds_toArray, List.set_cons_zero, List.set_cons_succ, i64_w, i32_w]
    rfl
  refine take_ (i := 4) (N := some 204) (v := ?_) (a' := ?_) #[true, true, true, true, true, false, false, false, false, false, false, false, false, false] rfl rfl (by kernel_rfl) (fun _ _ _ h => h) (Or.inl ⟨by rfl, ?_⟩) hHeld ?_ ?_
  rotate_left
  · rintro w' ⟨s0, s1⟩
    go_simp
    with_reducible rfl
  rotate_left
  · simp only [Act.put, List.setIfInBounds_toArray, List.set_cons_zero, List.set_cons_succ, i64_w, i32_w]
    rfl
  refine pure_ (i := 5) (N := some 205) (v := ?_) (a' := ?_) #[true, true, true, true, true, true, false, false, false, false, false, false, false, false] rfl rfl (by kernel_rfl) (fun _ _ _ h => h) (Or.inl ⟨by rfl, ?_⟩) ?_ ?_
  rotate_left
  · intro w'
    go_simp
    with_reducible rfl
  rotate_left
  · simp only [Act.put, List.setIfInBounds_toArray, List.set_cons_zero, List.set_cons_succ, i64_w, i32_w]
    rfl
  refine pure_ (i := 6) (N := some 206) (v := ?_) (a' := ?_) #[true, true, true, true, true, true, true, false, false, false, false, false, false, false] rfl rfl (by kernel_rfl) (fun _ _ _ h => h) (Or.inl ⟨by rfl, ?_⟩) ?_ ?_
  rotate_left
  · intro w'
    go_simp
    with_reducible rfl
  rotate_left
  · simp only [Act.put, List.setIfInBounds_toArray, List.set_cons_zero, List.set_cons_succ, i64_w, i32_w]
    rfl
  refine pure_ (i := 7) (N := some 207) (v := ?_) (a' := ?_) #[true, true, true, true, true, true, true, true, false, false, false, false, false, false] rfl rfl (by kernel_rfl) (fun _ _ _ h => h) (Or.inl ⟨by rfl, ?_⟩) ?_ ?_
  rotate_left
  · intro w'
    go_simp
    with_reducible rfl
  rotate_left
  · simp only [Act.put, List.setIfInBounds_toArray, List.set_cons_zero, List.set_cons_succ, i64_w, i32_w]
    rfl
  refine take_ (i := 8) (N := some 208) (v := ?_) (a' := ?_) #[true, true, true, true, true, true, true, true, true, false, false, false, false, false] rfl rfl (by kernel_rfl) (fun _ _ _ h => h) (Or.inl ⟨by rfl, ?_⟩) hHeld ?_ ?_
  rotate_left
  · rintro w' ⟨s0, s1⟩
    go_simp
    with_reducible rfl
  rotate_left
  · simp only [Act.put, List.setIfInBounds_toArray, List.set_cons_zero, List.set_cons_succ, i64_w, i32_w]
    rfl
  refine one_ (i := 9) (N := some 209) #[true, true, true, true, true, true, true, true, true, true, false, false, false, false] rfl rfl (by kernel_rfl) (by decide) (fun K hK => ?_)
  refine value_ (v := .slice (some ⟨ws.heap.size, 0, none⟩) 1 1) (w1 := ws.drew.alloc (.cells #[.slice An nn cn] 32)) (by rfl) rfl ?_ ?_
  · go_simp
  refine hK.out _ _ ⟨x3, x2⟩ (fun hHeld => ?_)
  clear hK K
  refine norm_ (a' := ?_) ?_ ?_
  rotate_left
  · show Act.put _ (some 209) _ = _
    simp only [Act.put, List.setIfInBounds_toArray, List.set_cons_zero, List.set_cons_succ, i64_w, i32_w]
    rfl
  refine one_ (i := 10) (N := some 210) #[true, true, true, true, true, true, true, true, true, true, true, false, false, false] rfl rfl (by kernel_rfl) (by decide) (fun K hK => ?_)
  refine value_ (v := .slice Am2 nm2 cm2) (w1 := wb) (by rfl) rfl ?_ ?_
  · exact app_exec (.tmp 204) (.tmp 209) 71 rfl _ _ rfl rfl run2
  refine hK.out _ _ ⟨y3, y2⟩ (fun hHeld => ?_)
  clear hK K
  refine norm_ (a' := ?_) ?_ ?_
  rotate_left
  · show Act.put _ (some 210) _ = _
    simp only [Act.put, List.setIfInBounds_toArray, List.set_cons_zero, List.set_cons_succ, i64_w, i32_w]
    rfl
  refine pure_ (i := 11) (N := some 211) (v := ?_) (a' := ?_) #[true, true, true, true, true, true, true, true, true, true, true, true, false, false] rfl rfl (by kernel_rfl) (fun _ _ _ h => h) (Or.inl ⟨by rfl, ?_⟩) ?_ ?_
  rotate_left
  · intro w'
    go_simp
    with_reducible rfl
  rotate_left
  · simp only [Act.put, List.setIfInBounds_toArray, List.set_cons_zero, List.set_cons_succ, i64_w, i32_w]
    rfl
  refine pure_ (i := 12) (N := some 212) (v := ?_) (a' := ?_) #[true, true, true, true, true, true, true, true, true, true, true, true, true, false] rfl rfl (by kernel_rfl) (fun _ _ _ h => h) (Or.inl ⟨by rfl, ?_⟩) ?_ ?_
  rotate_left
  · intro w'
    go_simp
    with_reducible rfl
  rotate_left
  · simp only [Act.put, List.setIfInBounds_toArray, List.set_cons_zero, List.set_cons_succ, i64_w, i32_w]
    rfl
  refine last_ (i := 13) (N := none) #[true, true, true, true, true, true, true, true, true, true, true, true, true, true] rfl rfl (by kernel_rfl) (by decide) (fun K hK => ?_)
  refine skip_ (w1 := ?_) (by rfl) rfl ?_ ?_
  rotate_left
  · go_simp
    rfl
  refine hK.out _ _ ?_
  clear hK K
  refine done_ (by kernel_rfl) ?_
  go_wp2_with fail
  refine (o_count H9.out.1).mono ?_
  rintro e w10 ⟨rfl, rfl⟩
  go_wp2_with fail
  go_ret
  exact ⟨by rw [H9.out.2]; simp, Am2, nm2, cm2, Ai2, ni2, ci2, H9.out.1⟩
set_option maxHeartbeats 4000000 in
set_option maxRecDepth 100000 in
theorem act_back_in (h : Opn W (MB W.heap.size g true vd (.slice An nn cn) (.slice Am nm cm) (.slice Ai ni ci) Dd Dw Ms Id) X p d mo C Dw ls cc w) (D N L : Int) (hml : X.marks.length ≤ 100000) (hM : MkR X Ms Id) (h0 : 0 < Id.length) (h1k : Id.length ≤ 1000) (hd : 8 = (IntKind.u64.wrap D) % 11) :
    Calls Tryz.prog 34 #[dp g, dp p, .agg #[.int .i64 D, .int .i64 N, .int .i64 L]] w fun e w' => e = .returned (.bool true) ∧ ∃ (k : Nat) (mk : Mk) (Db : List Bytes) (Ax : Option Addr) (nx cx : Nat), k < Id.length ∧ X.marks[k]? = some mk ∧ Ms[k]? = some Db ∧ Opn W (MB W.heap.size g true vd (.slice Ax nx cx) (.slice Am (k + 1) cm) (.slice Ai (k + 1) ci) Dd Db (Ms.take (k + 1)) (Id.take (k + 1))) (X.bkd mk k) p d mo C Db ls cc w' := by
  have hb1 : Below w.heap.size w (w.alloc (AB D N L)) := (Below.refl w.heap.size w).alloc (Nat.le_refl _) (AB D N L)
  have h1 := h.step hb1
  have d0 : (w.alloc (AB D N L)).cell? ⟨w.heap.size, 0, none⟩ = some (.int .i64 D) := ab_cell w D N L 0
  have d1 : (w.alloc (AB D N L)).cell? ⟨w.heap.size, 1, none⟩ = some (.int .i64 N) := ab_cell w D N L 1
  have d2 : (w.alloc (AB D N L)).cell? ⟨w.heap.size, 2, none⟩ = some (.int .i64 L) := ab_cell w D N L 2
  obtain ⟨P, hP, hPl, hT⟩ := h1.parts
  have c1 : (w.alloc (AB D N L)).cell? ⟨g, 1, none⟩ = some (.bool true) := hP.c 1
  have c4 : (w.alloc (AB D N L)).cell? ⟨g, 4, none⟩ = some ((.slice Ai ni ci)) := hP.c 4
  have HD := Aside0.mk (fun W : World => within_d hd W)
  have H1 := Aside0.mk h1
  have hni : ni = Id.length := (C_of_rowk hP.ids).2.2.symm
  have hni0 : 0 < ni := by omega
  have z0 : ((ni : Int) == 0) = false := by simp; omega
  have z1 : (ni == 0) = false := by simp; omega
  have HNi := Aside0.mk hni
  have HC := Aside0.mk (And.intro hml (And.intro hM (And.intro h0 h1k)))
  clear hml hM h0 h1k hni
  clear h h1 hP hPl hT P hd hb1
  go_enter Tryz.func34, Tryz.ntmps34
  go_wp2_with fail
  refine (within_12 N _).mono ?_
  rintro e w' ⟨r, rfl, HRr, m1, rfl⟩
  go_wp2_with fail
  refine (HD.out _).mono ?_
  rintro e w' ⟨rfl, m2, rfl⟩
  go_wp2_with fail
  have hO := H1.out.drewN (m1 + m2)
  have e1 : ((w.alloc (AB D N L)).drewN (m1 + m2)).cell? ⟨w.heap.size, 1, none⟩ = some (.int .i64 N) := d1
  generalize World.drewN _ _ = w3 at hO e1 ⊢
  obtain ⟨P, hP, hPl, hT⟩ := hO.parts
  have hni : ni = Id.length := HNi.out
  have c1 : w3.cell? ⟨g, 1, none⟩ = some (.bool true) := hP.c 1
  have c4 : w3.cell? ⟨g, 4, none⟩ = some (.slice Ai ni ci) := hP.c 4
  obtain ⟨k, hk, hwk⟩ := within_n N (n := ni) (by have := HC.out.2.2.1; omega) (by have := HC.out.2.2.2; omega)
  obtain ⟨mk, hmk⟩ : ∃ mk, X.marks[k]? = some mk := ⟨_, List.getElem?_eq_getElem (by have := HC.out.2.1.li; omega)⟩
  obtain ⟨am, ai, Ax0, nx0, cx0, D0, ea0, ei0, hD0, n10, n20, n30, q10, q20, -, -, -, -⟩ := hP.backs (by rw [HC.out.2.1.lm]) k (by omega)
  subst ea0 ei0
  obtain ⟨idk, hidk⟩ : ∃ idk, idk = rd Id (k : Int) := ⟨_, rfl⟩
  rw [← hidk] at q20
  have hrd : mk.n = idk := by
    have := (HC.out.2.1.at_ k mk hmk).1
    rw [hidk]; simp [rd, List.getD_eq_getElem?_getD, this]
  have HB := Aside0.mk (fun m => o_back (hO.drewN m) HC.out.1 hmk hrd (fun j hj x hx e => by have := HC.out.2.1.rise j k x mk hj hx hmk; omega) (HC.out.2.1.see k mk D0 hmk hD0))
  have HK := Aside0.mk (And.intro hk (And.intro hmk (And.intro hD0 (And.intro hni hidk))))
  have HWi := Aside0.mk hwk
  clear hO hP hPl hT P hni hwk hk hmk hD0 hidk hrd q10 n10 n20 n30 d0 d1 d2
  go_quiet ((go_at_call 18; exact Calls.quiet_of (HWi.out _)))
  have hk := HK.out.1
  have hk0 : k ≤ 1000 := by have := HC.out.2.2.2; have := HK.out.2.2.2.1; omega
  go_wp2_with fail
  refine (HB.out _).mono ?_
  rintro e w4 ⟨rfl, hS⟩
  obtain ⟨P, hP, hPl, hT⟩ := hS.parts
  obtain ⟨am', ai', Ax, nx, cx, D, ea, ei, hD, n1, n2, n3, q1, q2, r1, r2, hM, hF⟩ := hP.backs HC.out.2.1.lm k (by have := HK.out.2.2.2.1; omega)
  obtain rfl := Option.some.inj ea
  obtain rfl := Option.some.inj ei
  obtain rfl := Option.some.inj (HK.out.2.2.1.symm.trans hD)
  have hkm : k < nm := by have := HK.out.2.2.2.1; omega
  have c1 : w4.cell? ⟨g, 1, none⟩ = some (.bool true) := hP.c 1
  have c2 : w4.cell? ⟨g, 2, none⟩ = some (.slice An nn cn) := hP.c 2
  have c3 : w4.cell? ⟨g, 3, none⟩ = some (.slice (some am) nm cm) := hP.c 3
  have c4 : w4.cell? ⟨g, 4, none⟩ = some (.slice (some ai) ni ci) := hP.c 4
  have z2 := frozen_of_cells hP.blk 2
  have z3 := frozen_of_cells hP.blk 3
  have z4 := frozen_of_cells hP.blk 4
  have hO9 := hT _ _ _ hF (MB.stab _ _ _ _ _ _ _ _ _ _ _) (fun k hk => ⟨hk ▸ hP.pg, hk ▸ hP.hlo⟩) (hM.mono (fun k hk => .inl hk))
  have H9 := Aside0.mk (And.intro hO9 n3)
  have HQ := Aside0.mk (And.intro n1 n2)
  clear hS hP hPl hT P ea ei hD n1 n2 n3 q2 hM hF hO9 q20
  go_wp2_with (go_at_call 15; refine (num12_any _ _).mono ?_; rintro e w' ⟨rfl, rfl⟩)
  refine (o_count H9.out.1).mono ?_
  rintro e w10 ⟨rfl, rfl⟩
  go_wp2_with fail
  go_ret
  exact ⟨by rw [H9.out.2]; simp, k, mk, D0, Ax, nx, cx, by rw [← HK.out.2.2.2.1]; exact hk, HK.out.2.1, HK.out.2.2.1, H9.out.1⟩
end
end Go.Proofs.YtmdpgjdepflbmaaGreat
namespace Go.Proofs.YtmdpgjdepflbmaaGreat
open Go.RowKit Go.Maps Go.Proofs.YtmdpgjdepflbmaaGreatW.PrintWords Go.Proofs.YtmdpgjdepflbmaaGreatW.PrintLast Go.Proofs.YtmdpgjdepflbmaaGreatW.PrintMore
open Go.Proofs.YtmdpgjdepflbmaaGreat.PPagerFolds
set_option linter.unusedVariables false
set_option linter.unusedSimpArgs false

/-- between two transactions -/
structure MShut (W : World) (g p d : Nat) (mo : Int) (i : Nat) (Ad : Option Addr) (nd cd : Nat) (Dd : List Bytes) (C : Bytes) (w : World) : Prop where
  ex : ∃ An nn cn Am nm cm Ai ni ci Dw Ms Id, Shut W (MB W.heap.size g false (.slice Ad nd cd) (.slice An nn cn) (.slice Am nm cm) (.slice Ai ni ci) Dd Dw Ms Id) p d mo C (7000 * i) (6000 * i + 5000) w
  h : Holds C Dd
  d12 : Dd.length ≤ 12
/-- in a transaction -/
structure MOpn (W : World) (g p d : Nat) (mo : Int) (i : Nat) (Ad : Option Addr) (nd cd : Nat) (Dd : List Bytes) (C : Bytes) (w : World) : Prop where
  ex : ∃ An nn cn Am nm cm Ai ni ci Dw Ms Id X, Opn W (MB W.heap.size g true (.slice Ad nd cd) (.slice An nn cn) (.slice Am nm cm) (.slice Ai ni ci) Dd Dw Ms Id) X p d mo C Dw (7000 * i) (6000 * i + 5000) w ∧ Dw.length ≤ 12 ∧ MkR X Ms Id ∧ Id.length ≤ i
  h : Holds C Dd
  d12 : Dd.length ≤ 12
def MO (W : World) (g p d : Nat) (mo : Int) (i : Nat) (w : World) : Prop := (∃ Ad nd cd Dd C, MShut W g p d mo i Ad nd cd Dd C w) ∨ ∃ Ad nd cd Dd C, MOpn W g p d mo i Ad nd cd Dd C w
theorem putL12 {Dw : List Bytes} {r : Nat} {b : Bytes} (h : Dw.length ≤ 12) (hr : r < 12) : (putL Dw r b).length ≤ 12 := by rw [putL_length]; omega
theorem act_shut {W w : World} {g p d : Nat} {mo : Int} {i : Nat} {Ad : Option Addr} {nd cd : Nat} {Dd : List Bytes} {C : Bytes} (h : MShut W g p d mo i Ad nd cd Dd C w) (hi : i ≤ 60) (D N L : Int) :
    Calls Tryz.prog 34 #[dp g, dp p, .agg #[.int .i64 D, .int .i64 N, .int .i64 L]] w fun e w' => e = .returned (.bool true) ∧ MO W g p d mo (i + 1) w' := by
  obtain ⟨⟨An, nn, cn, Am, nm, cm, Ai, ni, ci, Dw, Ms, Id, hS⟩, hH, h12⟩ := h
  have hp := Int.emod_nonneg (IntKind.u64.wrap D) (show (11 : Int) ≠ 0 by omega)
  have hl := Int.emod_lt_of_pos (IntKind.u64.wrap D) (show (0 : Int) < 11 by omega)
  obtain ⟨q, hq⟩ : ∃ q, q = (IntKind.u64.wrap D) % 11 := ⟨_, rfl⟩
  rw [← hq] at hp hl
  have hc : q = 0 ∨ q = 4 ∨ q = 5 ∨ q = 6 ∨ q = 7 ∨ q = 8 ∨ q = 10 ∨ (q = 1 ∨ q = 2 ∨ q = 3 ∨ q = 9) := by omega
  have back : ∀ {w' : World}, Shut W (MB W.heap.size g false (.slice Ad nd cd) (.slice An nn cn) (.slice Am nm cm) (.slice Ai ni ci) Dd Dw Ms Id) p d mo C (7000 * i) (6000 * i + 5000) w' → MO W g p d mo (i + 1) w' := fun hS' => .inl ⟨_, _, _, _, _, ⟨_, _, _, _, _, _, _, _, _, _, _, _, hS'.more (by omega) (by push_cast; omega)⟩, hH, h12⟩
  rcases hc with rfl | rfl | rfl | rfl | rfl | rfl | rfl | hr
  · refine (act_begin_out hS D N L hH (by omega) (by omega) hq).mono ?_
    rintro e w' ⟨rfl, X, hO, hm⟩
    exact ⟨rfl, .inr ⟨_, _, _, _, _, ⟨_, _, _, _, _, _, _, _, _, _, _, _, X, hO.more (by omega) (by push_cast; omega), h12, MkR.nil hm, by simp⟩, hH, h12⟩⟩
  · exact (act_read_out hS D N L hq).mono fun e w' ⟨h1, h2⟩ => ⟨h1, back h2⟩
  · exact (act_commit_out hS D N L hq).mono fun e w' ⟨h1, h2⟩ => ⟨h1, back h2⟩
  · exact (act_roll_out hS D N L hq).mono fun e w' ⟨h1, h2⟩ => ⟨h1, back h2⟩
  · exact (act_mark_out hS D N L hq).mono fun e w' ⟨h1, h2⟩ => ⟨h1, back h2⟩
  · exact (act_back_out hS D N L hq).mono fun e w' ⟨h1, h2⟩ => ⟨h1, back h2⟩
  · exact (act_fold_out hS D N L (by omega) (by omega) hq).mono fun e w' ⟨h1, h2⟩ => ⟨h1, .inl ⟨_, _, _, _, _, ⟨_, _, _, _, _, _, _, _, _, _, _, _, h2.more (by omega) (by push_cast; omega)⟩, hH, h12⟩⟩
  · exact (act_write_out hS D N L hr hq).mono fun e w' ⟨h1, h2⟩ => ⟨h1, back h2⟩
theorem act_opn {W w : World} {g p d : Nat} {mo : Int} {i : Nat} {Ad : Option Addr} {nd cd : Nat} {Dd : List Bytes} {C : Bytes} (h : MOpn W g p d mo i Ad nd cd Dd C w) (hi : i ≤ 60) (D N L : Int) :
    Calls Tryz.prog 34 #[dp g, dp p, .agg #[.int .i64 D, .int .i64 N, .int .i64 L]] w fun e w' => e = .returned (.bool true) ∧ MO W g p d mo (i + 1) w' := by
  obtain ⟨⟨An, nn, cn, Am, nm, cm, Ai, ni, ci, Dw, Ms, Id, X, hO, hw12, hM, hI⟩, hH, h12⟩ := h
  have hp := Int.emod_nonneg (IntKind.u64.wrap D) (show (11 : Int) ≠ 0 by omega)
  have hl := Int.emod_lt_of_pos (IntKind.u64.wrap D) (show (0 : Int) < 11 by omega)
  obtain ⟨q, hq⟩ : ∃ q, q = (IntKind.u64.wrap D) % 11 := ⟨_, rfl⟩
  rw [← hq] at hp hl
  have hli := hM.li
  have hlm := hM.lm
  have hc : q = 0 ∨ q = 4 ∨ q = 5 ∨ q = 6 ∨ q = 7 ∨ q = 8 ∨ q = 10 ∨ (q = 1 ∨ q = 2 ∨ q = 3 ∨ q = 9) := by omega
  have back : ∀ {w' : World}, Opn W (MB W.heap.size g true (.slice Ad nd cd) (.slice An nn cn) (.slice Am nm cm) (.slice Ai ni ci) Dd Dw Ms Id) X p d mo C Dw (7000 * i) (6000 * i + 5000) w' → MO W g p d mo (i + 1) w' := fun hO' => .inr ⟨_, _, _, _, _, ⟨_, _, _, _, _, _, _, _, _, _, _, _, X, hO'.more (by omega) (by push_cast; omega), hw12, hM, by omega⟩, hH, h12⟩
  rcases hc with rfl | rfl | rfl | rfl | rfl | rfl | rfl | hr
  · exact (act_begin_in hO D N L hq).mono fun e w' ⟨h1, h2⟩ => ⟨h1, back h2⟩
  · exact (act_read_in hO D N L hq).mono fun e w' ⟨h1, h2⟩ => ⟨h1, back h2⟩
  · refine (act_commit_in hO D N L (by omega) (by omega) hq).mono ?_
    rintro e w' ⟨rfl, C', hS, hH'⟩
    exact ⟨rfl, .inl ⟨_, _, _, _, _, ⟨_, _, _, _, _, _, _, _, _, _, _, _, hS.more (by omega) (by push_cast; omega)⟩, hH', hw12⟩⟩
  · exact (act_roll_in hO D N L hq).mono fun e w' ⟨h1, h2⟩ => ⟨h1, .inl ⟨_, _, _, _, _, ⟨_, _, _, _, _, _, _, _, _, _, _, _, h2.more (by omega) (by push_cast; omega)⟩, hH, h12⟩⟩
  · refine (act_mark_in hO D N L (by omega) (by omega) (by omega) (by omega) hq).mono ?_
    rintro e w' ⟨rfl, Am2, nm2, cm2, Ai2, ni2, ci2, hO'⟩
    exact ⟨rfl, .inr ⟨_, _, _, _, _, ⟨_, _, _, _, _, _, _, _, _, _, _, _, _, hO'.more (by omega) (by push_cast; omega), hw12, hM.mkd hO.ib.see hw12, by simp; omega⟩, hH, h12⟩⟩
  · rcases Nat.eq_zero_or_pos Id.length with h0 | h0
    · have hni : ni = Id.length := by
        obtain ⟨P, hP, _, _⟩ := hO.parts
        exact (C_of_rowk hP.ids).2.2.symm
      obtain rfl : ni = 0 := by omega
      exact (act_back_none hO D N L hq).mono fun e w' ⟨h1, h2⟩ => ⟨h1, back h2⟩
    · refine (act_back_in hO D N L (by omega) hM h0 (by omega) hq).mono ?_
      rintro e w' ⟨rfl, k, mk, Db, Ax, nx, cx, hk, hmk, hDb, hO'⟩
      exact ⟨rfl, .inr ⟨_, _, _, _, _, ⟨_, _, _, _, _, _, _, _, _, _, _, _, _, hO'.more (by omega) (by push_cast; omega), hM.d12 _ (List.mem_of_getElem? hDb), hM.bkd hmk, by simp; omega⟩, hH, h12⟩⟩
  · exact (act_fold_in hO D N L hq).mono fun e w' ⟨h1, h2⟩ => ⟨h1, back h2⟩
  · refine (act_write_in hO D N L hr (by omega) hq).mono ?_
    rintro e w' ⟨rfl, r, A8, n8, q8, hr12, hO'⟩
    exact ⟨rfl, .inr ⟨_, _, _, _, _, ⟨_, _, _, _, _, _, _, _, _, _, _, _, _, hO'.more (by omega) (by push_cast; omega), putL12 hw12 hr12, hM.put _ _, by omega⟩, hH, h12⟩⟩
theorem mact_any {W w : World} {g p d : Nat} {mo : Int} {i : Nat} (h : MO W g p d mo i w) (hi : i ≤ 60) (D N L : Int) :
    Calls Tryz.prog 34 #[dp g, dp p, .agg #[.int .i64 D, .int .i64 N, .int .i64 L]] w fun e w' => e = .returned (.bool true) ∧ MO W g p d mo (i + 1) w' := by
  rcases h with ⟨Ad, nd, cd, Dd, C, h⟩ | ⟨Ad, nd, cd, Dd, C, h⟩
  · exact act_shut h hi D N L
  · exact act_opn h hi D N L
section
variable {W w w' : World} {g p d : Nat} {mo : Int} {i : Nat} {Ad : Option Addr} {nd cd : Nat} {Dd : List Bytes} {C : Bytes}
theorem MShut.below (h : MShut W g p d mo i Ad nd cd Dd C w) : Below W.heap.size W w := by
  obtain ⟨_, _, _, _, _, _, _, _, _, _, _, _, hS⟩ := h.ex
  exact hS.below
theorem MOpn.below (h : MOpn W g p d mo i Ad nd cd Dd C w) : Below W.heap.size W w := by
  obtain ⟨_, _, _, _, _, _, _, _, _, _, _, _, _, hS, _⟩ := h.ex
  exact hS.below
theorem MO.below (h : MO W g p d mo i w) : Below W.heap.size W w := by
  rcases h with ⟨_, _, _, _, _, h⟩ | ⟨_, _, _, _, _, h⟩
  · exact h.below
  · exact h.below
theorem MShut.step (h : MShut W g p d mo i Ad nd cd Dd C w) (hb : Below w.heap.size w w') : MShut W g p d mo i Ad nd cd Dd C w' := by
  obtain ⟨⟨An, nn, cn, Am, nm, cm, Ai, ni, ci, Dw, Ms, Id, hS⟩, hH, h12⟩ := h
  exact ⟨⟨An, nn, cn, Am, nm, cm, Ai, ni, ci, Dw, Ms, Id, hS.step hb⟩, hH, h12⟩
theorem MOpn.step (h : MOpn W g p d mo i Ad nd cd Dd C w) (hb : Below w.heap.size w w') : MOpn W g p d mo i Ad nd cd Dd C w' := by
  obtain ⟨⟨An, nn, cn, Am, nm, cm, Ai, ni, ci, Dw, Ms, Id, X, hS, h1, h2, h3⟩, hH, h12⟩ := h
  exact ⟨⟨An, nn, cn, Am, nm, cm, Ai, ni, ci, Dw, Ms, Id, X, hS.step hb, h1, h2, h3⟩, hH, h12⟩
theorem MO.step (h : MO W g p d mo i w) (hb : Below w.heap.size w w') : MO W g p d mo i w' := by
  rcases h with ⟨_, _, _, _, _, h⟩ | ⟨_, _, _, _, _, h⟩
  · exact .inl ⟨_, _, _, _, _, h.step hb⟩
  · exact .inr ⟨_, _, _, _, _, h.step hb⟩
theorem MO.drewN (h : MO W g p d mo i w) (n : Nat) : MO W g p d mo i (w.drewN n) := h.step (pw_below_drewN (Below.refl _ _) n)
theorem MShut.open_ (h : MShut W g p d mo i Ad nd cd Dd C w) : w.cell? ⟨g, 1, none⟩ = some (.bool false) := by
  obtain ⟨_, _, _, _, _, _, _, _, _, _, _, _, hS⟩ := h.ex
  obtain ⟨P, hP, _, _⟩ := hS.parts
  exact hP.c 1
theorem MOpn.open_ (h : MOpn W g p d mo i Ad nd cd Dd C w) : w.cell? ⟨g, 1, none⟩ = some (.bool true) := by
  obtain ⟨_, _, _, _, _, _, _, _, _, _, _, _, _, hS, _⟩ := h.ex
  obtain ⟨P, hP, _, _⟩ := hS.parts
  exact hP.c 1
end
/-- the law's model, new beside a pager -/
theorem MShut.start {W w : World} {p d : Nat} {mo : Int} (h : Shut W (fun _ _ => True) p d mo [] 0 5000 w) : MShut W w.heap.size p d mo 0 none 0 0 [] [] (w.alloc (.cells #[.slice none 0 0, .bool false, .slice none 0 0, .slice none 0 0, .slice none 0 0] 73)) := by
  obtain ⟨X, M, hG, hX, hD⟩ := h
  obtain ⟨ok, hS, hok, -⟩ := hG.ex
  have hW := hG.below.size
  have hb : Below w.heap.size w (w.alloc (.cells #[.slice none 0 0, .bool false, .slice none 0 0, .slice none 0 0, .slice none 0 0] 73)) := (Below.refl _ _).alloc (Nat.le_refl _) _
  have hs := hb.size
  have hsz : (w.alloc (.cells #[.slice none 0 0, .bool false, .slice none 0 0, .slice none 0 0, .slice none 0 0] 73)).heap.size = w.heap.size + 1 := by simp
  refine ⟨⟨none, 0, 0, none, 0, 0, none, 0, 0, [], [], [], X, M, ⟨⟨ok, hS.below hb, fun k hk => by have := hok k hk; exact ⟨this.1, by omega⟩, ?_⟩, hG.below.trans (hb.mono hW), MB.stab _ _ _ _ _ _ _ _ _ _ _⟩, hX, hD.more (Nat.le_refl _) (by omega)⟩, Holds.nil, by simp⟩
  exact ⟨heap_alloc_new w _, ⟨by omega, fun e => by have := hok _ e; omega⟩, hW, ⟨fun k hk => by simp [Value.ownBlock] at hk, [], own_nil _ _ _ _, Reps.none _ _⟩, ⟨[], ⟨fun k hk => by simp [Value.ownBlock] at hk, [], own_nil _ _ _ _, Reps.none _ _⟩, rfl, fun i x D hx => by simp at hx⟩, Kd.V_nil _ _ _ _ _, Kd.V_nil _ _ _ _ _, by simp [Value.ownBlock], by simp [Value.ownBlock], fun k hk => by simp [Value.ownBlock] at hk⟩
end Go.Proofs.YtmdpgjdepflbmaaGreat

/-
  What a pager is in memory: a struct, a map of pages that were written, the committed bytes, marks; and how it goes on.
-/
import Derived.Test.YtmdpgjdepflbmaaGreatCPPagesModelx5
import Derived.Test.YtmdpgjdepflbmaaGreatCPPagesModelx6
import Derived.Test.YtmdpgjdepflbmaaGreatCPPagesModelx7
import Derived.Test.YtmdpgjdepflbmaaGreatCPPagesModelx8
import Derived.Test.YtmdpgjdepflbmaaGreatCPPagerFoldsx1
import Derived.Test.YtmdpgjdepflbmaaGreatCPPagerFoldsx4
import Derived.Test.YtmdpgjdepflbmaaGreatCPPagerFoldsx5
import Derived.Test.YtmdpgjdepflbmaaGreatCPPagerFoldsx6
import Derived.Test.YtmdpgjdepflbmaaGreatCA
import Derived.Test.YtmdpgjdepflbmaaGreatCLock
import Derived.OwnWalk
import Derived.StillTailTactics
import Derived.Deep.RegionHeld3
import Derived.Maps.RangeWalk
namespace Go.Proofs.YtmdpgjdepflbmaaGreat
open Go.RowKit Go.Maps Go.Proofs.YtmdpgjdepflbmaaGreatW.PrintWords Go.Proofs.YtmdpgjdepflbmaaGreatW.PrintLast Go.Proofs.YtmdpgjdepflbmaaGreatW.PrintMore
open Go.Proofs.YtmdpgjdepflbmaaGreat.PPagerFolds
set_option linter.unusedVariables false
set_option linter.unusedSimpArgs false

abbrev Own := Int → Option Bytes
/-- a mark: its number, the pages written then, how many there were -/
structure Mk where
  n : Int
  own : Own
  count : Int
/-- a pager -/
structure PG where
  p : Nat
  d : Nat
  l : Nat
  mode : Int
  c : Nat
  dead : Bool
  inn : Bool
  wrote : Bool
  was : Bytes
  own : Own
  count : Int
  marks : List Mk
  next : Int
  sure : Int

abbrev dp (k : Nat) : Value := .pointer (some ⟨k, 0, none⟩)

/-- block b holds written pages -/
def OwnAt (w : World) (ok : Nat → Prop) (b : Nat) (own : Own) : Prop :=
  ok b ∧ ∃ f sz, SMap Tryz.prog 3 w b f sz ∧ (∀ x, f x = none → own x = none) ∧ ∀ x v, f x = some v → 0 ≤ x ∧ x < 4096 ∧ ∃ bs, own x = some bs ∧ bs.length = 512 ∧ RB w ok v bs

def mkCells : List Mk → List Nat → List Value
  | m :: ms, b :: bs => .int .i64 m.n :: .map (some b) :: .int .i64 m.count :: mkCells ms bs
  | _, _ => []
/-- a slice of marks, whose maps are apart from block bo -/
def MkAt (w : World) (ok : Nat → Prop) (bo : Nat) (v : Value) (ms : List Mk) : Prop :=
  (∀ k, v.ownBlock = some k → ok k) ∧ ∃ bs : List Nat, bs.length = ms.length ∧ w.ownsRow 0 123 3 v ms.length (mkCells ms bs) ∧ ∀ (i : Nat) (b : Nat) (m : Mk), bs[i]? = some b → ms[i]? = some m → OwnAt w ok b m.own ∧ b ≠ bo

structure PRep (w : World) (X : PG) (ok : Nat → Prop) (bo : Nat) (vw vm : Value) : Prop where
  hp : w.heap[X.p]? = some (.cells #[dp X.d, .int .i64 X.mode, dp X.l, .int .i64 X.c, .bool X.dead, .bool X.inn, .bool X.wrote, vw, .map (if X.inn then some bo else none), .int .i64 X.count, vm, .int .i64 X.next, .int .i64 X.sure] 113 (0, 0))
  okp : ok X.p
  was : RB w ok vw X.was
  own : X.inn = true → OwnAt w ok bo X.own
  marks : MkAt w ok bo vm X.marks

def PgAt (w : World) (X : PG) (ok : Nat → Prop) : Prop := ∃ bo vw vm, PRep w X ok bo vw vm

theorem own_at_heap {w w' : World} {base n size : Nat} {e : TypeId} {v : Value} {xs : List Value} (h : w.ownsRow base e size v n xs) (hm : ∀ k, v.ownBlock = some k → w'.heap[k]? = w.heap[k]?) : w'.ownsRow base e size v n xs := by
  obtain ⟨h1, h2⟩ := h
  refine ⟨h1, ?_⟩
  rcases h2 with h2 | ⟨g, cap, cur, rfl, hbg, hg, r⟩
  · exact .inl h2
  · exact .inr ⟨g, cap, cur, rfl, hbg, (hm g (by simp [Value.ownBlock])).trans hg, r⟩
section
variable {w w' : World} {ok ok' : Nat → Prop} {b bo : Nat} {own : Own} {v vw vm : Value} {ms : List Mk} {X : PG}
theorem OwnAt.lt (h : OwnAt w ok b own) : b < w.heap.size := by
  obtain ⟨_, f, sz, hm, _⟩ := h
  exact hm.lt
theorem OwnAt.move (h : OwnAt w ok b own) (hm : ∀ k, ok k → k < w.heap.size → w'.heap[k]? = w.heap[k]?) : OwnAt w' ok b own := by
  have hl := h.lt
  obtain ⟨ho, f, sz, h1, h2, h3⟩ := h
  refine ⟨ho, f, sz, h1.move (hm b ho hl), h2, fun x v hx => ?_⟩
  obtain ⟨a, b, bs, c, d, e⟩ := h3 x v hx
  exact ⟨a, b, bs, c, d, e.step hm⟩
theorem OwnAt.mono (h : OwnAt w ok b own) (hk : ∀ k, ok k → ok' k) : OwnAt w ok' b own := by
  obtain ⟨ho, f, sz, h1, h2, h3⟩ := h
  refine ⟨hk _ ho, f, sz, h1, h2, fun x v hx => ?_⟩
  obtain ⟨a, b, bs, c, d, e⟩ := h3 x v hx
  exact ⟨a, b, bs, c, d, e.mono hk⟩
theorem MkAt.move (h : MkAt w ok bo v ms) (hm : ∀ k, ok k → k < w.heap.size → w'.heap[k]? = w.heap[k]?) : MkAt w' ok bo v ms := by
  obtain ⟨h1, bs, h2, h3, h4⟩ := h
  refine ⟨h1, bs, h2, ?_, fun i b m hb hmm => ⟨(h4 i b m hb hmm).1.move hm, (h4 i b m hb hmm).2⟩⟩
  exact own_at_heap h3 (fun k hk => hm k (h1 k hk) (own_lt h3 k hk))
theorem MkAt.mono (h : MkAt w ok bo v ms) (hk : ∀ k, ok k → ok' k) : MkAt w ok' bo v ms := by
  obtain ⟨h1, bs, h2, h3, h4⟩ := h
  exact ⟨fun k hh => hk k (h1 k hh), bs, h2, h3, fun i b m hb hmm => ⟨(h4 i b m hb hmm).1.mono hk, (h4 i b m hb hmm).2⟩⟩
theorem PRep.lt (h : PRep w X ok bo vw vm) : X.p < w.heap.size := heap_lt h.hp
theorem PRep.move (h : PRep w X ok bo vw vm) (hm : ∀ k, ok k → k < w.heap.size → w'.heap[k]? = w.heap[k]?) : PRep w' X ok bo vw vm :=
  ⟨(hm _ h.okp h.lt).trans h.hp, h.okp, h.was.step hm, fun hi => (h.own hi).move hm, h.marks.move hm⟩
theorem PRep.mono (h : PRep w X ok bo vw vm) (hk : ∀ k, ok k → ok' k) : PRep w X ok' bo vw vm :=
  ⟨h.hp, hk _ h.okp, h.was.mono hk, fun hi => (h.own hi).mono hk, h.marks.mono hk⟩
theorem PRep.cell (h : PRep w X ok bo vw vm) (i : Nat) : w.cell? ⟨X.p, i, none⟩ = (#[dp X.d, .int .i64 X.mode, dp X.l, .int .i64 X.c, .bool X.dead, .bool X.inn, .bool X.wrote, vw, .map (if X.inn then some bo else none), .int .i64 X.count, vm, .int .i64 X.next, .int .i64 X.sure] : Array Value)[i]? := cell_of_row w X.p i _ 113 (0, 0) h.hp
theorem PRep.frozen (h : PRep w X ok bo vw vm) (i : Nat) : w.frozen? ⟨X.p, i, none⟩ = false := frozen_of_cells h.hp i
theorem own_ne {base n size : Nat} {e : TypeId} {v : Value} {xs : List Value} {g : Nat} {o : Obj} (h : w.ownsRow base e size v n xs) (hg : w.heap[g]? = some o) (ho : ∀ cs, o ≠ .cells cs e (0, 0)) {k : Nat} (hk : v.ownBlock = some k) : k ≠ g := by
  obtain ⟨h1, h2⟩ := h
  rcases h2 with ⟨rfl, _⟩ | ⟨g', cap, cur, rfl, hbg, hg', r⟩
  · simp [Value.ownBlock] at hk
  · have : g' = k := by simpa [Value.ownBlock] using hk
    subst this
    rintro rfl
    rw [hg] at hg'
    exact ho _ (Option.some.inj hg')
theorem RB.ne {l : Bytes} {g : Nat} {o : Obj} (h : RB w ok v l) (hg : w.heap[g]? = some o) (ho : ∀ cs, o ≠ .cells cs 5 (0, 0)) {k : Nat} (hk : v.ownBlock = some k) : k ≠ g := by
  obtain ⟨cs, hc⟩ := h.block hk
  rintro rfl
  rw [hg] at hc
  exact ho _ (Option.some.inj hc)
theorem SMap.isMap {P : Program} {K : TypeId} {f : Int → Option Value} {sz : Nat} (h : SMap P K w b f sz) : ∃ o, w.heap[b]? = some o ∧ ∀ cs t, o ≠ .cells cs t (0, 0) := by
  obtain ⟨⟨n, D, ho, _⟩, _⟩ := h
  obtain ⟨es, clock, hb, _⟩ := ho
  exact ⟨_, hb, fun cs t e => by cases e⟩
theorem PgAt.move (h : PgAt w X ok) (hm : ∀ k, ok k → k < w.heap.size → w'.heap[k]? = w.heap[k]?) : PgAt w' X ok := by
  obtain ⟨bo, vw, vm, h⟩ := h
  exact ⟨bo, vw, vm, h.move hm⟩
theorem PgAt.mono (h : PgAt w X ok) (hk : ∀ k, ok k → ok' k) : PgAt w X ok' := by
  obtain ⟨bo, vw, vm, h⟩ := h
  exact ⟨bo, vw, vm, h.mono hk⟩
theorem PgAt.lt (h : PgAt w X ok) : X.p < w.heap.size := by
  obtain ⟨bo, vw, vm, h⟩ := h
  exact h.lt
end

/-- a page as the pager sees it -/
def PG.page (X : PG) (n : Int) : Bytes := if (n + 1) * 512 ≤ (X.was.length : Int) then (X.was.drop (n.toNat * 512)).take 512 else List.replicate 512 0
def PG.view (X : PG) (n : Int) : Bytes := (X.own n).getD (X.page n)

/-! ### ask -/
def askE (X : PG) : Int := if X.dead = true then 9 else if X.inn = true then 0 else 11
theorem ask_any {w : World} {X : PG} {ok : Nat → Prop} (h : PgAt w X ok) :
    Calls Tryz.prog 53 #[dp X.p] w fun e w' => e = .returned (.int .i64 (askE X)) ∧ w = w' := by
  obtain ⟨bo, vw, vm, h⟩ := h
  have c4 := h.cell 4
  have c5 := h.cell 5
  clear h
  unfold askE
  cases hd : X.dead <;> cases hi : X.inn <;> rw [hd] at c4 <;> rw [hi] at c5 <;> clear hd hi
  all_goals
    go_enter Tryz.func53, Tryz.ntmps53
    go_wp2
    go_ret
    exact ⟨rfl, rfl⟩
end Go.Proofs.YtmdpgjdepflbmaaGreat
namespace Go.Proofs.YtmdpgjdepflbmaaGreat
open Go.RowKit Go.Maps Go.Proofs.YtmdpgjdepflbmaaGreatW.PrintWords Go.Proofs.YtmdpgjdepflbmaaGreatW.PrintLast Go.Proofs.YtmdpgjdepflbmaaGreatW.PrintMore
open Go.Proofs.YtmdpgjdepflbmaaGreat.PPagerFolds
set_option linter.unusedVariables false
set_option linter.unusedSimpArgs false

/-- copy(v, b) into a row that it fills -/
theorem copyAll {w : World} {base : Nat} {ok : Nat → Prop} {v : Value} {xs b : Bytes} {Ab : Option Addr} {nb cb : Nat} (hR : U8.R 5 w base ok v xs) (hC : U8.C w Ab nb b) (hpos : 0 < xs.length) (hfit : xs.length ≤ nb) :
    ∃ w1, (∀ nq ty, (Builtin.copy_ #[48, 48] ty #[v, .slice Ab nb cb]).run Tryz.prog (w.drewN nq) = .ok (.int .i64 xs.length) (World.drewN w1 nq)) ∧
      U8.R 5 w1 base ok v (b.take xs.length) ∧ w.grownBy w1 v.ownBlock := by
  obtain ⟨i5, hi, hz⟩ := Option.map_eq_some_iff.1 info5
  simp only [Prod.mk.injEq] at hz
  obtain ⟨h1, h2⟩ := Kd.own_of_R hR
  rcases h2 with ⟨rfl, h0⟩ | ⟨g, cap, cur, rfl, hbg, hg, hnc, hmax, hcur, htake⟩
  · omega
  · rw [Nat.mul_one] at hcur htake
    obtain rfl : b.length = nb := hC.1
    have hC2 := Kd.C_take hC hfit
    have htl : (b.take xs.length).length = xs.length := by simp; omega
    obtain ⟨ad, rfl, hcells⟩ := C_cells hC2 (by omega)
    have hrun := fun (nq : Nat) (ty : TypeId) => run_copy_row (P := Tryz.prog) (w.drewN nq) 48 48 ty 5 g 0 xs.length cap ad b.length cb cur 5 ((b.take xs.length).map (Value.int .u8)) Tryz.underlying48
      (by rw [hi]; simp [hz.2.1]) hg (by rw [List.length_map, htl]; simp [Nat.min_def]; omega) hcells (by rw [List.length_map, htl]; omega) (fun v hv => by obtain ⟨p, _, rfl⟩ := List.mem_map.1 hv; rfl)
    rw [List.length_map, htl] at hrun
    refine ⟨w.setRow g (cur.toList.take 0 ++ (b.take xs.length).map (Value.int .u8) ++ cur.toList.drop (0 + xs.length)).toArray, fun nq ty => hrun nq ty, ?_, ?_⟩
    · refine Kd.R_of_own (enc := Value.int .u8) ⟨by simp [encs], .inr ⟨g, cap, _, ?_, hbg, setRow_heap _ _ _ _ _ _ hg, ?_, hmax, ?_, ?_⟩⟩ hR.1
      · rw [htl]
      · rw [htl]; exact hnc
      · simp; omega
      · rw [htl, Nat.mul_one]
        have hlm : ((b.take xs.length).map (Value.int .u8)).length = xs.length := by rw [List.length_map, htl]
        show List.take xs.length ((List.take 0 cur.toList ++ (b.take xs.length).map (Value.int .u8)) ++ List.drop (0 + xs.length) cur.toList) = (b.take xs.length).map (Value.int .u8)
        rw [List.take_zero, List.nil_append, List.take_append_of_le_length (by omega), List.take_of_length_le (by omega)]
    · exact ⟨rfl, rfl, rfl, by simp [World.setRow], fun i _ hi => setRow_other _ _ _ _ (fun e => hi (by rw [e]; rfl))⟩

set_option maxHeartbeats 1000000 in
theorem page_any {w : World} {X : PG} {ok : Nat → Prop} (h : PgAt w X ok) (n : Int) (h0 : 0 ≤ n) (h1 : n < 4096) (hw : X.was.length ≤ 4194304) :
    Calls Tryz.prog 55 #[dp X.p, .int .i64 n] w fun e w' => ∃ v, e = .returned v ∧ U8.R 5 w' w.heap.size (fun k => w.heap.size ≤ k) v (X.page n) ∧ Below w.heap.size w w' := by
  obtain ⟨bo, vw, vm, h⟩ := h
  have c7 := h.cell 7
  have hlt := h.lt
  obtain ⟨A, c, rfl, hle, hC⟩ := h.was.reads
  have HB := Aside0.mk (Below.refl w.heap.size w)
  have HC := Aside0.mk hC
  obtain ⟨p, hp⟩ : ∃ p, p = X.p := ⟨_, rfl⟩
  rw [← hp] at c7 hlt ⊢
  clear hp h hC
  unfold PG.page
  obtain ⟨wl, hwl⟩ : ∃ wl, wl = X.was.length := ⟨_, rfl⟩
  rw [← hwl] at c7 hle hw HC ⊢
  have HWL := Aside0.mk hwl
  clear hwl
  by_cases hc : (n + 1) * 512 ≤ (wl : Int)
  · rw [if_pos hc]
    have q0 : decide ((n + 1) * 512 ≤ (wl : Int)) = true := decide_eq_true hc
    have g0 : 0 ≤ n * 512 := by omega
    obtain ⟨A', m, c', hcut, hC', hmc, hm⟩ := cutB HC.out hle (k := n.toNat * 512) (by omega) (n * 512) (by omega)
    have hm512 : 512 ≤ m := by omega
    have HC' := Aside0.mk hC'
    have HM := Aside0.mk (And.intro hmc (And.intro hm hm512))
    clear hc hC' hmc hm hm512
    go_enter Tryz.func55, Tryz.ntmps55
    go_wp2_with (first | ((with_reducible refine gate_dst (N := 6) rfl ?_); refine Kd.R_make U8 _ 5 rfl (N := 6) rfl 48 _ _ rfl 512 rfl rfl Tryz.underlying48 (.int .u8 0) 1 info5 rfl (by decide) (by omega) 0 (ok := fun k => w.heap.size ≤ k) (okp := fun _ => False) rfl (fun _ hk => hk.elim) (Nat.le_refl _) (by omega) (by omega) (Below.refl _ _) (Nat.le_refl _) ?_; intro v1 w1 hR hb _ _; have c7' := (hb.cell (p := ⟨p, 7, none⟩) hlt).trans c7; obtain ⟨w2, hcp, hR2, hg2⟩ := copyAll (cb := c') hR (Kd.C_below HC'.out hb) (by rw [List.length_replicate]; omega) (by rw [List.length_replicate]; exact HM.out.2.2); have hcp' := hcp 0; clear hcp; rw [List.length_replicate] at hcp'; simp only [World.drewN_zero] at hcp'; have HR := Aside0.mk (And.intro hR hR2); have HB1 := Aside0.mk (And.intro hb hg2); clear hb hR hR2 hg2 c7))
    go_ret
    obtain ⟨hR, hR2⟩ := HR.out
    obtain ⟨hb, hg2⟩ := HB1.out
    rw [List.length_replicate] at hR2
    exact ⟨_, rfl, hR2, pw_below_grown hb _ hb.size hg2 (fun k hk => hR.1 k hk)⟩
  · rw [if_neg hc]
    have q0 : decide ((n + 1) * 512 ≤ (wl : Int)) = false := decide_eq_false hc
    clear hc
    go_enter Tryz.func55, Tryz.ntmps55
    go_wp2_with (first | ((with_reducible refine gate_dst (N := 6) rfl ?_); refine Kd.R_make U8 _ 5 rfl (N := 6) rfl 48 _ _ rfl 512 rfl rfl Tryz.underlying48 (.int .u8 0) 1 info5 rfl (by decide) (by omega) 0 (ok := fun k => w.heap.size ≤ k) (okp := fun _ => False) rfl (fun _ hk => hk.elim) (Nat.le_refl _) (by omega) (by omega) (Below.refl _ _) (Nat.le_refl _) ?_; intro v1 w1 hR hb _ _; have c7' := (hb.cell (p := ⟨p, 7, none⟩) hlt).trans c7; have HR := Aside0.mk hR; have HB1 := Aside0.mk hb; clear hb hR c7))
    go_ret
    exact ⟨_, rfl, HR.out, HB1.out⟩

theorem good_any (n : Int) (w : World) : Calls Tryz.prog 54 #[.int .i64 n] w fun e w' => e = .returned (.bool (decide (0 ≤ n ∧ n < 4096))) ∧ w = w' := by
  by_cases h0 : 0 ≤ n <;> by_cases h1 : n < 4096
  all_goals
    go_enter Tryz.func54, Tryz.ntmps54
    go_wp2
    go_ret
    exact ⟨by simp [h0, h1], rfl⟩
theorem good_ok (n : Int) (w : World) (h0 : 0 ≤ n) (h1 : n < 4096) : Calls Tryz.prog 54 #[.int .i64 n] w fun e w' => e = .returned (.bool true) ∧ w = w' :=
  (good_any n w).mono fun _ _ ⟨he, hw⟩ => ⟨by rw [he, decide_eq_true ⟨h0, h1⟩], hw⟩
theorem wf4096 {n : Int} (h0 : 0 ≤ n) (h1 : n < 4096) : (Lit.int .i64 n).wf = true := WalkArith.wf_i64 (by omega)
theorem zero35 (w : World) : (zeroValue 48).run Tryz.prog w = .ok nilS w := by kernel_rfl

/-- without a transaction, or dead -/
theorem pread_ask {w : World} {X : PG} {ok : Nat → Prop} (h : PgAt w X ok) (n : Int) (hx : (askE X == 0) = false) :
    Calls Tryz.prog 23 #[dp X.p, .int .i64 n] w fun e w' => e = .returned (.tuple #[.slice none 0 0, .int .i64 (askE X)]) ∧ w = w' := by
  have HA := Aside0.mk (ask_any h)
  clear h
  have hx' : (askE X != 0) = true := by simpa using hx
  obtain ⟨a, ha⟩ : ∃ a, a = askE X := ⟨_, rfl⟩
  rw [← ha] at hx hx' HA ⊢
  clear ha
  go_enter Tryz.func23, Tryz.ntmps23
  go_wp2_with (go_at_call 53; refine (HA.out).mono ?_; rintro e w' ⟨rfl, rfl⟩)
  go_ret2
  exact ⟨rfl, rfl⟩
theorem askE_in {X : PG} (hd : X.dead = false) (hi : X.inn = true) : askE X = 0 := by unfold askE; rw [hd, hi]; rfl
set_option maxHeartbeats 1000000 in
theorem pread_in {w : World} {X : PG} {ok : Nat → Prop} (h : PgAt w X ok) (n : Int) (hd : X.dead = false) (hi : X.inn = true) (h0 : 0 ≤ n) (h1 : n < 4096) (hw : X.was.length ≤ 4194304) :
    Calls Tryz.prog 23 #[dp X.p, .int .i64 n] w fun e w' => ∃ v, e = .returned (.tuple #[v, .int .i64 0]) ∧ U8.R 5 w' w.heap.size (fun k => w.heap.size ≤ k) v (X.view n) ∧ Below w.heap.size w w' := by
  have HA := ask_any h
  rw [askE_in hd hi] at HA
  have HA := Aside0.mk HA
  have HG := Aside0.mk (fun w => good_ok n w h0 h1)
  have HP := Aside0.mk (page_any h n h0 h1 hw)
  obtain ⟨bo, vw, vm, h⟩ := h
  have c8 := h.cell 8
  rw [if_pos hi] at c8
  have hlt := h.lt
  obtain ⟨hob, f, sz, hm, hnone, hsome⟩ := h.own hi
  have hlk := hm.look_ok (T := 110) Tryz.underlying3 Tryz.underlying110 zero35 (wf4096 h0 h1)
  obtain ⟨p, hp⟩ : ∃ p, p = X.p := ⟨_, rfl⟩
  rw [← hp] at c8 hlt HA HP ⊢
  clear hp
  unfold PG.view
  cases hx : f n with
  | none =>
    rw [hx] at hlk
    rw [hnone n hx]
    simp only [Option.getD_none, Option.isSome_none] at hlk ⊢
    clear h hd hi hw hob hm hnone hsome hx h0 h1
    go_enter Tryz.func23, Tryz.ntmps23
    go_wp2_with (first | (go_at_call 53; refine (HA.out).mono ?_; rintro e w' ⟨rfl, rfl⟩) | (go_at_call 54; refine (HG.out _).mono ?_; rintro e w' ⟨rfl, rfl⟩) | (go_at_call 55; refine (HP.out).mono ?_; rintro e w' ⟨v, rfl, hv, hb⟩; obtain ⟨A3, c3, rfl⟩ := Kd.R_slice hv; have HV := Aside0.mk (And.intro hv hb); clear hv hb))
    go_ret2
    exact ⟨_, rfl, HV.out.1, HV.out.2⟩
  | some v =>
    rw [hx] at hlk
    obtain ⟨_, _, bs, hbs, hbl, hR⟩ := hsome n v hx
    rw [hbs]
    simp only [Option.getD_some, Option.isSome_some] at hlk ⊢
    obtain ⟨A, c, rfl, hle, hC⟩ := hR.reads
    have HCl := Aside0.mk (clone_any A bs.length c bs w (by rw [hbl]; unfold roomy; omega) hC)
    rw [hbl] at hlk HCl
    clear h hd hi hw hob hm hnone hsome hx h0 h1 hC hR hle hbs hbl
    go_enter Tryz.func23, Tryz.ntmps23
    go_wp2_with (first | (go_at_call 53; refine (HA.out).mono ?_; rintro e w' ⟨rfl, rfl⟩) | (go_at_call 54; refine (HG.out _).mono ?_; rintro e w' ⟨rfl, rfl⟩) | (go_at_call 48; refine (HCl.out).mono ?_; rintro e w' ⟨v, rfl, hv, hb⟩; obtain ⟨A3, c3, rfl⟩ := Kd.R_slice hv; have HV := Aside0.mk (And.intro hv hb); clear hv hb))
    go_ret2
    exact ⟨_, rfl, HV.out.1, HV.out.2⟩
end Go.Proofs.YtmdpgjdepflbmaaGreat
namespace Go.Proofs.YtmdpgjdepflbmaaGreat
open Go.RowKit Go.Maps Go.Proofs.YtmdpgjdepflbmaaGreatW.PrintWords Go.Proofs.YtmdpgjdepflbmaaGreatW.PrintLast Go.Proofs.YtmdpgjdepflbmaaGreatW.PrintMore
open Go.Proofs.YtmdpgjdepflbmaaGreat.PPagerFolds
set_option linter.unusedVariables false
set_option linter.unusedSimpArgs false

/-- a page written -/
def PG.put (X : PG) (n : Int) (bs : Bytes) : PG := { X with wrote := true, own := fun y => if y = n then some bs else X.own y, count := max X.count (n + 1) }

/-- what a call leaves of a pager and of its locks -/
def PLeft (w : World) (X : PG) (x : Nat → Int) (ok : Nat → Prop) (w' : World) : Prop :=
  PgAt w' X (fun k => ok k ∨ (w.heap.size ≤ k ∧ k < w'.heap.size)) ∧ Tab 108 w' X.l x ∧ Fr (fun k => ok k ∨ k = X.l) w w'

theorem C_fr {w w' : World} {ok : Nat → Prop} {A : Option Addr} {n : Nat} {b : Bytes} (h : U8.C w A n b) (hA : ∀ ad, A = some ad → ¬ ok ad.block) (hf : Fr ok w w') : U8.C w' A n b := by
  refine ⟨h.1, h.2.1, fun hn => ?_⟩
  obtain ⟨ad, rfl, hc⟩ := h.2.2 hn
  refine ⟨ad, rfl, fun j p hj => ?_⟩
  obtain ⟨c, hl, hK, hcell⟩ := hc j p hj
  refine ⟨c, hl, hK, fun i u hu => ?_⟩
  have h1 := hcell i u hu
  have hb : (ad.add (j * U8.sz + i)).block = ad.block := by unfold Addr.add; split <;> rfl
  have hlt := World.block_lt_of_cell? _ _ h1
  rw [hb] at hlt
  refine (World.cell?_of_block ?_).trans h1
  rw [hb]
  exact hf.block _ hlt (hA ad rfl)
theorem Fr.wide {w w' : World} {ok ok' : Nat → Prop} (h : Fr ok w w') (hs : ∀ k, k < w.heap.size → ok k → ok' k) : Fr ok' w w' := ⟨h.os, h.tape, h.output, h.size, fun k hk hn => h.block k hk (fun ho => hn (hs k hk ho))⟩
theorem row13_set6 {w : World} {p : Nat} {T : TypeId} {a0 a1 a2 a3 a4 a5 a6 a7 a8 a9 a10 a11 a12 : Value} (h : w.heap[p]? = some (.cells #[a0, a1, a2, a3, a4, a5, a6, a7, a8, a9, a10, a11, a12] T (0, 0))) (v : Value) :
    (w.setCell ⟨p, 6, none⟩ v).heap[p]? = some (.cells #[a0, a1, a2, a3, a4, a5, v, a7, a8, a9, a10, a11, a12] T (0, 0)) := by
  simp [World.setCell, Array.getElem?_modify, h]
theorem row13_set9 {w : World} {p : Nat} {T : TypeId} {a0 a1 a2 a3 a4 a5 a6 a7 a8 a9 a10 a11 a12 : Value} (h : w.heap[p]? = some (.cells #[a0, a1, a2, a3, a4, a5, a6, a7, a8, a9, a10, a11, a12] T (0, 0))) (v : Value) :
    (w.setCell ⟨p, 9, none⟩ v).heap[p]? = some (.cells #[a0, a1, a2, a3, a4, a5, a6, a7, a8, v, a10, a11, a12] T (0, 0)) := by
  simp [World.setCell, Array.getElem?_modify, h]
theorem Only.fr {b : Nat} {w w' : World} (h : Only b w w') : Fr (fun k => k = b) w w' := ⟨h.os, h.tape, h.output, by rw [h.size]; exact Nat.le_refl _, fun k _ hk => h.block k hk⟩
/-- the struct's cells turned, and maybe the map -/
theorem PRep.turn {w w' : World} {X X' : PG} {ok ok' : Nat → Prop} {bo : Nat} {vw vm : Value} (h : PRep w X ok bo vw vm) (hi : X.inn = true) (hi' : X'.inn = true) (hp : X'.p = X.p) (hwas : X'.was = X.was) (hmk : X'.marks = X.marks) (hok : ∀ k, ok k → ok' k)
    (hblk : w'.heap[X.p]? = some (.cells #[dp X'.d, .int .i64 X'.mode, dp X'.l, .int .i64 X'.c, .bool X'.dead, .bool X'.inn, .bool X'.wrote, vw, .map (some bo), .int .i64 X'.count, vm, .int .i64 X'.next, .int .i64 X'.sure] 113 (0, 0)))
    (hm : ∀ k, ok k → k < w.heap.size → k ≠ X.p → k ≠ bo → w'.heap[k]? = w.heap[k]?) (ho : OwnAt w' ok' bo X'.own) : PRep w' X' ok' bo vw vm := by
  have hown := h.own hi
  obtain ⟨o, hob, hon⟩ : ∃ o, w.heap[bo]? = some o ∧ ∀ cs t, o ≠ .cells cs t (0, 0) := by
    obtain ⟨_, f, sz, hS, _⟩ := hown
    exact hS.isMap
  have hmv : ∀ k, ok k → k < w.heap.size → k ≠ X.p → k ≠ bo → w'.heap[k]? = w.heap[k]? := hm
  refine ⟨by rw [hp, hi', if_pos rfl]; rw [hi'] at hblk; exact hblk, by rw [hp]; exact hok _ h.okp, ?_, fun _ => ho, ?_⟩
  · rw [hwas]
    exact h.was.same (fun k hk => hmv k (h.was.1 k hk) (h.was.lt hk) (h.was.ne h.hp (fun cs e => by injection e with _ e2; cases e2) hk) (h.was.ne hob (fun cs => hon cs _) hk)) (fun k hk => hok k (h.was.1 k hk))
  · rw [hmk]
    obtain ⟨h1, bs, h2, h3, h4⟩ := h.marks
    refine ⟨fun k hk => hok k (h1 k hk), bs, h2, own_at_heap h3 (fun k hk => hmv k (h1 k hk) (own_lt h3 k hk) (own_ne h3 h.hp (fun cs e => by injection e with _ e2; cases e2) hk) (own_ne h3 hob (fun cs => hon cs _) hk)), fun i b m hb hmm => ?_⟩
    obtain ⟨h5, h6⟩ := h4 i b m hb hmm
    refine ⟨?_, h6⟩
    obtain ⟨ho1, f, sz, hS, hn, hs⟩ := h5
    have hbp : b ≠ X.p := by
      obtain ⟨o', ho', hne'⟩ := hS.isMap
      rintro rfl
      rw [h.hp] at ho'
      exact hne' _ _ (Option.some.inj ho').symm
    refine ⟨hok _ ho1, f, sz, hS.move (hmv b ho1 hS.lt hbp h6), hn, fun x v hx => ?_⟩
    obtain ⟨a1, a2, bs', a3, a4, a5⟩ := hs x v hx
    exact ⟨a1, a2, bs', a3, a4, a5.same (fun k hk => hmv k (a5.1 k hk) (a5.lt hk) (a5.ne h.hp (fun cs e => by injection e with _ e2; cases e2) hk) (a5.ne hob (fun cs => hon cs _) hk)) (fun k hk => hok k (a5.1 k hk))⟩

theorem range_length : ∀ (L : List Int) (a b : Int), a ≤ b → L.Pairwise (· < ·) → (∀ x ∈ L, a ≤ x ∧ x < b) → (L.length : Int) ≤ b - a
  | [], a, b, hab, _, _ => by simp; omega
  | x :: xs, a, b, hab, h, hL => by
    obtain ⟨h1, h2⟩ := List.pairwise_cons.1 h
    obtain ⟨h3, h4⟩ := hL x (by simp)
    have := range_length xs (x + 1) b (by omega) h2 (fun y hy => ⟨by have := h1 y hy; omega, (hL y (by simp [hy])).2⟩)
    simp only [List.length_cons]
    omega
theorem sli_R {w : World} {base : Nat} {ok : Nat → Prop} {A : Option Addr} {n c : Nat} {l : Bytes} (h : U8.R 5 w base ok (.slice A n c) l) : (sliE (.slice A n c)).isSome = true := by
  obtain ⟨h1, h2⟩ := Kd.own_of_R h
  rcases h2 with ⟨h2, _⟩ | ⟨g, cap, cur, h2, _⟩
  · rw [h2]; rfl
  · rw [h2]; rfl
theorem few_keys {w : World} {b sz : Nat} {f : Int → Option Value} (h : SMap Tryz.prog 3 w b f sz) (hf : ∀ x v, f x = some v → 0 ≤ x ∧ x < 4096) : sz ≤ 4096 := by
  obtain ⟨L, hL⟩ := h.keys Tryz.underlying3
  rw [← h.size_keys Tryz.underlying3 hL]
  have := range_length L 0 4096 (by omega) hL.1 (fun x hx => by
    obtain ⟨v, hv⟩ := Option.isSome_iff_exists.1 ((hL.2 x).1 hx)
    exact hf x v hv)
  omega

set_option maxHeartbeats 4000000 in
set_option maxRecDepth 100000 in
theorem pwrite_in {w : World} {X : PG} {ok : Nat → Prop} {x : Nat → Int} (h : PgAt w X ok) (ht : Tab 108 w X.l x) (hl : ¬ ok X.l) (n : Int) (hd : X.dead = false) (hi : X.inn = true) (h0 : 0 ≤ n) (h1 : n < 4096) (hrE : rE x X.c 2 = 0)
    {A : Option Addr} {cb : Nat} {bs : Bytes} (hC : U8.C w A 512 bs) (hA : ∀ ad, A = some ad → ¬ ok ad.block ∧ ad.block ≠ X.l ∧ ad.block < w.heap.size) :
    Calls Tryz.prog 20 #[dp X.p, .int .i64 n, .slice A 512 cb] w fun e w' => e = .returned (.int .i64 0) ∧ PLeft w (X.put n bs) (rX x X.c 2) ok w' := by
  have HA := ask_any h
  rw [askE_in hd hi] at HA
  replace HA := Aside0.mk HA
  have HG := Aside0.mk (fun w => good_ok n w h0 h1)
  have HR := raise_all X.l x X.c 2 w.drew ht.drew
  rw [hrE] at HR
  replace HR := Aside0.mk HR
  obtain ⟨bo, vw, vm, h⟩ := h
  have H := Aside0.mk h
  have HHi := Aside0.mk hi
  have c2 := h.cell 2
  have c3 := h.cell 3
  have hlt := h.lt
  have hpl : X.p ≠ X.l := fun e => hl (e ▸ h.okp)
  obtain ⟨p, hp⟩ : ∃ p, p = X.p := ⟨_, rfl⟩
  rw [← hp] at c2 c3 hlt HA hpl ⊢
  obtain ⟨l, hl'⟩ : ∃ l, l = X.l := ⟨_, rfl⟩
  rw [← hl'] at c2 HR hpl hl hA ht
  have HX := Aside0.mk (And.intro hp (And.intro hl' (And.intro ht (And.intro hl (And.intro hC hA)))))
  clear hp hl' ht h hd hi hrE hl hC hA
  go_enter Tryz.func20, Tryz.ntmps20
  go_wp2_with (first | (go_at_call 53; refine (HA.out).mono ?_; rintro e w' ⟨rfl, rfl⟩) | (go_at_call 54; refine (HG.out _).mono ?_; rintro e w' ⟨rfl, rfl⟩))
  go_still_tail 8, (by kernel_rfl)
  go_wp2_with (go_at_call 51; refine (HR.out).mono ?_; rintro e w1 ⟨rfl, ht1, ho1⟩
               have h1' : PRep w1 X ok bo vw vm := H.out.move (fun k hk _ => ho1.block k (fun e => HX.out.2.2.2.1 (e ▸ hk)))
               have c6 := h1'.cell 6
               have f6 := h1'.frozen 6
               rw [← HX.out.1] at c6 f6
               have H1 := Aside0.mk (And.intro h1' (And.intro ht1 ho1))
               clear h1' ht1 ho1)
  rename_i w1 K hK
  generalize hw2 : World.setCell _ _ _ = w2
  have HW2 := Aside0.mk hw2
  clear hw2 c6 f6 c2 c3
  obtain ⟨hob, f, sz, hS, hnone, hsome⟩ := H.out.own HHi.out
  have HO := Aside0.mk (And.intro hob (And.intro hS (And.intro hnone hsome)))
  clear hob hS hnone hsome
  have hF2 : Fr (fun k => k = l ∨ k = p) w w2 := by
    rw [← HW2.out]
    exact (((H1.out.2.2.fr).wide (fun k _ hk => .inl hk)).undrew).set_ (.inl (.inr rfl)) _
  have c8 : w2.cell? ⟨p, 8, none⟩ = some (.map (some bo)) := by
    have := row13_set6 H1.out.1.hp (.bool true)
    rw [HHi.out, if_pos rfl, ← HX.out.1, HW2.out] at this
    exact cell_of_row w2 p 8 _ _ (0, 0) this
  have hlt2 : p < w2.heap.size := Nat.lt_of_lt_of_le hlt hF2.size
  have HCl : Aside0 (∀ W, Below w2.heap.size w2 W → Calls Tryz.prog 48 #[.slice A 512 cb] W fun e w' => ∃ A3 c3, e = .returned (.slice A3 512 c3) ∧ U8.R 5 w' W.heap.size (fun k => W.heap.size ≤ k) (.slice A3 512 c3) bs ∧ Below W.heap.size W w' ∧ w'.cell? ⟨p, 8, none⟩ = some (.map (some bo)) ∧
      ∃ w4 : World, (Instr.mapUpdate 110 (.map (some bo)) (.int .i64 n) (.slice A3 512 c3)).run Tryz.prog w' = .ok () w4 ∧ SMap Tryz.prog 3 w4 bo (fun y => if y = n then some (.slice A3 512 c3) else f y) (if (f n).isSome then sz else sz + 1) ∧ w'.mapTurned w4 bo ∧ w4.cell? ⟨p, 8, none⟩ = some (.map (some bo))) := by
    refine ⟨fun W hW => ?_⟩
    obtain ⟨hp, hl', ht, hl, hC, hA⟩ := HX.out
    have hCW : U8.C W A 512 bs := Kd.C_below (C_fr hC (fun ad e => by
      obtain ⟨h1, h2, h3⟩ := hA ad e
      rintro (h | h)
      · exact h2 h
      · exact h1 (h ▸ hp ▸ H.out.okp)) hF2) hW
    refine (clone_any A 512 cb bs W (by unfold roomy; omega) hCW).mono ?_
    rintro e w' ⟨v, rfl, hv, hb⟩
    obtain ⟨A3, c3, rfl⟩ := Kd.R_slice hv
    have hbl : bs.length = 512 := hC.1
    rw [hbl] at hv ⊢
    have hS' : SMap Tryz.prog 3 w' bo f sz := (HO.out.2.1).move ((hb.block _ (by have := HO.out.2.1.lt; have := hF2.size; have := hW.size; omega)).trans ((hW.block _ (by have := HO.out.2.1.lt; have := hF2.size; omega)).trans (hF2.block _ HO.out.2.1.lt (by
      rintro (h | h)
      · exact hl (h ▸ HO.out.1)
      · obtain ⟨o, ho, hne⟩ := HO.out.2.1.isMap
        have := H.out.hp
        rw [← hp, ← h] at this
        rw [this] at ho
        exact hne _ _ (Option.some.inj ho).symm))))
    refine ⟨A3, c3, rfl, hv, hb, ((hb.cell (p := ⟨p, 8, none⟩) (by have := hW.size; show p < _; omega)).trans ((hW.cell (p := ⟨p, 8, none⟩) hlt2).trans c8)), ?_⟩
    have hpb : p ≠ bo := by
      obtain ⟨o, ho, hne⟩ := HO.out.2.1.isMap
      rintro h
      have := H.out.hp
      rw [← hp, h] at this
      rw [this] at ho
      exact hne _ _ (Option.some.inj ho).symm
    have c83 := ((hb.cell (p := ⟨p, 8, none⟩) (by have := hW.size; show p < _; omega)).trans ((hW.cell (p := ⟨p, 8, none⟩) hlt2).trans c8))
    have hst := hS'.store Tryz.underlying3 Tryz.underlying110 (wf4096 h0 h1) (by
      have := few_keys hS' (fun x v hx => ⟨(HO.out.2.2.2 x v hx).1, (HO.out.2.2.2 x v hx).2.1⟩)
      unfold maxLen; omega) (by
      exact sli_R hv)
    obtain ⟨w4, h1, h2, h3⟩ := hst
    exact ⟨w4, h1, h2, h3, (World.cell?_of_block (h3.grown.block p (Nat.lt_of_lt_of_le hlt2 (Nat.le_trans hW.size hb.size)) (by simp; exact hpb))).trans c83⟩
  clear hF2
  go_region_held3 (fun w' => w'.cell? ⟨p, 8, none⟩ = some (.map (some bo))) (first | go_keep | assumption)
    (first
      | (go_at_call 48; refine (HCl.out _ (by first | exact pw_below_drewN (Below.refl _ _) _ | exact below_drew (pw_below_drewN (Below.refl _ _) _))).mono ?_; rintro e w3 ⟨A3, c3, rfl, hR3, hB3, c83, w4, hmu, hS4, ht4, c84⟩; have H3 := Aside0.mk (And.intro hR3 (And.intro hB3 (And.intro hS4 ht4))); clear hR3 hB3 hS4 ht4))
  all_goals
    have hp4 : w4.heap[p]? = some (.cells #[dp X.d, .int .i64 X.mode, dp X.l, .int .i64 X.c, .bool X.dead, .bool X.inn, .bool true, vw, .map (some bo), .int .i64 X.count, vm, .int .i64 X.next, .int .i64 X.sure] 113 (0, 0)) := by
      have h6 := row13_set6 H1.out.1.hp (.bool true)
      rw [← HX.out.1, HW2.out] at h6
      obtain ⟨hR3, hB3, hS4, ht4⟩ := H3.out
      have hpb : p ≠ bo := by
        obtain ⟨o, ho, hne⟩ := HO.out.2.1.isMap
        rintro h
        have := H.out.hp
        rw [← HX.out.1, h] at this
        rw [this] at ho
        exact hne _ _ (Option.some.inj ho).symm
      have := (ht4.grown.block p (Nat.lt_of_lt_of_le hlt2 hB3.size) (by simp; exact hpb)).trans ((hB3.block p hlt2).trans h6)
      rw [HHi.out] at this ⊢
      exact this
    have c9 := cell_of_row w4 p 9 _ _ (0, 0) hp4
    have f9 := frozen_of_cells hp4 9
    have HP4 := Aside0.mk hp4
    clear hp4 hmu
    go_wp2
    go_ret
  refine ⟨rfl, ?_⟩
  obtain ⟨hR3, hB3, hS4, ht4⟩ := H3.out
  obtain ⟨hp, hl', ht, hl, hC, hA⟩ := HX.out
  obtain ⟨h1', ht1, ho1⟩ := H1.out
  have hbl : bs.length = 512 := hC.1
  have hp4 := HP4.out
  have hpb : p ≠ bo := by
    obtain ⟨o, ho, hne⟩ := hS4.isMap
    rintro h
    rw [h] at hp4
    rw [hp4] at ho
    exact hne _ _ (Option.some.inj ho).symm
  have hlb : l ≠ bo := fun e => hl (e ▸ HO.out.1)
  have hs1 : w1.heap.size = w.heap.size := ho1.size
  have hs2 : w2.heap.size = w.heap.size := by rw [← HW2.out]; simp [World.setCell, hs1]
  have hs3 : w.heap.size ≤ w3.heap.size := by have : w2.heap.size ≤ w3.heap.size := hB3.size; omega
  have hs4 : w3.heap.size ≤ w4.heap.size := ht4.grown.size
  have hs5 : (w4.setCell ⟨p, 9, none⟩ (Value.int .i64 (max X.count (n + 1)))).heap.size = w4.heap.size := by simp [World.setCell]
  have k5 : ∀ k, k ≠ p → (w4.setCell ⟨p, 9, none⟩ (Value.int .i64 (max X.count (n + 1)))).heap[k]? = w4.heap[k]? := fun k hk => Below.heap_setCell _ _ _ _ hk
  have k4 : ∀ k, k < w3.heap.size → k ≠ bo → w4.heap[k]? = w3.heap[k]? := fun k hk hb => ht4.grown.block k hk (by simpa using hb)
  have k3 : ∀ k, k < w.heap.size → w3.heap[k]? = w2.heap[k]? := fun k hk => hB3.block k (by show k < w2.heap.size; omega)
  have k2 : ∀ k, k ≠ p → w2.heap[k]? = w1.heap[k]? := fun k hk => by rw [← HW2.out]; exact Below.heap_setCell _ _ _ _ hk
  have k1 : ∀ k, k ≠ l → w1.heap[k]? = w.heap[k]? := fun k hk => ho1.block k hk
  have kk : ∀ k, k < w.heap.size → k ≠ p → k ≠ bo → k ≠ l → (w4.setCell ⟨p, 9, none⟩ (Value.int .i64 (max X.count (n + 1)))).heap[k]? = w.heap[k]? := fun k h1 h2 h3 h4 =>
    (k5 k h2).trans ((k4 k (by omega) h3).trans ((k3 k h1).trans ((k2 k h2).trans (k1 k h4))))
  refine ⟨⟨bo, vw, vm, PRep.turn H.out HHi.out (X' := X.put n bs) HHi.out rfl rfl rfl (fun k hk => .inl hk) ?_ (fun k hok hk hkp hkb => kk k hk (hp ▸ hkp) hkb (fun e => hl (e ▸ hok))) ?_⟩, ?_, ?_⟩
  · have := row13_set9 hp4 (Value.int .i64 (max X.count (n + 1)))
    rw [hp] at this ⊢
    exact this
  · refine ⟨.inl HO.out.1, _, _, hS4.move (k5 bo (Ne.symm hpb)), fun y hy => ?_, fun y v hy => ?_⟩
    · by_cases e : y = n
      · subst e; simp at hy
      · simp only [if_neg e] at hy
        show (if y = n then some bs else X.own y) = none
        rw [if_neg e]; exact HO.out.2.2.1 y hy
    · by_cases e : y = n
      · subst e
        simp only [if_true] at hy
        obtain rfl := Option.some.inj hy
        refine ⟨h0, h1, bs, by show (if y = y then some bs else X.own y) = some bs; rw [if_pos rfl], hbl, ?_⟩
        have hRB := RB.of_R hR3
        refine hRB.same (fun k hk => ?_) (fun k hk => ?_)
        · have hlt3 := hRB.lt hk
          have h2 : w2.heap.size ≤ k := hRB.1 k hk
          have hbl' := HO.out.2.1.lt
          exact (k5 k (by omega)).trans (k4 k hlt3 (by omega))
        · have hlt3 := hRB.lt hk
          have h2 : w2.heap.size ≤ k := hRB.1 k hk
          refine .inr ⟨by omega, ?_⟩
          rw [hs5]; omega
      · simp only [if_neg e] at hy
        obtain ⟨a1, a2, bs', a3, a4, a5⟩ := HO.out.2.2.2 y v hy
        refine ⟨a1, a2, bs', by show (if y = n then some bs else X.own y) = some bs'; rw [if_neg e]; exact a3, a4, ?_⟩
        refine a5.same (fun k hk => ?_) (fun k hk => .inl (a5.1 k hk))
        obtain ⟨o, ho, hne⟩ := HO.out.2.1.isMap
        have hkp : k ≠ p := by rw [hp]; exact a5.ne H.out.hp (fun cs e => by injection e with _ e2; cases e2) hk
        exact kk k (a5.lt hk) hkp (a5.ne ho (fun cs => hne cs _) hk) (fun e => hl (e ▸ a5.1 k hk))
  · show Tab _ _ X.l _
    rw [← hl']
    exact (k5 l (Ne.symm hpl)).trans ((k4 l (by have := ht.lt; omega) hlb).trans ((k3 l ht.lt).trans ((k2 l (Ne.symm hpl)).trans ht1)))
  · refine ⟨ht4.grown.os.trans (hB3.os.trans (by rw [show w2.drew.os = w2.os from rfl, ← HW2.out]; exact ho1.os)), ht4.grown.tape.trans (hB3.tape.trans (by rw [show w2.drew.tape = w2.tape from rfl, ← HW2.out]; exact ho1.tape)), ht4.grown.output.trans (hB3.output.trans (by rw [show w2.drew.output = w2.output from rfl, ← HW2.out]; exact ho1.output)), by rw [hs5]; omega, fun k hk hn => ?_⟩
    replace hn : ¬ (ok k ∨ k = X.l) := hn
    rw [← hl'] at hn
    exact kk k hk (fun e => hn (.inl (by rw [e, hp]; exact H.out.okp))) (fun e => hn (.inl (e ▸ HO.out.1))) (fun e => hn (.inr e))
end Go.Proofs.YtmdpgjdepflbmaaGreat
namespace Go.Proofs.YtmdpgjdepflbmaaGreat
open Go.RowKit Go.Maps Go.Proofs.YtmdpgjdepflbmaaGreatW.PrintWords Go.Proofs.YtmdpgjdepflbmaaGreatW.PrintLast Go.Proofs.YtmdpgjdepflbmaaGreatW.PrintMore
open Go.Proofs.YtmdpgjdepflbmaaGreat.PPagerFolds
set_option linter.unusedVariables false
set_option linter.unusedSimpArgs false

abbrev sB : ByteArray := ⟨#[98, 97, 115, 101]⟩
abbrev sJ : ByteArray := ⟨#[98, 97, 115, 101, 45, 106, 111, 117, 114, 110, 97, 108]⟩
abbrev sL : ByteArray := ⟨#[98, 97, 115, 101, 45, 108, 111, 103]⟩
theorem lt_cases4 {j : Int} (h0 : 0 ≤ j) (h : j < 4) : j = 0 ∨ j = 1 ∨ j = 2 ∨ j = 3 := by omega
theorem lt_cases8 {j : Int} (h0 : 0 ≤ j) (h : j < 8) : j = 0 ∨ j = 1 ∨ j = 2 ∨ j = 3 ∨ j = 4 ∨ j = 5 ∨ j = 6 ∨ j = 7 := by omega
theorem lt_cases12 {j : Int} (h0 : 0 ≤ j) (h : j < 12) : j = 0 ∨ j = 1 ∨ j = 2 ∨ j = 3 ∨ j = 4 ∨ j = 5 ∨ j = 6 ∨ j = 7 ∨ j = 8 ∨ j = 9 ∨ j = 10 ∨ j = 11 := by omega
theorem good_B : GoodN sB := ⟨fun j h0 h1 => by
  rcases lt_cases4 h0 h1 with rfl | rfl | rfl | rfl <;> exact .inl ⟨by decide, by decide⟩, by decide, by decide⟩
theorem good_L : GoodN sL := ⟨fun j h0 h1 => by
  rcases lt_cases8 h0 h1 with rfl | rfl | rfl | rfl | rfl | rfl | rfl | rfl
  all_goals first | exact .inl ⟨by decide, by decide⟩ | exact .inr (.inr (.inr (by decide))), by decide, by decide⟩
theorem good_J : GoodN sJ := ⟨fun j h0 h1 => by
  rcases lt_cases12 h0 h1 with rfl | rfl | rfl | rfl | rfl | rfl | rfl | rfl | rfl | rfl | rfl | rfl
  all_goals first | exact .inl ⟨by decide, by decide⟩ | exact .inr (.inr (.inr (by decide))), by decide, by decide⟩

theorem undo_none {w : World} {d p : Nat} {M : DM} {ok : Nat → Prop} (h : DiskAt w d M ok) (hp : w.cell? ⟨p, 0, none⟩ = some (dptr d)) (ho : M.off = false) (hx : M.fs (nm sJ) = none) :
    Calls Tryz.prog 68 #[dp p] w fun e w' => e = .returned (.int .i64 0) ∧ ∃ n, w' = w.drewN n := by
  have HA := Aside0.mk (all_none h hp good_J ho hx)
  clear h hp ho hx
  go_enter Tryz.func68, Tryz.ntmps68
  go_wp2_with (go_at_call 86; refine (HA.out).mono ?_; rintro e w' ⟨rfl, n, rfl⟩)
  go_ret
  exact ⟨rfl, _, rfl⟩

theorem wrap_small {x : Int} (h0 : 0 ≤ x) (h : x < 4611686018427387904) : wrap64 x = x := by unfold wrap64; omega
theorem index_none (l : List ByteArray) (s : ByteArray) (hl : l.length ≤ 1000) (hs : ∀ x ∈ l, s.toList ≠ x.toList) : ∀ (k : Nat) (i : Nat), i ≤ l.length → l.length < i + k → slices_Index_string_string.l0 k l s (l.length : Int) (i : Int) = some (-1)
  | 0, i, h1, h2 => by omega
  | k + 1, i, h1, h2 => by
    unfold slices_Index_string_string.l0
    by_cases hc : i < l.length
    · rw [if_pos (by omega), if_pos (by omega), if_pos (by omega), if_neg]
      · rw [wrap_small (by omega) (by omega)]
        exact index_none l s hl hs k (i + 1) (by omega) (by omega)
      · have : rdOf ByteArray.empty l (i : Int) = l[i] := by simp [rdOf, List.getD_eq_getElem?_getD, hc]
        rw [this]
        exact hs _ (List.getElem_mem _)
    · rw [if_neg (by omega)]
theorem contains_none (l : List ByteArray) (s : ByteArray) (hl : l.length ≤ 1000) (hs : ∀ x ∈ l, s.toList ≠ x.toList) : slices_Contains_string_string.f (l.length + 1) l s = some false := by
  unfold slices_Contains_string_string.f slices_Index_string_string.f
  have := index_none l s hl hs (l.length + 1) 0 (by omega) (by omega)
  simp only [Int.ofNat_zero] at this
  rw [show slices_Index_string_string.l0 (l.length + 1) l s (l.length : Int) 0 = some (-1) from this]
  rfl

set_option maxRecDepth 100000 in
/-- no log -/
theorem fold_none {w : World} {d p : Nat} {M : DM} {ok : Nat → Prop} (h : DiskAt w d M ok) (hp : w.cell? ⟨p, 0, none⟩ = some (dptr d)) (ho : M.off = false) {L : List Name} (hL : L.Pairwise (· < ·) ∧ ∀ x, x ∈ L ↔ (M.fs x).isSome = true) (h16 : L.length ≤ 16) (hx : M.fs (nm sL) = none) :
    Calls Tryz.prog 69 #[dp p] w fun e w' => e = .returned (.int .i64 0) ∧ Below w.heap.size w w' := by
  have HL := Aside0.mk (list_on h ho hL.1 hL.2 h16)
  have HN := Aside0.mk (contains_none (L.map strL) sL (by rw [List.length_map]; omega) (fun x hx' => by
    obtain ⟨y, hy, rfl⟩ := List.mem_map.1 hx'
    intro e
    have h1 := (hL.2 y).1 hy
    have h2 : nm sL = y := by
      have e2 : sL.toList = (strL y).toList := e
      rw [Lib.toList_data, Lib.toList_data] at e2
      simpa [nm, strL] using e2
    rw [← h2, hx] at h1
    cases h1))
  clear h ho hL h16 hx
  generalize L.map strL = LS at HL HN
  go_enter Tryz.func69, Tryz.ntmps69
  go_wp2_with (first
    | (go_at_call 103; refine (HL.out).mono ?_; rintro e w' ⟨v, rfl, hv, hb⟩; obtain ⟨A, c, rfl, hc, hC⟩ := Kd.R_reads hv; have HC := Aside0.mk (slices_Contains_string_string.calls _ A c LS sL false w' hC hc HN.out); have HV := Aside0.mk hb; clear hv hb hC hc)
    | (go_at_call 104; refine (HC.out).mono ?_; rintro e w' ⟨rfl, ⟨n, rfl⟩⟩))
  go_ret
  exact ⟨rfl, pw_below_drewN HV.out _⟩

/-- bytes too few for a block -/
theorem parse_nil (w : World) : Calls Tryz.prog 101 #[.slice none 0 0] w fun e w' => e = .returned (.tuple #[.int .i64 0, .map none, .int .i64 0]) ∧ w = w' := by
  go_enter Tryz.func101, Tryz.ntmps101
  go_wp2
  go_step3
  go_wp2
  rw [Exit.noGoto_ret]
  go_ret3
  exact ⟨rfl, rfl⟩

set_option maxRecDepth 100000 in
/-- no log -/
theorem blocks_none {w : World} {d p : Nat} {M : DM} {ok : Nat → Prop} (h : DiskAt w d M ok) (hp : w.cell? ⟨p, 0, none⟩ = some (dptr d)) (ho : M.off = false) (hx : M.fs (nm sL) = none) :
    Calls Tryz.prog 87 #[dp p] w fun e w' => e = .returned (.tuple #[.map (some w.heap.size), .int .i64 (-1), .int .i64 0, .int .i64 0, .int .i64 0]) ∧ ∃ n, w' = (w.drewN n).alloc (.map #[] 0) := by
  have HA := Aside0.mk (all_none h hp good_L ho hx)
  clear h hp ho hx
  have hmm := @run_makeMap Tryz.prog
  go_enter Tryz.func87, Tryz.ntmps87
  go_wp2
  go_step3
  go_wp2_with (first | (go_at_call 86; refine (HA.out).mono ?_; rintro e w' ⟨rfl, n, rfl⟩) | (go_at_call 101; refine (parse_nil _).mono ?_; rintro e w' ⟨rfl, rfl⟩))
  go_step3
  go_wp2_with (go_at_call 101; refine (parse_nil _).mono ?_; rintro e w' ⟨rfl, rfl⟩)
  rw [Exit.noGoto_ret]
  exact bodyPost_ret (v := .tuple #[.map (some w.heap.size), .int .i64 (-1), .int .i64 0, .int .i64 0, .int .i64 0]) (by simp [results, Tryz.results87, go_sem]) rfl ⟨rfl, _, rfl⟩

theorem below_of_grown {a b : World} (h : a.grownBy b none) : Below a.heap.size a b := ⟨h.os, h.tape, h.output, h.size, fun k hk => h.block k hk (by simp)⟩
/-- what the base holds -/
def baseB (M : DM) : Bytes := match M.fs (nm sB) with | some f => f.2 | none => []
set_option maxRecDepth 100000 in
set_option maxHeartbeats 1000000 in
/-- no journal, no log -/
theorem committed_jour {w : World} {X : PG} {M : DM} {okp okd : Nat → Prop} (hP : PgAt w X okp) (h : DiskAt w X.d M okd) (hmode : X.mode = 1) (ho : M.off = false) {L : List Name} (hL : L.Pairwise (· < ·) ∧ ∀ x, x ∈ L ↔ (M.fs x).isSome = true) (h16 : L.length ≤ 16)
    (hJ : M.fs (nm sJ) = none) (hLg : M.fs (nm sL) = none) (hlen : (baseB M).length ≤ 2097152) (hmod : (baseB M).length % 512 = 0) :
    Calls Tryz.prog 50 #[dp X.p] w fun e w' => ∃ v, e = .returned (.tuple #[v, .int .i64 0]) ∧ U8.R 5 w' w.heap.size (fun k => w.heap.size ≤ k) v (baseB M) ∧ Below w.heap.size w w' := by
  obtain ⟨bo, vw, vm, hP⟩ := hP
  have c0 := hP.cell 0
  have c1 := hP.cell 1
  rw [hmode] at c1
  have hlt := hP.lt
  obtain ⟨p, hp⟩ : ∃ p, p = X.p := ⟨_, rfl⟩
  rw [← hp] at c0 c1 hlt ⊢
  have HU := Aside0.mk (undo_none h c0 ho hJ)
  have HF := Aside0.mk (fun n => fold_none (w := w.drewN n) (h.drewN n) c0 ho hL h16 hLg)
  have HM := Aside0.mk (And.intro h (And.intro ho (And.intro hLg (And.intro hlen hmod))))
  have HC0 := Aside0.mk c0
  clear hP hp h ho hJ hLg hL h16 hmode
  unfold baseB at hlen hmod ⊢
  cases hx : M.fs (nm sB) with
  | none =>
    clear hlen hmod
    simp only
    have HX := Aside0.mk hx
    clear hx
    go_enter Tryz.func50, Tryz.ntmps50
    go_wp2_with (first
      | (go_at_call 68; refine (HU.out).mono ?_; rintro e w' ⟨rfl, n, rfl⟩)
      | (go_at_call 69; refine (HF.out _).mono ?_; rintro e w1 ⟨rfl, hb1⟩
         have hb1' : Below w.heap.size w w1 := below_undrawn hb1
         have HA := Aside0.mk (all_none (HM.out.1.below hb1') ((hb1'.cell (p := ⟨p, 0, none⟩) hlt).trans HC0.out) good_B HM.out.2.1 HX.out)
         have HB := Aside0.mk (fun n => blocks_none (w := w1.drewN n) ((HM.out.1.below hb1').drewN n) ((hb1'.cell (p := ⟨p, 0, none⟩) hlt).trans HC0.out) HM.out.2.1 HM.out.2.2.1)
         have HB1 := Aside0.mk hb1'
         clear hb1 hb1')
      | (go_at_call 86; refine (HA.out).mono ?_; rintro e w' ⟨rfl, n2, rfl⟩)
      | (go_at_call 87; refine (HB.out _).mono ?_; rintro e w' ⟨rfl, n3, rfl⟩)
      | (at_range; refine wpList_range_own _ rfl _ 110 rfl 3 48 (int_keyed Tryz.underlying3) Tryz.underlying110 sliE w1.heap.size 0 (.map []) rfl (World.ownsMap_made _ _ _ _) ?_; intro w0 hrg0 hg0 hs0))
    go_frame
    refine wp_loop_rounds 1 ?_
    rw [rounds_succ]
    go_wp2_with (at_next; refine wpList_next_ranges _ rfl _ rfl 3 (int_keyed Tryz.underlying3) sliE (fun x : Value => x) (fun x : Value => x) (fun key kl _ => ⟨key, rfl⟩) (fun v y _ => ⟨v, rfl⟩) _ _ 0 (.map []) _ _ rfl hrg0 ?_ ?_)
    · intro _ _
      go_wp2
      go_ret2
      have hb := HB1.out
      refine ⟨_, rfl, Kd.R_nil _ _ _ _ _, ?_⟩
      have h3 : Below w.heap.size w ((w1.drewN (n2 + n3)).alloc (.map #[] 0)) := (pw_below_drewN hb _).alloc hb.size _
      exact h3.grown hg0 h3.size (fun k hk => by cases hk)
    · intro x c kl a b w' cnt' _ hlk
      cases hlk
  | some f =>
    rw [hx] at hlen hmod
    simp only at hlen hmod ⊢
    obtain ⟨n, hn⟩ : ∃ n, n = f.2.length := ⟨_, rfl⟩
    rw [← hn] at hlen hmod
    have q1 : ((n : Int) % 512 != 0) = false := by simp; omega
    have q1' : (Int.tmod (n : Int) 512 != 0) = false := by rw [Int.tmod_eq_emod_of_nonneg (by omega)]; exact q1
    have q2 : decide ((2097152 : Int) < (n : Int)) = false := by simp; omega
    have HX := Aside0.mk (And.intro hx (And.intro hn hlen))
    clear hx hmod hn hlen
    go_enter Tryz.func50, Tryz.ntmps50
    go_wp2_with (first
      | (go_at_call 68; refine (HU.out).mono ?_; rintro e w' ⟨rfl, n1, rfl⟩)
      | (go_at_call 69; refine (HF.out _).mono ?_; rintro e w1 ⟨rfl, hb1⟩
         have hb1' : Below w.heap.size w w1 := below_undrawn hb1
         have HA := Aside0.mk (all_some (HM.out.1.below hb1') ((hb1'.cell (p := ⟨p, 0, none⟩) hlt).trans HC0.out) good_B HM.out.2.1 HX.out.1 (by rw [← HX.out.2.1]; have := HX.out.2.2; omega))
         have HB1 := Aside0.mk hb1'
         clear hb1 hb1')
      | (go_at_call 86; refine (HA.out).mono ?_; rintro e w2 ⟨v, rfl, hv, hb2⟩
         have hb2' : Below w.heap.size w w2 := HB1.out.trans (hb2.mono HB1.out.size)
         have HV := Aside0.mk (And.intro hv hb2')
         obtain ⟨A3, c3, hv3⟩ := Kd.R_slice hv
         rw [← HX.out.2.1] at hv3
         subst hv3
         have HB := Aside0.mk (blocks_none (w := w2) (HM.out.1.below hb2') ((hb2'.cell (p := ⟨p, 0, none⟩) hlt).trans HC0.out) HM.out.2.1 HM.out.2.2.1)
         clear hv hb2 hb2')
      | (go_at_call 87; refine (HB.out).mono ?_; rintro e w' ⟨rfl, n3, rfl⟩)
      | (at_range; refine wpList_range_own _ rfl _ 110 rfl 3 48 (int_keyed Tryz.underlying3) Tryz.underlying110 sliE w2.heap.size 0 (.map []) rfl (World.ownsMap_made _ _ _ _) ?_; intro w0 hrg0 hg0 hs0))
    go_frame
    refine wp_loop_rounds 1 ?_
    rw [rounds_succ]
    go_wp2_with (at_next; refine wpList_next_ranges _ rfl _ rfl 3 (int_keyed Tryz.underlying3) sliE (fun x : Value => x) (fun x : Value => x) (fun key kl _ => ⟨key, rfl⟩) (fun v y _ => ⟨v, rfl⟩) _ _ 0 (.map []) _ _ rfl hrg0 ?_ ?_)
    · intro _ _
      go_wp2
      go_ret2
      obtain ⟨hv, hb⟩ := HV.out
      have h3 : Below w.heap.size w ((w2.drewN n3).alloc (.map #[] 0)) := (pw_below_drewN hb _).alloc hb.size _
      have hv3 : U8.R 5 ((w2.drewN n3).alloc (.map #[] 0)) w1.heap.size (fun k => w1.heap.size ≤ k) (.slice A3 n c3) f.2 := Kd.R_alloc (Kd.R_drewN hv n3) _
      refine ⟨_, rfl, Kd.R_lower (Kd.R_mono (Kd.R_below hv3 (below_of_grown hg0)) (fun k hk => Nat.le_trans HB1.out.size hk)) HB1.out.size, h3.grown hg0 h3.size (fun k hk => by cases hk)⟩
    · intro x c kl a b w' cnt' _ hlk
      cases hlk
end Go.Proofs.YtmdpgjdepflbmaaGreat
namespace Go.Proofs.YtmdpgjdepflbmaaGreat
open Go.RowKit Go.Maps Go.Proofs.YtmdpgjdepflbmaaGreatW.PrintWords Go.Proofs.YtmdpgjdepflbmaaGreatW.PrintLast Go.Proofs.YtmdpgjdepflbmaaGreatW.PrintMore
open Go.Proofs.YtmdpgjdepflbmaaGreat.PPagerFolds
set_option linter.unusedVariables false
set_option linter.unusedSimpArgs false

theorem fresh_at (A : Array Obj) (o : Obj) {k : Nat} (h : k = A.size) : (A.push o)[k]? = some o := by
  subst h; simp
/-- an empty disk -/
def M0 : DM := { fs := fun _ => none, tr := fun _ => 0, st := 0, off := false }
theorem DRep.empty0 (w : World) : DRep (((w.alloc (.map #[] 0)).alloc (.map #[] 0)).alloc (.cells #[.map (some w.heap.size), .map (some (w.heap.size + 1)), .int .i64 0, .bool false] 100)) (w.heap.size + 2) M0 (fun k => w.heap.size ≤ k) w.heap.size (w.heap.size + 1) (fun _ => none) (fun _ => .slice none 0 0) (fun _ => .slice none 0 0) 0 where
  hd := by show (((w.heap.push _).push _).push _)[_]? = _; exact fresh_at _ _ (by simp only [Array.size_push])
  hf := ((PMap.made Tryz.prog 9 w).move (w' := (w.alloc (.map #[] 0)).alloc (.map #[] 0)) (Below.heap_alloc _ _ _ (by simp))).move (Below.heap_alloc _ _ _ (by simp; omega))
  ht := by
    have := NMap.made Tryz.prog 3 3 (w.alloc (.map #[] 0))
    rw [show (w.alloc (.map #[] 0)).heap.size = w.heap.size + 1 from by simp] at this
    exact this.move (Below.heap_alloc _ _ _ (by simp))
  dom := fun _ => rfl
  file := fun _ _ _ h => by cases h
  inj := fun _ _ _ h => by cases h
  apart := fun _ _ _ _ _ h => by cases h
  ne := by omega
  okd := by omega
  okf := Nat.le_refl _
  okt := by omega
  okb := fun _ _ h => by cases h

set_option maxRecDepth 100000 in
theorem dnew_nil (w : World) : Calls Tryz.prog 13 #[.slice none 0 0, .slice none 0 0] w fun e w' => e = .returned (.tuple #[dp (w.heap.size + 2), .int .i64 0]) ∧ DiskAt w' (w.heap.size + 2) M0 (fun k => w.heap.size ≤ k) ∧ Below w.heap.size w w' := by
  have HD := Aside0.mk (DRep.empty0 w)
  have hmm := @run_makeMap Tryz.prog
  go_enter Tryz.func13, Tryz.ntmps13
  go_wp2
  refine wp_loop_rounds 1 ?_
  rw [rounds_succ]
  go_wp2
  refine wp_loop_rounds 1 ?_
  rw [rounds_succ]
  go_wp2
  go_ret2
  exact ⟨rfl, ⟨_, _, _, _, _, _, HD.out⟩, (((Below.refl w.heap.size w).alloc (Nat.le_refl _) _).alloc (by simp) _).alloc (by simp; omega) _⟩

/-- a disk with a base at most -/
structure JQ (M : DM) : Prop where
  off : M.off = false
  names : ∃ L : List Name, (L.Pairwise (· < ·) ∧ ∀ x, x ∈ L ↔ (M.fs x).isSome = true) ∧ L.length ≤ 16
  jn : M.fs (nm sJ) = none
  lg : M.fs (nm sL) = none
  len : (baseB M).length ≤ 2097152
  md : (baseB M).length % 512 = 0
theorem JQ.zero : JQ M0 := ⟨rfl, ⟨[], ⟨List.Pairwise.nil, fun x => by simp [M0]⟩, by simp⟩, rfl, rfl, by simp [baseB, M0], by simp [baseB, M0]⟩

/-- a pager that was opened -/
def newPG (p d l : Nat) (mode : Int) (c : Nat) : PG := { p := p, d := d, l := l, mode := mode, c := c, dead := false, inn := false, wrote := false, was := [], own := fun _ => none, count := 0, marks := [], next := 0, sure := -1 }
theorem PRep.new (w : World) (d l : Nat) (mode : Int) (c : Nat) : PgAt (w.alloc (.cells #[dp d, .int .i64 mode, dp l, .int .i64 c, .bool false, .bool false, .bool false, .slice none 0 0, .map none, .int .i64 0, .slice none 0 0, .int .i64 0, .int .i64 (-1)] 113)) (newPG w.heap.size d l mode c) (fun k => k = w.heap.size) :=
  ⟨0, .slice none 0 0, .slice none 0 0, heap_alloc_new w _, rfl, RB.nil _ _, fun h => by simp [newPG] at h, fun k hk => by simp [Value.ownBlock] at hk, [], rfl, own_nil _ _ _ _, fun i b m h => by simp at h⟩

theorem row13_set5 {w : World} {p : Nat} {T : TypeId} {a0 a1 a2 a3 a4 a5 a6 a7 a8 a9 a10 a11 a12 : Value} (h : w.heap[p]? = some (.cells #[a0, a1, a2, a3, a4, a5, a6, a7, a8, a9, a10, a11, a12] T (0, 0))) (v : Value) :
    (w.setCell ⟨p, 5, none⟩ v).heap[p]? = some (.cells #[a0, a1, a2, a3, a4, v, a6, a7, a8, a9, a10, a11, a12] T (0, 0)) := by
  simp [World.setCell, Array.getElem?_modify, h]
theorem row13_set7 {w : World} {p : Nat} {T : TypeId} {a0 a1 a2 a3 a4 a5 a6 a7 a8 a9 a10 a11 a12 : Value} (h : w.heap[p]? = some (.cells #[a0, a1, a2, a3, a4, a5, a6, a7, a8, a9, a10, a11, a12] T (0, 0))) (v : Value) :
    (w.setCell ⟨p, 7, none⟩ v).heap[p]? = some (.cells #[a0, a1, a2, a3, a4, a5, a6, v, a8, a9, a10, a11, a12] T (0, 0)) := by
  simp [World.setCell, Array.getElem?_modify, h]
theorem row13_set8 {w : World} {p : Nat} {T : TypeId} {a0 a1 a2 a3 a4 a5 a6 a7 a8 a9 a10 a11 a12 : Value} (h : w.heap[p]? = some (.cells #[a0, a1, a2, a3, a4, a5, a6, a7, a8, a9, a10, a11, a12] T (0, 0))) (v : Value) :
    (w.setCell ⟨p, 8, none⟩ v).heap[p]? = some (.cells #[a0, a1, a2, a3, a4, a5, a6, a7, v, a9, a10, a11, a12] T (0, 0)) := by
  simp [World.setCell, Array.getElem?_modify, h]

/-- the marks, where the struct's block and new ones alone turned -/
theorem MkAt.other {w w' : World} {ok ok' : Nat → Prop} {bo bo' p : Nat} {v : Value} {ms : List Mk} {cs : Array Value} (h : MkAt w ok bo v ms) (hp : w.heap[p]? = some (.cells cs 113 (0, 0)))
    (hm : ∀ k, ok k → k < w.heap.size → k ≠ p → w'.heap[k]? = w.heap[k]?) (hok : ∀ k, ok k → ok' k) (hb : w.heap.size ≤ bo') : MkAt w' ok' bo' v ms := by
  obtain ⟨h1, bs, h2, h3, h4⟩ := h
  refine ⟨fun k hk => hok k (h1 k hk), bs, h2, own_at_heap h3 (fun k hk => hm k (h1 k hk) (own_lt h3 k hk) (own_ne h3 hp (fun cs e => by injection e with _ e2; cases e2) hk)), fun i b m hbb hmm => ?_⟩
  obtain ⟨h5, h6⟩ := h4 i b m hbb hmm
  have hlt := h5.lt
  refine ⟨?_, by omega⟩
  obtain ⟨ho1, f, sz, hS, hn, hs⟩ := h5
  have hbp : b ≠ p := by
    obtain ⟨o', ho', hne'⟩ := hS.isMap
    rintro rfl
    rw [hp] at ho'
    exact hne' _ _ (Option.some.inj ho').symm
  refine ⟨hok _ ho1, f, sz, hS.move (hm b ho1 hS.lt hbp), hn, fun x v hx => ?_⟩
  obtain ⟨a1, a2, bs', a3, a4, a5⟩ := hs x v hx
  exact ⟨a1, a2, bs', a3, a4, a5.same (fun k hk => hm k (a5.1 k hk) (a5.lt hk) (a5.ne hp (fun cs e => by injection e with _ e2; cases e2) hk)) (fun k hk => hok k (a5.1 k hk))⟩

/-- a transaction that begins -/
def PG.begun (X : PG) (M : DM) : PG := { X with inn := true, was := baseB M, own := fun _ => none, count := ((baseB M).length / 512 : Nat) }

set_option maxHeartbeats 4000000 in
set_option maxRecDepth 100000 in
theorem begin_jour {w : World} {X : PG} {M : DM} {ok okd : Nat → Prop} {x : Nat → Int} (h : PgAt w X ok) (hD : DiskAt w X.d M okd) (hq : JQ M) (ht : Tab 108 w X.l x) (hl : ¬ ok X.l) (hld : ¬ okd X.l)
    (hmode : X.mode = 1) (hd : X.dead = false) (hi : X.inn = false) (hrE : rE x X.c 1 = 0) :
    Calls Tryz.prog 19 #[dp X.p] w fun e w' => e = .returned (.int .i64 0) ∧ PLeft w (X.begun M) (rX x X.c 1) ok w' := by
  have HR := raise_all X.l x X.c 1 w.drew ht.drew
  rw [hrE] at HR
  replace HR := Aside0.mk HR
  obtain ⟨bo, vw, vm, h⟩ := h
  have H := Aside0.mk h
  have c2 := h.cell 2
  have c3 := h.cell 3
  have c4 := h.cell 4
  have c5 := h.cell 5
  rw [hd] at c4
  rw [hi] at c5
  have hlt := h.lt
  have hpl : X.p ≠ X.l := fun e => hl (e ▸ h.okp)
  obtain ⟨p, hp⟩ : ∃ p, p = X.p := ⟨_, rfl⟩
  rw [← hp] at c2 c3 c4 c5 hlt hpl ⊢
  obtain ⟨l, hl'⟩ : ∃ l, l = X.l := ⟨_, rfl⟩
  rw [← hl'] at c2 HR hpl hl hld ht
  have HX := Aside0.mk (And.intro hp (And.intro hl' (And.intro ht (And.intro hl (And.intro hld (And.intro hD (And.intro hq (And.intro hmode (And.intro hd hi)))))))))
  clear hp hl' ht h hd hi hrE hl hld hD hq hmode
  have hmm := @run_makeMap Tryz.prog
  go_enter Tryz.func19, Tryz.ntmps19
  go_wp2
  go_still_tail 8, (by kernel_rfl)
  go_wp2_with (first
    | (go_at_call 51; refine (HR.out).mono ?_; rintro e w1 ⟨rfl, ht1, ho1⟩
       have h1' : PRep w1 X ok bo vw vm := H.out.move (fun k hk _ => ho1.block k (fun e => HX.out.2.2.2.1 (e ▸ hk)))
       obtain ⟨L, hL, h16⟩ := HX.out.2.2.2.2.2.2.1.names
       have HC := committed_jour ⟨bo, vw, vm, h1'⟩ (HX.out.2.2.2.2.2.1.move (fun k hk _ => ho1.block k (fun e => HX.out.2.2.2.2.1 (e ▸ hk)))) HX.out.2.2.2.2.2.2.2.1 HX.out.2.2.2.2.2.2.1.off hL h16 HX.out.2.2.2.2.2.2.1.jn HX.out.2.2.2.2.2.2.1.lg HX.out.2.2.2.2.2.2.1.len HX.out.2.2.2.2.2.2.1.md
       rw [← HX.out.1] at HC
       replace HC := Aside0.mk HC
       have H1 := Aside0.mk (And.intro h1' (And.intro ht1 ho1))
       clear h1' ht1 ho1 hL h16)
    | (go_at_call 50; refine (HC.out).mono ?_; rintro e w2 ⟨v, rfl, hv, hb⟩
       have h2 : w2.heap[p]? = _ := (hb.block p (by have := H1.out.1.lt; rw [← HX.out.1] at this; exact this)).trans (HX.out.1 ▸ H1.out.1.hp)
       obtain ⟨A3, c3', rfl⟩ := Kd.R_slice hv
       have hbl : (baseB M).length ≤ 2097152 := HX.out.2.2.2.2.2.2.1.len
       have HB := Aside0.mk (And.intro hv (And.intro hb h2))
       generalize hn : (baseB M).length = bn at *
       have HN := Aside0.mk hn
       have hlt2 : p < w2.heap.size := heap_lt h2
       have d5 := cell_of_row w2 p 5 _ _ (0, 0) h2
       have e5 := frozen_of_cells h2 5
       have d7 := cell_of_row w2 p 7 _ _ (0, 0) h2
       have e7 := frozen_of_cells h2 7
       have d8 := cell_of_row w2 p 8 _ _ (0, 0) h2
       have e8 := frozen_of_cells h2 8
       have d9 := cell_of_row w2 p 9 _ _ (0, 0) h2
       have e9 := frozen_of_cells h2 9
       clear hv hb h2 hn))
  go_ret
  refine ⟨rfl, ?_⟩
  obtain ⟨hp, hl', ht, hl, hld, hD, hq, hmode, hd, hi⟩ := HX.out
  obtain ⟨h1', ht1, ho1⟩ := H1.out
  obtain ⟨hv, hb, h2⟩ := HB.out
  have hbn := HN.out
  have hs1 : w1.heap.size = w.heap.size := ho1.size
  have hs2 : w1.heap.size ≤ w2.heap.size := hb.size
  have b5 := row13_set9 (row13_set8 (row13_set7 (row13_set5 h2 (.bool true)) (.slice A3 bn c3')) (.map (some w2.heap.size))) (.int .i64 ((bn : Int) / 512))
  generalize hW : ((((w2.setCell ⟨p, 5, none⟩ (.bool true)).setCell ⟨p, 7, none⟩ (.slice A3 bn c3')).setCell ⟨p, 8, none⟩ (.map (some w2.heap.size))).setCell ⟨p, 9, none⟩ (.int .i64 ((bn : Int) / 512))) = W at b5 ⊢
  have hO : Only p w2 W := by rw [← hW]; exact ((((Only.refl p w2).set_ 5 _).set_ 7 _).set_ 8 _).set_ 9 _
  have hsW : W.heap.size = w2.heap.size := hO.size
  have kA : ∀ k, k < w2.heap.size → (W.alloc (.map #[] 0)).heap[k]? = W.heap[k]? := fun k hk => Below.heap_alloc _ _ _ (by omega)
  have k2 : ∀ k, k < w1.heap.size → k ≠ p → (W.alloc (.map #[] 0)).heap[k]? = w1.heap[k]? := fun k hk hkp => (kA k (by omega)).trans ((hO.block k hkp).trans (hb.block k hk))
  have k1 : ∀ k, k < w.heap.size → k ≠ p → k ≠ l → (W.alloc (.map #[] 0)).heap[k]? = w.heap[k]? := fun k hk hkp hkl => (k2 k (by omega) hkp).trans (ho1.block k hkl)
  have hsA : (W.alloc (.map #[] 0)).heap.size = w2.heap.size + 1 := by simp [hsW]
  have hRB : RB w2 (fun k => w1.heap.size ≤ k) (.slice A3 bn c3') (baseB M) := RB.of_R hv
  refine ⟨⟨w2.heap.size, .slice A3 bn c3', vm, ?_, .inl H.out.okp, ?_, fun _ => ?_, ?_⟩, ?_, ?_⟩
  · have h6 := (kA p hlt2).trans b5
    rw [hd] at h6
    rw [hp] at h6
    show _ = some (Obj.cells #[dp X.d, .int .i64 X.mode, dp X.l, .int .i64 X.c, .bool X.dead, .bool true, .bool X.wrote, .slice A3 bn c3', .map (some w2.heap.size), .int .i64 ((baseB M).length / 512 : Nat), vm, .int .i64 X.next, .int .i64 X.sure] _ _)
    rw [hd, hbn]
    exact h6
  · refine hRB.same (fun k hk => ?_) (fun k hk => .inr ⟨by have := hRB.1 k hk; omega, by have := hRB.lt hk; omega⟩)
    have hlt3 := hRB.lt hk
    exact (kA k hlt3).trans (hO.block k (hRB.ne h2 (fun cs e => by injection e with _ e2; cases e2) hk))
  · refine ⟨.inr ⟨by omega, by omega⟩, fun _ => none, 0, ?_, fun _ _ => rfl, fun x v hx => by cases hx⟩
    have := SMap.made Tryz.prog 3 W
    rw [hsW] at this
    exact this
  · exact (H.out.marks).other H.out.hp (fun k hok hk hkp => k1 k hk (hp ▸ hkp) (fun e => hl (e ▸ hok))) (fun k hk => .inl hk) (by omega)
  · show Tab _ _ X.l _
    rw [← hl']
    exact (k2 l (by have := ht1.lt; omega) (Ne.symm hpl)).trans ht1
  · refine ⟨?_, ?_, ?_, by rw [hsA]; omega, fun k hk hn => ?_⟩
    · exact hO.os.trans (hb.os.trans ho1.os)
    · exact hO.tape.trans (hb.tape.trans ho1.tape)
    · exact hO.output.trans (hb.output.trans ho1.output)
    · replace hn : ¬ (ok k ∨ k = X.l) := hn
      rw [← hl'] at hn
      exact k1 k hk (fun e => hn (.inl (by rw [e, hp]; exact H.out.okp))) (fun e => hn (.inr e))
end Go.Proofs.YtmdpgjdepflbmaaGreat
namespace Go.Proofs.YtmdpgjdepflbmaaGreat
open Go.RowKit Go.Maps Go.Proofs.YtmdpgjdepflbmaaGreatW.PrintWords Go.Proofs.YtmdpgjdepflbmaaGreatW.PrintLast Go.Proofs.YtmdpgjdepflbmaaGreatW.PrintMore
open Go.Proofs.YtmdpgjdepflbmaaGreat.PPagerFolds
set_option linter.unusedVariables false
set_option linter.unusedSimpArgs false

/-- connection 0 alone, at a level -/
def LK (x : Nat → Int) (v : Int) : Prop := x 0 = v ∧ x 1 = 0 ∧ x 2 = 0 ∧ x 3 = 0
theorem LK.most {x : Nat → Int} {v : Int} (h : LK x v) : most4 x 0 = 0 := by
  obtain ⟨h0, h1, h2, h3⟩ := h
  simp [most4, mstep, h0, h1, h2, h3]
theorem LK.upd {x : Nat → Int} {v : Int} (h : LK x v) (u : Int) : LK (upd x 0 u) u := by
  obtain ⟨h0, h1, h2, h3⟩ := h
  simp [LK, Go.Proofs.YtmdpgjdepflbmaaGreat.upd, h1, h2, h3]
theorem LK.raise {x : Nat → Int} {v level : Int} (h : LK x v) (hl : level = 1 ∨ level = 2 ∨ level = 4) (h0 : level = 1 ∨ (level = 2 ∧ 1 ≤ v) ∨ (level = 4 ∧ 2 ≤ v)) : rE x (0 : Nat) level = 0 ∧ LK (rX x (0 : Nat) level) (if v < level then level else v) := by
  have hm := h.most
  have hx : x 0 = v := h.1
  unfold rE rX
  rw [if_pos ⟨by omega, hl⟩, if_pos ⟨by omega, hl⟩]
  have hz : ((0 : Nat) : Int).toNat = 0 := rfl
  rw [hz, show ((0 : Nat) : Int) = 0 from rfl, hm, hx]
  refine ⟨?_, ?_⟩
  · unfold raiseE
    rcases hl with rfl | rfl | rfl <;> simp <;> omega
  · have : raiseL v 0 level = if v < level then level else v := by
      unfold raiseL
      rcases hl with rfl | rfl | rfl <;> simp <;> omega
    rw [this]
    exact h.upd _
theorem LK.lower {x : Nat → Int} {v : Int} (h : LK x v) (hv : 0 ≤ v) : LK (lX x (0 : Nat) 0) 0 := by
  unfold lX
  rw [if_pos ⟨by omega, .inl rfl⟩]
  have hx : x 0 = v := h.1
  have hz : ((0 : Nat) : Int).toNat = 0 := rfl
  rw [hz, hx]
  have : (if (0 : Int) < v then (0 : Int) else v) = 0 := by split <;> omega
  rw [this]
  exact h.upd _

/-- a pager alone: its blocks, its disk, its locks, apart -/
def Sys (w : World) (X : PG) (M : DM) (ok : Nat → Prop) : Prop :=
  ∃ (okP okD : Nat → Prop) (x : Nat → Int) (v : Int), PgAt w X okP ∧ DiskAt w X.d M okD ∧ Tab 108 w X.l x ∧ LK x v ∧ (∀ k, okP k → ok k ∧ k ≠ X.l ∧ ¬ okD k ∧ k < w.heap.size) ∧ (∀ k, okD k → ok k ∧ k ≠ X.l ∧ k < w.heap.size) ∧ ok X.l ∧ X.c = 0 ∧
    (X.inn = false → v = 0) ∧ (X.inn = true → v = 1 ∨ v = 2) ∧ (X.wrote = true → v = 2)
abbrev Grow (w : World) (ok : Nat → Prop) (w' : World) : Nat → Prop := fun k => ok k ∨ (w.heap.size ≤ k ∧ k < w'.heap.size)
def SLeft (w : World) (X : PG) (M : DM) (ok : Nat → Prop) (w' : World) : Prop := Sys w' X M (Grow w ok w') ∧ Fr ok w w'

section
variable {w w' : World} {X : PG} {M : DM} {ok ok' : Nat → Prop}
theorem Sys.move (h : Sys w X M ok) (hs : w.heap.size ≤ w'.heap.size) (hm : ∀ k, ok k → k < w.heap.size → w'.heap[k]? = w.heap[k]?) : Sys w' X M ok := by
  obtain ⟨okP, okD, x, v, h1, h2, h3, h4, h5, h6, h7, h8⟩ := h
  exact ⟨okP, okD, x, v, h1.move (fun k hk hl => hm k (h5 k hk).1 hl), h2.move (fun k hk hl => hm k (h6 k hk).1 hl), (hm _ h7 h3.lt).trans h3, h4, fun k hk => ⟨(h5 k hk).1, (h5 k hk).2.1, (h5 k hk).2.2.1, Nat.lt_of_lt_of_le (h5 k hk).2.2.2 hs⟩, fun k hk => ⟨(h6 k hk).1, (h6 k hk).2.1, Nat.lt_of_lt_of_le (h6 k hk).2.2 hs⟩, h7, h8⟩
theorem Sys.mono (h : Sys w X M ok) (hk : ∀ k, ok k → ok' k) : Sys w X M ok' := by
  obtain ⟨okP, okD, x, v, h1, h2, h3, h4, h5, h6, h7, h8⟩ := h
  exact ⟨okP, okD, x, v, h1, h2, h3, h4, fun k h => ⟨hk k (h5 k h).1, (h5 k h).2⟩, fun k h => ⟨hk k (h6 k h).1, (h6 k h).2⟩, hk _ h7, h8⟩
theorem Sys.pg (h : Sys w X M ok) : PgAt w X ok := by
  obtain ⟨okP, okD, x, v, h1, h2, h3, h4, h5, h6, h7, h8⟩ := h
  exact h1.mono (fun k hk => (h5 k hk).1)
theorem Sys.below (h : Sys w X M ok) (hb : Below w.heap.size w w') : Sys w' X M ok := h.move hb.size (fun k _ hk => hb.block k hk)
end

/-- a page is written -/
theorem s_write {w : World} {X : PG} {M : DM} {ok : Nat → Prop} (h : Sys w X M ok) (n : Int) (hd : X.dead = false) (hi : X.inn = true) (h0 : 0 ≤ n) (h1 : n < 4096)
    {A : Option Addr} {cb : Nat} {bs : Bytes} (hC : U8.C w A 512 bs) (hA : ∀ ad, A = some ad → ¬ ok ad.block ∧ ad.block < w.heap.size) :
    Calls Tryz.prog 20 #[dp X.p, .int .i64 n, .slice A 512 cb] w fun e w' => e = .returned (.int .i64 0) ∧ SLeft w (X.put n bs) M ok w' := by
  obtain ⟨okP, okD, x, v, hP, hD, hT, hL, h5, h6, h7, hc, hv0, hv1, hv2⟩ := h
  have hv := hv1 hi
  have hR := hL.raise (level := 2) (by omega) (by omega)
  rw [← hc] at hR
  refine (pwrite_in hP hT (fun hk => (h5 _ hk).2.1 rfl) n hd hi h0 h1 hR.1 hC (fun ad e => ⟨fun hk => (hA ad e).1 (h5 _ hk).1, fun e2 => (hA ad e).1 (e2 ▸ h7), (hA ad e).2⟩)).mono ?_
  rintro e w' ⟨rfl, hP', hT', hF⟩
  refine ⟨rfl, ⟨_, okD, _, _, hP', hD.move (fun k hk hlt => hF.block k hlt (fun h => h.elim (fun h => (h5 k h).2.2.1 hk) (fun h => (h6 k hk).2.1 h))), hT', hR.2, fun k hk => ?_, fun k hk => ⟨.inl (h6 k hk).1, (h6 k hk).2.1, Nat.lt_of_lt_of_le (h6 k hk).2.2 hF.size⟩, .inl h7, hc, fun h => ?_, fun _ => ?_, fun _ => ?_⟩, hF.wide (fun k _ hk => hk.elim (fun h => (h5 k h).1) (fun h => h ▸ h7))⟩
  · rcases hk with hk | hk
    · exact ⟨.inl (h5 k hk).1, (h5 k hk).2.1, (h5 k hk).2.2.1, Nat.lt_of_lt_of_le (h5 k hk).2.2.2 hF.size⟩
    · refine ⟨.inr hk, fun e => ?_, fun hk2 => ?_, hk.2⟩
      · have := hT.lt
        rw [e] at hk
        exact absurd this (by have := hk.1; show ¬ X.l < _; exact Nat.not_lt.2 this)
      · have := (h6 k hk2).2.2
        omega
  · exact absurd (show X.inn = false from h) (by rw [hi]; decide)
  · right; split <;> omega
  · split <;> omega

/-- a transaction begins -/
theorem s_begin {w : World} {X : PG} {M : DM} {ok : Nat → Prop} (h : Sys w X M ok) (hq : JQ M) (hmode : X.mode = 1) (hd : X.dead = false) (hi : X.inn = false) (hwr : X.wrote = false) :
    Calls Tryz.prog 19 #[dp X.p] w fun e w' => e = .returned (.int .i64 0) ∧ SLeft w (X.begun M) M ok w' := by
  obtain ⟨okP, okD, x, v, hP, hD, hT, hL, h5, h6, h7, hc, hv0, hv1, hv2⟩ := h
  have hv := hv0 hi
  have hR := hL.raise (level := 1) (by omega) (by omega)
  rw [← hc] at hR
  refine (begin_jour hP hD hq hT (fun hk => (h5 _ hk).2.1 rfl) (fun hk => (h6 _ hk).2.1 rfl) hmode hd hi hR.1).mono ?_
  rintro e w' ⟨rfl, hP', hT', hF⟩
  refine ⟨rfl, ⟨_, okD, _, _, hP', hD.move (fun k hk hlt => hF.block k hlt (fun h => h.elim (fun h => (h5 k h).2.2.1 hk) (fun h => (h6 k hk).2.1 h))), hT', hR.2, fun k hk => ?_, fun k hk => ⟨.inl (h6 k hk).1, (h6 k hk).2.1, Nat.lt_of_lt_of_le (h6 k hk).2.2 hF.size⟩, .inl h7, hc, fun h => ?_, fun _ => ?_, fun h => ?_⟩, hF.wide (fun k _ hk => hk.elim (fun h => (h5 k h).1) (fun h => h ▸ h7))⟩
  · rcases hk with hk | hk
    · exact ⟨.inl (h5 k hk).1, (h5 k hk).2.1, (h5 k hk).2.2.1, Nat.lt_of_lt_of_le (h5 k hk).2.2.2 hF.size⟩
    · refine ⟨.inr hk, fun e => ?_, fun hk2 => ?_, hk.2⟩
      · have := hT.lt
        rw [e] at hk
        exact absurd this (by have := hk.1; show ¬ X.l < _; exact Nat.not_lt.2 this)
      · have := (h6 k hk2).2.2
        omega
  · cases h
  · left; rw [hv]; rfl
  · exact absurd (show X.wrote = true from h) (by rw [hwr]; decide)

theorem num12_any (e0 : Int) (w : World) : Calls Tryz.prog 15 #[.int .i64 e0] w fun e w' => e = .returned (.int .i64 e0) ∧ w = w' := by
  go_enter Tryz.func15, Tryz.ntmps15
  go_wp2
  go_ret
  exact ⟨rfl, rfl⟩
/-- what a transaction's writes leave alone -/
def PG.core (X : PG) : PG := { X with own := fun _ => none, count := 0, wrote := false }
/-- how a transaction's pages stand to the k committed ones -/
structure TJ (k : Nat) (own : Own) (count : Int) : Prop where
  lt : ∀ n b, own n = some b → n < count
  c0 : (k : Int) ≤ count
  c1 : count ≤ 4096
  top : (k : Int) < count → (own (count - 1)).isSome = true
structure TI (X : PG) : Prop where
  was : X.was.length ≤ 2097152
  md : X.was.length % 512 = 0
  now : TJ (X.was.length / 512) X.own X.count
  wr : X.wrote = false → ∀ n, X.own n = none
  mks : ∀ m ∈ X.marks, TJ (X.was.length / 512) m.own m.count ∧ (X.wrote = false → ∀ n, m.own n = none)
theorem TI.put {X : PG} (h : TI X) (n : Int) (bs : Bytes) (h1 : n < 4096) : TI (X.put n bs) := by
  refine ⟨h.was, h.md, ⟨fun y b hy => ?_, ?_, ?_, fun hk => ?_⟩, (fun e => by cases e), fun m hm => ⟨(h.mks m hm).1, fun e => by cases e⟩⟩
  · show y < max X.count (n + 1)
    by_cases e : y = n
    · omega
    · have := h.now.lt y b (by simpa [PG.put, e] using hy)
      omega
  · show _ ≤ max X.count (n + 1)
    have := h.now.c0
    show ((X.was.length / 512 : Nat) : Int) ≤ _
    omega
  · show max X.count (n + 1) ≤ 4096
    have := h.now.c1
    omega
  · show ((if max X.count (n + 1) - 1 = n then some bs else X.own (max X.count (n + 1) - 1))).isSome = true
    by_cases e : max X.count (n + 1) - 1 = n
    · rw [if_pos e]; rfl
    · rw [if_neg e]
      have e2 : max X.count (n + 1) = X.count := by omega
      rw [e2]
      refine h.now.top ?_
      have hk' : ((X.was.length / 512 : Nat) : Int) < max X.count (n + 1) := hk
      omega
theorem TI.begun {X : PG} {M : DM} (hw : X.wrote = false) (hm : X.marks = []) (hl : (baseB M).length ≤ 2097152) (hmd : (baseB M).length % 512 = 0) : TI (X.begun M) := by
  refine ⟨hl, hmd, ⟨fun n b h => ?_, Int.le_refl _, ?_, fun h => ?_⟩, fun _ _ => rfl, fun m hm' => ?_⟩
  · cases (show (none : Option Bytes) = some b from h)
  · show (((baseB M).length / 512 : Nat) : Int) ≤ 4096
    omega
  · exact absurd h (Int.lt_irrefl _)
  · have : m ∈ X.marks := hm'
    rw [hm] at this
    cases this
/-- a file of pages: what stands on each page -/
def FAt (w : World) (g : Nat) (B : PG) (M : DM) (V : Int → Bytes) (cnt : Int) (ok : Nat → Prop) : Prop :=
  ∃ (X : PG) (ok1 : Nat → Prop), X.core = B ∧ X.view = V ∧ X.count = cnt ∧ X.inn = true ∧ X.dead = false ∧ TI X ∧ Sys w X M ok1 ∧ w.heap[g]? = some (.cells #[dp B.p] 137 (0, 0)) ∧ (∀ k, ok1 k → ok k ∧ k ≠ g) ∧ ok g
section
variable {w w' w'' : World} {g : Nat} {B : PG} {M : DM} {V : Int → Bytes} {cnt : Int} {ok ok' : Nat → Prop}
theorem FAt.move (h : FAt w g B M V cnt ok) (hs : w.heap.size ≤ w'.heap.size) (hm : ∀ k, ok k → k < w.heap.size → w'.heap[k]? = w.heap[k]?) : FAt w' g B M V cnt ok := by
  obtain ⟨X, ok1, h1, h2, h3, h4, h5, h6, h7, h8, h9, h10⟩ := h
  exact ⟨X, ok1, h1, h2, h3, h4, h5, h6, h7.move hs (fun k hk hl => hm k (h9 k hk).1 hl), (hm g h10 (heap_lt h8)).trans h8, h9, h10⟩
theorem FAt.below (h : FAt w g B M V cnt ok) (hb : Below w.heap.size w w') : FAt w' g B M V cnt ok := h.move hb.size (fun k _ hk => hb.block k hk)
end
theorem Sys.tight {w : World} {X : PG} {M : DM} {ok : Nat → Prop} (h : Sys w X M ok) : Sys w X M (fun k => ok k ∧ k < w.heap.size) := by
  obtain ⟨okP, okD, x, v, h1, h2, h3, h4, h5, h6, h7, h8⟩ := h
  exact ⟨okP, okD, x, v, h1, h2, h3, h4, fun k hk => ⟨⟨(h5 k hk).1, (h5 k hk).2.2.2⟩, (h5 k hk).2⟩, fun k hk => ⟨⟨(h6 k hk).1, (h6 k hk).2.2⟩, (h6 k hk).2⟩, ⟨h7, h3.lt⟩, h8⟩
theorem DiskAt.tight' {w : World} {d : Nat} {M : DM} {ok : Nat → Prop} (h : DiskAt w d M ok) : DiskAt w d M (fun k => ok k ∧ k < w.heap.size) := by
  obtain ⟨bf, bt, blk, sv, ev, sz, h⟩ := h
  exact ⟨bf, bt, blk, sv, ev, sz, h.hd, h.hf, h.ht, h.dom, fun x g f h1 h2 => ⟨(h.file x g f h1 h2).1, ((h.file x g f h1 h2).2.1).same (fun _ _ => rfl) (fun k hk => ⟨(h.file x g f h1 h2).2.1.1 k hk, (h.file x g f h1 h2).2.1.lt hk⟩), ((h.file x g f h1 h2).2.2).same (fun _ _ => rfl) (fun k hk => ⟨(h.file x g f h1 h2).2.2.1 k hk, (h.file x g f h1 h2).2.2.lt hk⟩)⟩, h.inj, h.apart, h.ne, ⟨h.okd, h.lt⟩, ⟨h.okf, h.hf.lt⟩, ⟨h.okt, h.ht.lt⟩, fun x g hx => ⟨h.okb x g hx, by
    obtain ⟨f, hf⟩ := Option.isSome_iff_exists.1 (show (M.fs x).isSome = true from by rw [← h.dom x, hx]; rfl)
    exact heap_lt (h.file x g f hx hf).1⟩⟩
end Go.Proofs.YtmdpgjdepflbmaaGreat

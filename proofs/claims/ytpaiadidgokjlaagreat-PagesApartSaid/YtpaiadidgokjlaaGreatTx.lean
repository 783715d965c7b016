/-
  What a pager is in memory: a struct, a map of pages that were written, the committed bytes, marks; and how it goes on.
-/
import Derived.Test.YtpaiadidgokjlaaGreatSMap
import Derived.Test.YtpaiadidgokjlaaGreatTurnB
import Derived.Test.YtpaiadidgokjlaaGreatLock
import Derived.Test.YtpaiadidgokjlaaGreatPPagesModelx4
namespace Go.Proofs.YtpaiadidgokjlaaGreat
open Go.RowKit Go.Maps Go.Proofs.YtpaiadidgokjlaaGreatW.PrintWords Go.Proofs.YtpaiadidgokjlaaGreatW.PrintLast Go.Proofs.YtpaiadidgokjlaaGreatW.PrintMore
open Go.Proofs.YtpaiadidgokjlaaGreat.PPagesModel
set_option linter.unusedVariables false
set_option linter.unusedSimpArgs false

abbrev Own := Int → Option Bytes
/-- a mark: its number, the pages written then, how many there were -/
structure Mk where
  n : Int
  own : Own
  count : Int
/-- a pager -/
structure PG where
  p : Nat
  d : Nat
  l : Nat
  mode : Int
  c : Nat
  dead : Bool
  inn : Bool
  wrote : Bool
  was : Bytes
  own : Own
  count : Int
  marks : List Mk
  next : Int
  sure : Int

abbrev dp (k : Nat) : Value := .pointer (some ⟨k, 0, none⟩)

/-- block b holds written pages -/
def OwnAt (w : World) (ok : Nat → Prop) (b : Nat) (own : Own) : Prop :=
  ok b ∧ ∃ f sz, SMap Tryz.prog 3 w b f sz ∧ (∀ x, f x = none → own x = none) ∧ ∀ x v, f x = some v → 0 ≤ x ∧ x < 4096 ∧ ∃ bs, own x = some bs ∧ bs.length = 512 ∧ RB w ok v bs

def mkCells : List Mk → List Nat → List Value
  | m :: ms, b :: bs => .int .i64 m.n :: .map (some b) :: .int .i64 m.count :: mkCells ms bs
  | _, _ => []
/-- a slice of marks, whose maps are apart from block bo -/
def MkAt (w : World) (ok : Nat → Prop) (bo : Nat) (v : Value) (ms : List Mk) : Prop :=
  (∀ k, v.ownBlock = some k → ok k) ∧ ∃ bs : List Nat, bs.length = ms.length ∧ w.ownsRow 0 131 3 v ms.length (mkCells ms bs) ∧ ∀ (i : Nat) (b : Nat) (m : Mk), bs[i]? = some b → ms[i]? = some m → OwnAt w ok b m.own ∧ b ≠ bo

structure PRep (w : World) (X : PG) (ok : Nat → Prop) (bo : Nat) (vw vm : Value) : Prop where
  hp : w.heap[X.p]? = some (.cells #[dp X.d, .int .i64 X.mode, dp X.l, .int .i64 X.c, .bool X.dead, .bool X.inn, .bool X.wrote, vw, .map (if X.inn then some bo else none), .int .i64 X.count, vm, .int .i64 X.next, .int .i64 X.sure] 128 (0, 0))
  okp : ok X.p
  was : RB w ok vw X.was
  own : X.inn = true → OwnAt w ok bo X.own
  marks : MkAt w ok bo vm X.marks

def PgAt (w : World) (X : PG) (ok : Nat → Prop) : Prop := ∃ bo vw vm, PRep w X ok bo vw vm

theorem own_at_heap {w w' : World} {base n size : Nat} {e : TypeId} {v : Value} {xs : List Value} (h : w.ownsRow base e size v n xs) (hm : ∀ k, v.ownBlock = some k → w'.heap[k]? = w.heap[k]?) : w'.ownsRow base e size v n xs := by
  obtain ⟨h1, h2⟩ := h
  refine ⟨h1, ?_⟩
  rcases h2 with h2 | ⟨g, cap, cur, rfl, hbg, hg, r⟩
  · exact .inl h2
  · exact .inr ⟨g, cap, cur, rfl, hbg, (hm g (by simp [Value.ownBlock])).trans hg, r⟩
section
variable {w w' : World} {ok ok' : Nat → Prop} {b bo : Nat} {own : Own} {v vw vm : Value} {ms : List Mk} {X : PG}
theorem OwnAt.lt (h : OwnAt w ok b own) : b < w.heap.size := by
  obtain ⟨_, f, sz, hm, _⟩ := h
  exact hm.lt
theorem OwnAt.move (h : OwnAt w ok b own) (hm : ∀ k, ok k → k < w.heap.size → w'.heap[k]? = w.heap[k]?) : OwnAt w' ok b own := by
  have hl := h.lt
  obtain ⟨ho, f, sz, h1, h2, h3⟩ := h
  refine ⟨ho, f, sz, h1.move (hm b ho hl), h2, fun x v hx => ?_⟩
  obtain ⟨a, b, bs, c, d, e⟩ := h3 x v hx
  exact ⟨a, b, bs, c, d, e.step hm⟩
theorem OwnAt.mono (h : OwnAt w ok b own) (hk : ∀ k, ok k → ok' k) : OwnAt w ok' b own := by
  obtain ⟨ho, f, sz, h1, h2, h3⟩ := h
  refine ⟨hk _ ho, f, sz, h1, h2, fun x v hx => ?_⟩
  obtain ⟨a, b, bs, c, d, e⟩ := h3 x v hx
  exact ⟨a, b, bs, c, d, e.mono hk⟩
theorem MkAt.move (h : MkAt w ok bo v ms) (hm : ∀ k, ok k → k < w.heap.size → w'.heap[k]? = w.heap[k]?) : MkAt w' ok bo v ms := by
  obtain ⟨h1, bs, h2, h3, h4⟩ := h
  refine ⟨h1, bs, h2, ?_, fun i b m hb hmm => ⟨(h4 i b m hb hmm).1.move hm, (h4 i b m hb hmm).2⟩⟩
  exact own_at_heap h3 (fun k hk => hm k (h1 k hk) (own_lt h3 k hk))
theorem MkAt.mono (h : MkAt w ok bo v ms) (hk : ∀ k, ok k → ok' k) : MkAt w ok' bo v ms := by
  obtain ⟨h1, bs, h2, h3, h4⟩ := h
  exact ⟨fun k hh => hk k (h1 k hh), bs, h2, h3, fun i b m hb hmm => ⟨(h4 i b m hb hmm).1.mono hk, (h4 i b m hb hmm).2⟩⟩
theorem PRep.lt (h : PRep w X ok bo vw vm) : X.p < w.heap.size := heap_lt h.hp
theorem PRep.move (h : PRep w X ok bo vw vm) (hm : ∀ k, ok k → k < w.heap.size → w'.heap[k]? = w.heap[k]?) : PRep w' X ok bo vw vm :=
  ⟨(hm _ h.okp h.lt).trans h.hp, h.okp, h.was.step hm, fun hi => (h.own hi).move hm, h.marks.move hm⟩
theorem PRep.mono (h : PRep w X ok bo vw vm) (hk : ∀ k, ok k → ok' k) : PRep w X ok' bo vw vm :=
  ⟨h.hp, hk _ h.okp, h.was.mono hk, fun hi => (h.own hi).mono hk, h.marks.mono hk⟩
theorem PRep.cell (h : PRep w X ok bo vw vm) (i : Nat) : w.cell? ⟨X.p, i, none⟩ = (#[dp X.d, .int .i64 X.mode, dp X.l, .int .i64 X.c, .bool X.dead, .bool X.inn, .bool X.wrote, vw, .map (if X.inn then some bo else none), .int .i64 X.count, vm, .int .i64 X.next, .int .i64 X.sure] : Array Value)[i]? := cell_of_row w X.p i _ 128 (0, 0) h.hp
theorem PRep.frozen (h : PRep w X ok bo vw vm) (i : Nat) : w.frozen? ⟨X.p, i, none⟩ = false := frozen_of_cells h.hp i
theorem own_ne {base n size : Nat} {e : TypeId} {v : Value} {xs : List Value} {g : Nat} {o : Obj} (h : w.ownsRow base e size v n xs) (hg : w.heap[g]? = some o) (ho : ∀ cs, o ≠ .cells cs e (0, 0)) {k : Nat} (hk : v.ownBlock = some k) : k ≠ g := by
  obtain ⟨h1, h2⟩ := h
  rcases h2 with ⟨rfl, _⟩ | ⟨g', cap, cur, rfl, hbg, hg', r⟩
  · simp [Value.ownBlock] at hk
  · have : g' = k := by simpa [Value.ownBlock] using hk
    subst this
    rintro rfl
    rw [hg] at hg'
    exact ho _ (Option.some.inj hg')
theorem RB.ne {l : Bytes} {g : Nat} {o : Obj} (h : RB w ok v l) (hg : w.heap[g]? = some o) (ho : ∀ cs, o ≠ .cells cs 5 (0, 0)) {k : Nat} (hk : v.ownBlock = some k) : k ≠ g := by
  obtain ⟨cs, hc⟩ := h.block hk
  rintro rfl
  rw [hg] at hc
  exact ho _ (Option.some.inj hc)
theorem SMap.isMap {P : Program} {K : TypeId} {f : Int → Option Value} {sz : Nat} (h : SMap P K w b f sz) : ∃ o, w.heap[b]? = some o ∧ ∀ cs t, o ≠ .cells cs t (0, 0) := by
  obtain ⟨⟨n, D, ho, _⟩, _⟩ := h
  obtain ⟨es, clock, hb, _⟩ := ho
  exact ⟨_, hb, fun cs t e => by cases e⟩
theorem PgAt.move (h : PgAt w X ok) (hm : ∀ k, ok k → k < w.heap.size → w'.heap[k]? = w.heap[k]?) : PgAt w' X ok := by
  obtain ⟨bo, vw, vm, h⟩ := h
  exact ⟨bo, vw, vm, h.move hm⟩
theorem PgAt.mono (h : PgAt w X ok) (hk : ∀ k, ok k → ok' k) : PgAt w X ok' := by
  obtain ⟨bo, vw, vm, h⟩ := h
  exact ⟨bo, vw, vm, h.mono hk⟩
theorem PgAt.lt (h : PgAt w X ok) : X.p < w.heap.size := by
  obtain ⟨bo, vw, vm, h⟩ := h
  exact h.lt
end

/-- a page as the pager sees it -/
def PG.page (X : PG) (n : Int) : Bytes := if (n + 1) * 512 ≤ (X.was.length : Int) then (X.was.drop (n.toNat * 512)).take 512 else List.replicate 512 0
def PG.view (X : PG) (n : Int) : Bytes := (X.own n).getD (X.page n)

/-! ### ask -/
def askE (X : PG) : Int := if X.dead = true then 9 else if X.inn = true then 0 else 11
theorem ask_any {w : World} {X : PG} {ok : Nat → Prop} (h : PgAt w X ok) :
    Calls Tryz.prog 85 #[dp X.p] w fun e w' => e = .returned (.int .i64 (askE X)) ∧ w = w' := by
  obtain ⟨bo, vw, vm, h⟩ := h
  have c4 := h.cell 4
  have c5 := h.cell 5
  clear h
  unfold askE
  cases hd : X.dead <;> cases hi : X.inn <;> rw [hd] at c4 <;> rw [hi] at c5 <;> clear hd hi
  all_goals
    go_enter Tryz.func85, Tryz.ntmps85
    go_wp2
    go_ret
    exact ⟨rfl, rfl⟩
end Go.Proofs.YtpaiadidgokjlaaGreat

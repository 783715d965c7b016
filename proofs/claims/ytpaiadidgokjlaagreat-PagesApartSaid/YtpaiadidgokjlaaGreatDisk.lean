/-
  A row of bytes of the call's own, or the head of one with no room behind it (b[:n:n]).
-/
import Derived.Test.YtpaiadidgokjlaaGreatStru
import Derived.Laws.CopyOwn
namespace Go.Proofs.YtpaiadidgokjlaaGreat
open Go.RowKit Go.Maps Go.Proofs.YtpaiadidgokjlaaGreatW.PrintWords Go.Proofs.YtpaiadidgokjlaaGreatW.PrintLast Go.Proofs.YtpaiadidgokjlaaGreatW.PrintMore
open Go.Proofs.YtpaiadidgokjlaaGreat.PPagesModel
set_option linter.unusedVariables false
set_option linter.unusedSimpArgs false

abbrev U8 := Kd.int .u8
abbrev Bytes := List Int

structure RB (w : World) (ok : Nat → Prop) (v : Value) (l : Bytes) : Prop where
  ok_ : ∀ k, v.ownBlock = some k → ok k
  rep : (v = .slice none 0 0 ∧ l = []) ∨ ∃ g cap cur, v = .slice (some ⟨g, 0, none⟩) l.length cap ∧ w.heap[g]? = some (.cells cur 5 (0, 0)) ∧ l.length ≤ cap ∧ cap ≤ maxLen ∧ cap ≤ cur.size ∧ (cur.size = cap ∨ cap = l.length) ∧ cur.toList.take l.length = l.map (Value.int .u8)

section
variable {w w1 : World} {ok ok1 : Nat → Prop} {v : Value} {l : Bytes}
theorem RB.of_R {b : Nat} (h : U8.R 5 w b ok v l) : RB w ok v l := by
  refine ⟨h.1, ?_⟩
  obtain ⟨h1, h2⟩ := Kd.own_of_R h
  rcases h2 with ⟨rfl, h0⟩ | ⟨g, cap, cur, rfl, hbg, hg, hnc, hmax, hcur, htake⟩
  · exact .inl ⟨rfl, List.eq_nil_of_length_eq_zero h0⟩
  · rw [Nat.mul_one] at hcur htake
    exact .inr ⟨g, cap, cur, rfl, hg, hnc, hmax, by omega, .inl hcur, htake⟩
theorem RB.nil (w : World) (ok : Nat → Prop) : RB w ok (.slice none 0 0) [] := ⟨fun k hk => by simp [Value.ownBlock] at hk, .inl ⟨rfl, rfl⟩⟩
theorem RB.block (h : RB w ok v l) {k : Nat} (hk : v.ownBlock = some k) : ∃ cs, w.heap[k]? = some (.cells cs 5 (0, 0)) := by
  rcases h.rep with ⟨rfl, rfl⟩ | ⟨g, cap, cur, rfl, hg, _⟩
  · simp [Value.ownBlock] at hk
  · have : g = k := by simpa [Value.ownBlock] using hk
    subst this
    exact ⟨cur, hg⟩
theorem RB.same (h : RB w ok v l) (hm : ∀ k, v.ownBlock = some k → w1.heap[k]? = w.heap[k]?) (hok : ∀ k, v.ownBlock = some k → ok1 k) : RB w1 ok1 v l := by
  refine ⟨hok, ?_⟩
  rcases h.rep with h | ⟨g, cap, cur, rfl, hg, r⟩
  · exact .inl h
  · exact .inr ⟨g, cap, cur, rfl, (hm g (by simp [Value.ownBlock])).trans hg, r⟩
theorem RB.mono (h : RB w ok v l) (hok : ∀ k, ok k → ok1 k) : RB w ok1 v l := ⟨fun k hk => hok k (h.1 k hk), h.rep⟩
theorem RB.lt (h : RB w ok v l) {k : Nat} (hk : v.ownBlock = some k) : k < w.heap.size := by
  obtain ⟨cs, hc⟩ := h.block hk
  exact (Array.getElem?_eq_some_iff.1 hc).1
theorem RB.bound (h : RB w ok v l) : RB w (fun k => ok k ∧ True ∧ k < w.heap.size ∧ True) v l := ⟨fun k hk => ⟨h.1 k hk, trivial, h.lt hk, trivial⟩, h.rep⟩
theorem RB.step (h : RB w ok v l) (hm : ∀ k, ok k → k < w.heap.size → w1.heap[k]? = w.heap[k]?) : RB w1 ok v l := h.same (fun k hk => hm k (h.1 k hk) (h.lt hk)) h.1
theorem RB.reads (h : RB w ok v l) : ∃ A c, v = .slice A l.length c ∧ l.length ≤ c ∧ U8.C w A l.length l := by
  rcases h.rep with ⟨rfl, rfl⟩ | ⟨g, cap, cur, rfl, hg, h1, h2, h3, _, ht⟩
  · obtain ⟨A, c, h1, h2, h3⟩ := Kd.R_reads (Kd.R_nil U8 5 w 0 (fun _ => True))
    exact ⟨A, c, h1, h2, h3⟩
  · refine ⟨some ⟨g, 0, none⟩, cap, rfl, h1, rfl, by simp only [maxLen] at h2; omega, fun _ => ⟨⟨g, 0, none⟩, rfl, fun j p hj => ⟨[Value.int .u8 p], rfl, rfl, fun i u hu => ?_⟩⟩⟩
    obtain ⟨rfl, rfl⟩ : i = 0 ∧ u = Value.int .u8 p := by
      cases i with
      | zero => simp at hu; exact ⟨rfl, hu.symm⟩
      | succ i => simp at hu
    obtain ⟨hj1, hj2⟩ := List.getElem?_eq_some_iff.1 hj
    have e : ((⟨g, 0, none⟩ : Addr).add (j * U8.sz + 0)) = ⟨g, j, none⟩ := by simp [Addr.add, Kd.int, Kd.scalar]; intro h; exact h.symm
    rw [e, cell_of_row w g j cur 5 (0, 0) hg]
    have h4 := congrArg (fun x => x[j]?) ht
    simp only [List.getElem?_take, hj1, if_true, List.getElem?_map, hj, Option.map_some] at h4
    rw [← h4]; simp
theorem RB.slice (h : RB w ok v l) : ∃ A c, v = .slice A l.length c := by
  obtain ⟨A, c, h1, _⟩ := h.reads
  exact ⟨A, c, h1⟩
/-- it is a whole row, or has no room -/
theorem RB.cases (h : RB w ok v l) : U8.R 5 w 0 ok v l ∨ ∃ g cur, v = .slice (some ⟨g, 0, none⟩) l.length l.length ∧ w.heap[g]? = some (.cells cur 5 (0, 0)) ∧ l.length ≤ maxLen ∧ l.length ≤ cur.size ∧ cur.toList.take l.length = l.map (Value.int .u8) := by
  rcases h.rep with ⟨rfl, rfl⟩ | ⟨g, cap, cur, rfl, hg, h1, h2, h3, h4 | h4, ht⟩
  · exact .inl (Kd.R_nil _ _ _ _ _)
  · refine .inl (Kd.R_of_own ⟨by simp [encs], .inr ⟨g, cap, cur, rfl, Nat.zero_le _, hg, h1, h2, by rw [h4, Nat.mul_one], by rw [Nat.mul_one]; exact ht⟩⟩ h.1)
  · subst h4
    exact .inr ⟨g, cur, rfl, hg, h2, h3, ht⟩
/-- b[:n:n] -/
theorem RB.cut (h : RB w ok v l) (n : Nat) (hn : n ≤ l.length) : ∃ A c, v = .slice A l.length c ∧ RB w ok (.slice A n n) (l.take n) ∧ l.length ≤ c := by
  rcases h.rep with ⟨rfl, rfl⟩ | ⟨g, cap, cur, rfl, hg, h1, h2, h3, _, ht⟩
  · obtain rfl : n = 0 := by simpa using hn
    exact ⟨none, 0, rfl, RB.nil _ _, Nat.le_refl _⟩
  · have hl : (l.take n).length = n := by simp; omega
    refine ⟨_, _, rfl, ⟨fun k hk => h.1 k (by simpa [Value.ownBlock] using hk), .inr ⟨g, n, cur, by rw [hl], hg, by omega, by omega, by omega, .inr hl.symm, ?_⟩⟩, h1⟩
    rw [hl, List.map_take, ← ht, List.take_take, Nat.min_eq_left hn]
end
end Go.Proofs.YtpaiadidgokjlaaGreat

/-
  What a disk is in memory: a struct, a map of files, a map of troubles, a struct a file, a row of bytes for its safe and one for its seen bytes.
-/
namespace Go.Proofs.YtpaiadidgokjlaaGreat
open Go.RowKit Go.Maps Go.Proofs.YtpaiadidgokjlaaGreatW.PrintWords Go.Proofs.YtpaiadidgokjlaaGreatW.PrintLast Go.Proofs.YtpaiadidgokjlaaGreatW.PrintMore
open Go.WideMaps (keyOf_string_mk)
open Go.Proofs.YtpaiadidgokjlaaGreat.PPagesModel
set_option linter.unusedVariables false

/-! ### a map from numbers to numbers -/
def NMap (P : Program) (K E : TypeId) (w : World) (b : Nat) (f : Int → Int) : Prop :=
  ∃ n D, w.ownsMap (H := Unit) P K (plainElem P E) b n D ∧ ∀ x : Int, (Lit.int .i64 x).wf = true → D.atKey (.int .i64 x) (.lit (.int .i64 0)) = .lit (.int .i64 (f x))
section
variable {P : Program} {K E T : TypeId} {w w' : World} {b : Nat} {f : Int → Int}
theorem NMap.made (P : Program) (K E : TypeId) (w : World) : NMap P K E (w.alloc (.map #[] 0)) w.heap.size (fun _ => 0) := ⟨0, .map [], World.ownsMap_made _ _ _ _, fun x _ => rfl⟩
theorem NMap.move (h : NMap P K E w b f) (hb : w'.heap[b]? = w.heap[b]?) : NMap P K E w' b f := by
  obtain ⟨n, D, ho, hf⟩ := h
  exact ⟨n, D, ownsMap_at ho hb, hf⟩
theorem NMap.lt (h : NMap P K E w b f) : b < w.heap.size := by
  obtain ⟨n, D, ho, _⟩ := h
  exact ho.lt
theorem NMap.look (h : NMap P K E w b f) (hK : P.underlying K = some (.int .i64)) (hE : P.underlying E = some (.int .i64)) (hT : P.underlying T = some (.map K E)) (hz : ∀ w : World, (zeroValue E).run P w = .ok (.int .i64 0) w) {x : Int} (hx : (Lit.int .i64 x).wf = true) :
    (Instr.lookup T (.map (some b)) (.int .i64 x) false).run P w = .ok (.int .i64 (f x)) w := by
  obtain ⟨n, D, ho, hf⟩ := h
  obtain ⟨c, hrun, hat, _⟩ := ho.lookup_int (int_keyed hK) hT hE (hz w) (keyOf_int_mk hK hx)
  rw [hf x hx] at hat
  injection hat with hat
  injection hat with _ hat
  rw [hrun, hat]
theorem NMap.store (h : NMap P K E w b f) (hK : P.underlying K = some (.int .i64)) (hE : P.underlying E = some (.int .i64)) (hT : P.underlying T = some (.map K E)) {x v : Int} (hx : (Lit.int .i64 x).wf = true) (hv : (Lit.int .i64 v).wf = true) {m : Nat} (hm : ∃ D, w.ownsMap (H := Unit) P K (plainElem P E) b m D) (hn : m < maxLen) :
    ∃ w1, (Instr.mapUpdate T (.map (some b)) (.int .i64 x) (.int .i64 v)).run P w = .ok () w1 ∧ NMap P K E w1 b (fun y => if y = x then v else f y) ∧ (∃ D, w1.ownsMap (H := Unit) P K (plainElem P E) b (m + 1) D) ∧ w.mapTurned w1 b := by
  obtain ⟨n, D, ho, hf⟩ := h
  have ho' : w.ownsMap (H := Unit) P K (plainElem P E) b m D := by
    obtain ⟨D', hm⟩ := hm
    obtain ⟨es, clock, hb, F, hs, rfl⟩ := ho
    obtain ⟨es', clock', hb', F', hs', rfl⟩ := hm
    rw [hb] at hb'
    injection hb' with hb'
    injection hb' with e1 e2
    subst e1
    exact ⟨es, clock, hb, F, hs', rfl⟩
  obtain ⟨w1, hrun, ho1, ht⟩ := ho'.store (int_keyed hK) hT hn (keyOf_int_mk hK hx) (plainElem_int hE hv)
  refine ⟨w1, hrun, ⟨_, _, ho1, fun y hy => ?_⟩, ⟨_, ho1⟩, ht⟩
  by_cases e : y = x
  · subst e
    simp only [if_true]
    exact atKey_put_same ho.isMap (by simp [WideAt.IsKeyLit]) _ _
  · simp only [if_neg e]
    have e' : Lit.int .i64 y ≠ Lit.int .i64 x := fun h => e (by injection h)
    rw [atKey_put_other e']
    exact hf y hy
end

/-! ### the disk -/
abbrev Name := List UInt8
/-- what a disk is: its files (safe, seen), its troubles, its strokes, whether the power is off -/
structure DM where
  fs : Name → Option (Bytes × Bytes)
  tr : Int → Int
  st : Int
  off : Bool


structure DRep (w : World) (d : Nat) (M : DM) (ok : Nat → Prop) (bf bt : Nat) (blk : Name → Option Nat) (sv ev : Name → Value) (sz : Nat) : Prop where
  hd : w.heap[d]? = some (.cells #[.map (some bf), .map (some bt), .int .i64 M.st, .bool M.off] 172 (0, 0))
  hf : PMap Tryz.prog 9 w bf blk sz
  ht : NMap Tryz.prog 3 3 w bt M.tr
  dom : ∀ x, (blk x).isSome = (M.fs x).isSome
  file : ∀ x g f, blk x = some g → M.fs x = some f → w.heap[g]? = some (.cells #[sv x, ev x] 179 (0, 0)) ∧ RB w ok (sv x) f.1 ∧ RB w ok (ev x) f.2
  inj : ∀ x y g, blk x = some g → blk y = some g → x = y
  apart : ∀ x y gx gy k, blk x = some gx → blk y = some gy → (ev x).ownBlock = some k → (sv y).ownBlock ≠ some k ∧ (x ≠ y → (ev y).ownBlock ≠ some k)
  ne : bf ≠ bt
  okd : ok d
  okf : ok bf
  okt : ok bt
  okb : ∀ x g, blk x = some g → ok g

/-- block d of w is a disk M, all of whose blocks are ok -/
def DiskAt (w : World) (d : Nat) (M : DM) (ok : Nat → Prop) : Prop := ∃ bf bt blk sv ev sz, DRep w d M ok bf bt blk sv ev sz

section
variable {w w' : World} {d : Nat} {M : DM} {ok ok' : Nat → Prop} {bf bt : Nat} {blk : Name → Option Nat} {sv ev : Name → Value} {sz : Nat}
theorem DRep.lt (h : DRep w d M ok bf bt blk sv ev sz) : d < w.heap.size := by
  rcases Nat.lt_or_ge d w.heap.size with hlt | hge
  · exact hlt
  · have := h.hd; rw [Array.getElem?_eq_none hge] at this; cases this
theorem heap_lt {w : World} {g : Nat} {o : Obj} (h : w.heap[g]? = some o) : g < w.heap.size := (Array.getElem?_eq_some_iff.1 h).1
theorem DRep.mono (h : DRep w d M ok bf bt blk sv ev sz) (hok : ∀ k, ok k → ok' k) : DRep w d M ok' bf bt blk sv ev sz :=
  ⟨h.hd, h.hf, h.ht, h.dom, fun x g f h1 h2 => ⟨(h.file x g f h1 h2).1, RB.mono (h.file x g f h1 h2).2.1 hok, RB.mono (h.file x g f h1 h2).2.2 hok⟩, h.inj, h.apart, h.ne, hok _ h.okd, hok _ h.okf, hok _ h.okt, fun x g hx => hok _ (h.okb x g hx)⟩
theorem DRep.move (h : DRep w d M ok bf bt blk sv ev sz) (hm : ∀ k, ok k → k < w.heap.size → w'.heap[k]? = w.heap[k]?) : DRep w' d M ok bf bt blk sv ev sz where
  hd := (hm d h.okd h.lt).trans h.hd
  hf := h.hf.move (hm bf h.okf h.hf.lt)
  ht := h.ht.move (hm bt h.okt h.ht.lt)
  dom := h.dom
  file := fun x g f h1 h2 => by
    obtain ⟨a, b, c⟩ := h.file x g f h1 h2
    exact ⟨(hm g (h.okb x g h1) (heap_lt a)).trans a, RB.step b hm, RB.step c hm⟩
  inj := h.inj
  apart := h.apart
  ne := h.ne
  okd := h.okd
  okf := h.okf
  okt := h.okt
  okb := h.okb
theorem DiskAt.mono (h : DiskAt w d M ok) (hok : ∀ k, ok k → ok' k) : DiskAt w d M ok' := by
  obtain ⟨bf, bt, blk, sv, ev, sz, h⟩ := h
  exact ⟨bf, bt, blk, sv, ev, sz, h.mono hok⟩
theorem DiskAt.move (h : DiskAt w d M ok) (hm : ∀ k, ok k → k < w.heap.size → w'.heap[k]? = w.heap[k]?) : DiskAt w' d M ok := by
  obtain ⟨bf, bt, blk, sv, ev, sz, h⟩ := h
  exact ⟨bf, bt, blk, sv, ev, sz, h.move hm⟩
theorem DiskAt.lt (h : DiskAt w d M ok) : d < w.heap.size := by
  obtain ⟨bf, bt, blk, sv, ev, sz, h⟩ := h
  exact h.lt
theorem DiskAt.drew (h : DiskAt w d M ok) : DiskAt w.drew d M ok := h.move fun _ _ _ => rfl
theorem DiskAt.drewN (h : DiskAt w d M ok) (n : Nat) : DiskAt (w.drewN n) d M ok := h.move fun _ _ _ => rfl
theorem DiskAt.alloc (h : DiskAt w d M ok) (o : Obj) : DiskAt (w.alloc o) d M ok := h.move fun k _ hk => Below.heap_alloc w o k hk
theorem DiskAt.below (h : DiskAt w d M ok) (hb : Below w.heap.size w w') : DiskAt w' d M ok := h.move fun k _ hk => hb.block k hk

/-- the cells of the struct -/
theorem DRep.cell (h : DRep w d M ok bf bt blk sv ev sz) (i : Nat) : w.cell? ⟨d, i, none⟩ = (#[Value.map (some bf), .map (some bt), .int .i64 M.st, .bool M.off] : Array Value)[i]? := cell_of_row w d i _ 172 (0, 0) h.hd
theorem DRep.frozen (h : DRep w d M ok bf bt blk sv ev sz) (i : Nat) : w.frozen? ⟨d, i, none⟩ = false := by
  have := h.hd
  simp [World.frozen?, this]
end

/-! ### the facts of the types -/
theorem zero66 (w : World) : (zeroValue 176).run Tryz.prog w = .ok (.pointer none) w := by kernel_rfl
theorem zero3 (w : World) : (zeroValue 3).run Tryz.prog w = .ok (.int .i64 0) w := by kernel_rfl

theorem DRep.look {w : World} {d : Nat} {M : DM} {ok : Nat → Prop} {bf bt : Nat} {blk : Name → Option Nat} {sv ev : Name → Value} {sz : Nat} (h : DRep w d M ok bf bt blk sv ev sz) {s : ByteArray} (hs : s.size ≤ maxLen) :
    (Instr.lookup 169 (.map (some bf)) (.string s) false).run Tryz.prog w = .ok (ptrV (blk s.data.toList)) w :=
  h.hf.look Tryz.underlying9 Tryz.underlying169 zero66 hs
end Go.Proofs.YtpaiadidgokjlaaGreat

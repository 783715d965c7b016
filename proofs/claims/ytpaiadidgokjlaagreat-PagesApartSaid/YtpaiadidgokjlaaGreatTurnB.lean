/-
  How a disk's shape goes on behind what its calls do: frames, a new seen row, a new safe row, a new file, a deletion; the built-in copy into a row.
-/
import Derived.Test.YtpaiadidgokjlaaGreatRead
import Derived.Laws.CopyOwn
namespace Go.Proofs.YtpaiadidgokjlaaGreat
open Go.RowKit Go.Maps Go.Proofs.YtpaiadidgokjlaaGreatW.PrintWords Go.Proofs.YtpaiadidgokjlaaGreatW.PrintLast Go.Proofs.YtpaiadidgokjlaaGreatW.PrintMore
open Go.Proofs.YtpaiadidgokjlaaGreat.PPagesModel
set_option linter.unusedVariables false

/-- only what is ok, and what is new, has turned -/
structure Fr (ok : Nat → Prop) (w w' : World) : Prop where
  os : w'.os = w.os
  tape : w'.tape = w.tape
  output : w'.output = w.output
  size : w.heap.size ≤ w'.heap.size
  block : ∀ k, k < w.heap.size → ¬ ok k → w'.heap[k]? = w.heap[k]?
section
variable {ok ok' : Nat → Prop} {w w' w'' : World}
theorem Fr.refl (ok : Nat → Prop) (w : World) : Fr ok w w := ⟨rfl, rfl, rfl, Nat.le_refl _, fun _ _ _ => rfl⟩
theorem Fr.trans (h : Fr ok w w') (k : Fr ok' w' w'') (hs : ∀ k, ok' k → ok k ∨ w.heap.size ≤ k) : Fr ok w w'' :=
  ⟨k.os.trans h.os, k.tape.trans h.tape, k.output.trans h.output, Nat.le_trans h.size k.size, fun i hi hn => (k.block i (Nat.lt_of_lt_of_le hi h.size) (fun hk => by
    rcases hs i hk with h1 | h1
    · exact hn h1
    · omega)).trans (h.block i hi hn)⟩
theorem Fr.below {B : Nat} (h : Fr ok w w') (hB : ∀ k, ok k → B ≤ k) (hs : B ≤ w.heap.size) : Below B w w' :=
  ⟨h.os, h.tape, h.output, h.size, fun k hk => h.block k (by omega) (fun ho => by have := hB k ho; omega)⟩
theorem Fr.of_below (h : Below w.heap.size w w') : Fr ok w w' := ⟨h.os, h.tape, h.output, h.size, fun k hk _ => h.block k hk⟩
theorem Fr.drew (h : Fr ok w w') : Fr ok w w'.drew := ⟨h.os, h.tape, h.output, h.size, h.block⟩
theorem Fr.drewN (h : Fr ok w w') (n : Nat) : Fr ok w (w'.drewN n) := ⟨h.os, h.tape, h.output, h.size, h.block⟩
theorem Fr.alloc (h : Fr ok w w') (o : Obj) : Fr ok w (w'.alloc o) :=
  ⟨h.os, h.tape, h.output, Nat.le_trans h.size (by simp), fun k hk hn => (Below.heap_alloc _ _ _ (Nat.lt_of_lt_of_le hk h.size)).trans (h.block k hk hn)⟩
theorem Fr.set_ (h : Fr ok w w') {p : Addr} (hp : ok p.block ∨ w.heap.size ≤ p.block) (u : Value) : Fr ok w (w'.setCell p u) :=
  ⟨h.os, h.tape, h.output, by simpa [World.setCell] using h.size, fun k hk hn => (Below.heap_setCell _ _ _ _ (fun e => by
    subst e
    rcases hp with hp | hp
    · exact hn hp
    · omega)).trans (h.block k hk hn)⟩
theorem Fr.grown (h : Fr ok w w') {row : Option Nat} (hg : w'.grownBy w'' row) (hr : ∀ k, row = some k → ok k ∨ w.heap.size ≤ k) : Fr ok w w'' :=
  ⟨hg.os.trans h.os, hg.tape.trans h.tape, hg.output.trans h.output, Nat.le_trans h.size hg.size, fun k hk hn => (hg.block k (Nat.lt_of_lt_of_le hk h.size) (fun e => by
    rcases hr k e.symm with h1 | h1
    · exact hn h1
    · omega)).trans (h.block k hk hn)⟩
theorem Fr.undrawn {n : Nat} (h : Fr ok (w.drewN n) w') : Fr ok w w' := ⟨h.os, h.tape, h.output, h.size, h.block⟩
end

theorem Fr.undrew {ok : Nat → Prop} {w w' : World} (h : Fr ok w.drew w') : Fr ok w w' := ⟨h.os, h.tape, h.output, h.size, h.block⟩
theorem frozen_of_cells {w : World} {g : Nat} {cs : Array Value} {t : TypeId} (h : w.heap[g]? = some (.cells cs t (0, 0))) (i : Nat) : w.frozen? ⟨g, i, none⟩ = false := by simp [World.frozen?, h]

/-- what a call leaves of a disk -/
def Left (w : World) (d : Nat) (M' : DM) (ok : Nat → Prop) (w' : World) : Prop :=
  ∃ ok', DiskAt w' d M' ok' ∧ (∀ k, ok' k → ok k ∨ w.heap.size ≤ k) ∧ Fr ok w w'
theorem Left.same {w : World} {d : Nat} {M : DM} {ok : Nat → Prop} (h : DiskAt w d M ok) : Left w d M ok w := ⟨ok, h, fun _ hk => .inl hk, Fr.refl _ _⟩
theorem Left.drewN {w w' : World} {d : Nat} {M : DM} {ok : Nat → Prop} (h : Left w d M ok w') (n : Nat) : Left w d M ok (w'.drewN n) := by
  obtain ⟨ok', h1, h2, h3⟩ := h
  exact ⟨ok', h1.drewN n, h2, h3.drewN n⟩
theorem Left.undrawn {w w' : World} {d : Nat} {M : DM} {ok : Nat → Prop} {n : Nat} (h : Left (w.drewN n) d M ok w') : Left w d M ok w' := by
  obtain ⟨ok', h1, h2, h3⟩ := h
  exact ⟨ok', h1, h2, h3.undrawn⟩
theorem Left.trans {w w' w'' : World} {d : Nat} {M M' : DM} {ok ok' : Nat → Prop} (h2 : ∀ k, ok' k → ok k ∨ w.heap.size ≤ k) (h3 : Fr ok w w') (h : Left w' d M' ok' w'') : Left w d M' ok w'' := by
  obtain ⟨ok2, a, b, c⟩ := h
  refine ⟨ok2, a, fun k hk => ?_, h3.trans c h2⟩
  rcases b k hk with h | h
  · exact h2 k h
  · exact .inr (Nat.le_trans h3.size h)

section
variable {w w1 : World} {d : Nat} {M : DM} {ok ok' : Nat → Prop} {bf bt : Nat} {blk : Name → Option Nat} {sv ev : Name → Value} {sz : Nat}

theorem DRep.grow_ok (h : DRep w d M ok bf bt blk sv ev sz) : DRep w d M (fun k => ok k ∧ k < w.heap.size) bf bt blk sv ev sz where
  hd := h.hd
  hf := h.hf
  ht := h.ht
  dom := h.dom
  file := fun x g f h1 h2 => by
    obtain ⟨a, b, c⟩ := h.file x g f h1 h2
    exact ⟨a, RB.mono (RB.bound b) (fun k hk => ⟨hk.1, hk.2.2.1⟩), RB.mono (RB.bound c) (fun k hk => ⟨hk.1, hk.2.2.1⟩)⟩
  inj := h.inj
  apart := h.apart
  ne := h.ne
  okd := ⟨h.okd, h.lt⟩
  okf := ⟨h.okf, h.hf.lt⟩
  okt := ⟨h.okt, h.ht.lt⟩
  okb := fun x g hx => by
    obtain ⟨f, hf⟩ := Option.isSome_iff_exists.1 ((h.dom x).symm.trans (by rw [hx]; rfl))
    exact ⟨h.okb x g hx, heap_lt (h.file x g f hx hf).1⟩

/-- a map's block, a struct's, a row's: none is another one -/
theorem PMap.not_cells {P : Program} {K : TypeId} {b : Nat} {f : List UInt8 → Option Nat} (h : PMap P K w b f sz) {g : Nat} {cs : Array Value} {t : TypeId} {fr : Nat × Nat} (hg : w.heap[g]? = some (.cells cs t fr)) : b ≠ g := by
  rintro rfl
  obtain ⟨n, D, ⟨es, clock, hb, _⟩, _⟩ := h
  rw [hb] at hg; cases hg
theorem NMap.not_cells {P : Program} {K E : TypeId} {b : Nat} {f : Int → Int} (h : NMap P K E w b f) {g : Nat} {cs : Array Value} {t : TypeId} {fr : Nat × Nat} (hg : w.heap[g]? = some (.cells cs t fr)) : b ≠ g := by
  rintro rfl
  obtain ⟨n, D, ⟨es, clock, hb, _⟩, _⟩ := h
  rw [hb] at hg; cases hg
theorem cells_ne {g g' : Nat} {cs cs' : Array Value} {t t' : TypeId} {fr fr' : Nat × Nat} (h : w.heap[g]? = some (.cells cs t fr)) (h' : w.heap[g']? = some (.cells cs' t' fr')) (hne : t ≠ t') : g ≠ g' := by
  rintro rfl
  rw [h] at h'
  injection h' with h'
  injection h' with _ ht
  exact hne ht
theorem R_block {okr : Nat → Prop} {v : Value} {l : Bytes} (h : RB w okr v l) {k : Nat} (hk : v.ownBlock = some k) : ∃ cs, w.heap[k]? = some (.cells cs 5 (0, 0)) := h.block hk

/-- a row of bytes where its block is as it was -/
theorem R_same {v : Value} {l : Bytes} {ok1 : Nat → Prop} (h : RB w ok v l) (hm : ∀ k, v.ownBlock = some k → w1.heap[k]? = w.heap[k]?) (hok : ∀ k, v.ownBlock = some k → ok1 k) : RB w1 ok1 v l := h.same hm hok

/-- a file's seen bytes are others -/
theorem DRep.setSeen (h : DRep w d M ok bf bt blk sv ev sz) {x : Name} {g : Nat} {f : Bytes × Bytes} {v1 : Value} {l1 : Bytes} (hx : blk x = some g) (hfx : M.fs x = some f)
    (hg : w1.heap[g]? = some (.cells #[sv x, v1] 179 (0, 0)))
    (hk : ∀ k, ok k → k < w.heap.size → k ≠ g → (ev x).ownBlock ≠ some k → w1.heap[k]? = w.heap[k]?)
    (hR : RB w1 ok' v1 l1) (hat : ∀ b, v1.ownBlock = some b → (ev x).ownBlock = some b ∨ w.heap.size ≤ b) (hok : ∀ k, ok k → ok' k) :
    DRep w1 d { M with fs := fun y => if y = x then some (f.1, l1) else M.fs y } ok' bf bt blk sv (fun y => if y = x then v1 else ev y) sz := by
  have hgw := (h.file x g f hx hfx).1
  have hRx := (h.file x g f hx hfx).2.2
  have hrow : ∀ k, (ev x).ownBlock = some k → ∃ cs, w.heap[k]? = some (.cells cs 5 (0, 0)) := fun k hk => R_block hRx hk
  have hev : ∀ {k : Nat} {o : Obj}, w.heap[k]? = some o → (∀ cs, o ≠ .cells cs 5 (0, 0)) → (ev x).ownBlock ≠ some k := fun {k o} ho hne e => by
    obtain ⟨cs, hc⟩ := hrow k e
    rw [ho] at hc
    injection hc with hc
    exact hne cs hc
  have hmapf : ∃ es c, w.heap[bf]? = some (.map es c) := by
    obtain ⟨n, D, ⟨es, clock, hb, _⟩, _⟩ := h.hf
    exact ⟨es, clock, hb⟩
  have hmapt : ∃ es c, w.heap[bt]? = some (.map es c) := by
    obtain ⟨n, D, ⟨es, clock, hb, _⟩, _⟩ := h.ht
    exact ⟨es, clock, hb⟩
  obtain ⟨esf, cf, hmf⟩ := hmapf
  obtain ⟨est, ct, hmt⟩ := hmapt
  refine { hd := ?_, hf := ?_, ht := ?_, dom := ?_, file := ?_, inj := h.inj, apart := ?_, ne := h.ne, okd := hok _ h.okd, okf := hok _ h.okf, okt := hok _ h.okt, okb := fun y gy hy => hok _ (h.okb y gy hy) }
  · exact (hk d h.okd h.lt (cells_ne h.hd hgw (by decide)) (hev h.hd (fun cs e => by injection e with _ e; exact absurd e (by decide)))).trans h.hd
  · exact h.hf.move (hk bf h.okf h.hf.lt (h.hf.not_cells hgw) (hev hmf (fun cs e => by cases e)))
  · exact h.ht.move (hk bt h.okt h.ht.lt (h.ht.not_cells hgw) (hev hmt (fun cs e => by cases e)))
  · intro y
    by_cases e : y = x
    · subst e; simp [hx]
    · simp only [if_neg e]; exact h.dom y
  · intro y gy fy hy hfy
    by_cases e : y = x
    · subst e
      obtain rfl : g = gy := by rw [hx] at hy; exact Option.some.inj hy
      simp only [if_true] at hfy ⊢
      obtain rfl := Option.some.inj hfy
      refine ⟨hg, R_same (h.file y g f hx hfx).2.1 (fun k hkk => ?_) (fun k hkk => hok k ((h.file y g f hx hfx).2.1.1 k hkk)), hR⟩
      obtain ⟨cs, hcs⟩ := R_block (h.file y g f hx hfx).2.1 hkk
      exact hk k ((h.file y g f hx hfx).2.1.1 k hkk) (heap_lt hcs) (cells_ne hcs hgw (by decide)) (fun e => (h.apart y y g g k hx hx e).1 hkk)
    · simp only [if_neg e] at hfy ⊢
      obtain ⟨a, b, c⟩ := h.file y gy fy hy hfy
      have hne : gy ≠ g := fun e2 => e (h.inj y x g (by rw [← e2]; exact hy) hx)
      refine ⟨(hk gy (h.okb y gy hy) (heap_lt a) hne (hev a (fun cs e => by injection e with _ e; exact absurd e (by decide)))).trans a, R_same b (fun k hkk => ?_) (fun k hkk => hok k (b.1 k hkk)), R_same c (fun k hkk => ?_) (fun k hkk => hok k (c.1 k hkk))⟩
      · obtain ⟨cs, hcs⟩ := R_block b hkk
        exact hk k (b.1 k hkk) (heap_lt hcs) (cells_ne hcs hgw (by decide)) (fun e3 => (h.apart x y g gy k hx hy e3).1 hkk)
      · obtain ⟨cs, hcs⟩ := R_block c hkk
        exact hk k (c.1 k hkk) (heap_lt hcs) (cells_ne hcs hgw (by decide)) (fun e3 => (h.apart x y g gy k hx hy e3).2 (Ne.symm e) hkk)
  · intro y z gy gz k hy hz hown
    have hbig : ∀ y gy, blk y = some gy → ∀ k, ((sv y).ownBlock = some k ∨ (ev y).ownBlock = some k) → k < w.heap.size := by
      intro y gy hy k hkk
      obtain ⟨fy, hfy⟩ := Option.isSome_iff_exists.1 ((h.dom y).symm.trans (by rw [hy]; rfl))
      obtain ⟨_, b, c⟩ := h.file y gy fy hy hfy
      rcases hkk with hkk | hkk
      · obtain ⟨cs, hcs⟩ := R_block b hkk; exact heap_lt hcs
      · obtain ⟨cs, hcs⟩ := R_block c hkk; exact heap_lt hcs
    by_cases ey : y = x
    · subst ey
      simp only [if_true] at hown
      rcases hat k hown with hat | hb2
      · refine ⟨(h.apart y z gy gz k hy hz hat).1, fun hne => ?_⟩
        rw [if_neg (Ne.symm hne)]
        exact (h.apart y z gy gz k hy hz hat).2 hne
      · refine ⟨fun e => ?_, fun hne => ?_⟩
        · have := hbig z gz hz k (.inl e); omega
        · rw [if_neg (Ne.symm hne)]
          intro e
          have := hbig z gz hz k (.inr e); omega
    · simp only [if_neg ey] at hown
      refine ⟨(h.apart y z gy gz k hy hz hown).1, fun hne => ?_⟩
      by_cases ez : z = x
      · subst ez
        simp only [if_true]
        intro e
        rcases hat k e with hat | hb2
        · exact (h.apart y z gy gz k hy hz hown).2 hne hat
        · have := hbig y gy hy k (.inr hown); omega
      · simp only [if_neg ez]
        exact (h.apart y z gy gz k hy hz hown).2 hne
end
end Go.Proofs.YtpaiadidgokjlaaGreat

/-
  How a disk's shape goes on, the other ways: the struct's numbers, a safe row, a new file, a deletion; the built-in copy into a row.
-/
namespace Go.Proofs.YtpaiadidgokjlaaGreat
open Go.RowKit Go.Maps Go.Proofs.YtpaiadidgokjlaaGreatW.PrintWords Go.Proofs.YtpaiadidgokjlaaGreatW.PrintLast Go.Proofs.YtpaiadidgokjlaaGreatW.PrintMore
open Go.Proofs.YtpaiadidgokjlaaGreat.PPagesModel
set_option linter.unusedVariables false

section
variable {w w1 : World} {d : Nat} {M : DM} {ok ok' : Nat → Prop} {bf bt : Nat} {blk : Name → Option Nat} {sv ev : Name → Value} {sz : Nat}

theorem DRep.row_lt (h : DRep w d M ok bf bt blk sv ev sz) {y : Name} {gy k : Nat} (hy : blk y = some gy) (hk : (sv y).ownBlock = some k ∨ (ev y).ownBlock = some k) : k < w.heap.size := by
  obtain ⟨fy, hfy⟩ := Option.isSome_iff_exists.1 ((h.dom y).symm.trans (by rw [hy]; rfl))
  obtain ⟨_, b, c⟩ := h.file y gy fy hy hfy
  rcases hk with hkk | hkk
  · obtain ⟨cs, hcs⟩ := R_block b hkk; exact heap_lt hcs
  · obtain ⟨cs, hcs⟩ := R_block c hkk; exact heap_lt hcs

/-- the struct's numbers are others -/
theorem DRep.setHead (h : DRep w d M ok bf bt blk sv ev sz) {st : Int} {off : Bool} (hd : w1.heap[d]? = some (.cells #[.map (some bf), .map (some bt), .int .i64 st, .bool off] 172 (0, 0)))
    (hk : ∀ k, ok k → k < w.heap.size → k ≠ d → w1.heap[k]? = w.heap[k]?) : DRep w1 d { M with st := st, off := off } ok bf bt blk sv ev sz where
  hd := hd
  hf := h.hf.move (hk bf h.okf h.hf.lt (h.hf.not_cells h.hd))
  ht := h.ht.move (hk bt h.okt h.ht.lt (h.ht.not_cells h.hd))
  dom := h.dom
  file := fun x g f h1 h2 => by
    obtain ⟨a, b, c⟩ := h.file x g f h1 h2
    refine ⟨(hk g (h.okb x g h1) (heap_lt a) (cells_ne a h.hd (by decide))).trans a, R_same b (fun k hkk => ?_) b.1, R_same c (fun k hkk => ?_) c.1⟩
    · obtain ⟨cs, hcs⟩ := R_block b hkk
      exact hk k (b.1 k hkk) (heap_lt hcs) (cells_ne hcs h.hd (by decide))
    · obtain ⟨cs, hcs⟩ := R_block c hkk
      exact hk k (c.1 k hkk) (heap_lt hcs) (cells_ne hcs h.hd (by decide))
  inj := h.inj
  apart := h.apart
  ne := h.ne
  okd := h.okd
  okf := h.okf
  okt := h.okt
  okb := h.okb

theorem DRep.setHeadCell (h : DRep w d M ok bf bt blk sv ev sz) (st : Int) : DRep (w.setCell ⟨d, 2, none⟩ (.int .i64 st)) d { M with st := st } ok bf bt blk sv ev sz :=
  h.setHead (by have := h.hd; simp [World.setCell, Array.getElem?_modify, this]) (fun k _ _ hne => Below.heap_setCell _ _ _ _ hne)
theorem DRep.setOff (h : DRep w d M ok bf bt blk sv ev sz) (b : Bool) : DRep (w.setCell ⟨d, 3, none⟩ (.bool b)) d { M with off := b } ok bf bt blk sv ev sz :=
  h.setHead (by have := h.hd; simp [World.setCell, Array.getElem?_modify, this]) (fun k _ _ hne => Below.heap_setCell _ _ _ _ hne)

/-- a file's safe bytes are others: a new row -/
theorem DRep.setSafe (h : DRep w d M ok bf bt blk sv ev sz) {x : Name} {g : Nat} {f : Bytes × Bytes} {v1 : Value} {l1 : Bytes} (hx : blk x = some g) (hfx : M.fs x = some f)
    (hg : w1.heap[g]? = some (.cells #[v1, ev x] 179 (0, 0))) (hk : ∀ k, ok k → k < w.heap.size → k ≠ g → w1.heap[k]? = w.heap[k]?)
    (hR : RB w1 ok' v1 l1) (hat : ∀ b, v1.ownBlock = some b → w.heap.size ≤ b) (hok : ∀ k, ok k → ok' k) :
    DRep w1 d { M with fs := fun y => if y = x then some (l1, f.2) else M.fs y } ok' bf bt blk (fun y => if y = x then v1 else sv y) ev sz := by
  have hgw := (h.file x g f hx hfx).1
  refine { hd := ?_, hf := ?_, ht := ?_, dom := ?_, file := ?_, inj := h.inj, apart := ?_, ne := h.ne, okd := hok _ h.okd, okf := hok _ h.okf, okt := hok _ h.okt, okb := fun y gy hy => hok _ (h.okb y gy hy) }
  · exact (hk d h.okd h.lt (cells_ne h.hd hgw (by decide))).trans h.hd
  · exact h.hf.move (hk bf h.okf h.hf.lt (h.hf.not_cells hgw))
  · exact h.ht.move (hk bt h.okt h.ht.lt (h.ht.not_cells hgw))
  · intro y
    by_cases e : y = x
    · subst e; simp [hx]
    · simp only [if_neg e]; exact h.dom y
  · intro y gy fy hy hfy
    by_cases e : y = x
    · subst e
      obtain rfl : g = gy := by rw [hx] at hy; exact Option.some.inj hy
      simp only [if_true] at hfy ⊢
      obtain rfl := Option.some.inj hfy
      have c := (h.file y g f hx hfx).2.2
      refine ⟨hg, hR, R_same c (fun k hkk => ?_) (fun k hkk => hok k (c.1 k hkk))⟩
      obtain ⟨cs, hcs⟩ := R_block c hkk
      exact hk k (c.1 k hkk) (heap_lt hcs) (cells_ne hcs hgw (by decide))
    · simp only [if_neg e] at hfy ⊢
      obtain ⟨a, b, c⟩ := h.file y gy fy hy hfy
      have hne : gy ≠ g := fun e2 => e (h.inj y x g (by rw [← e2]; exact hy) hx)
      refine ⟨(hk gy (h.okb y gy hy) (heap_lt a) hne).trans a, R_same b (fun k hkk => ?_) (fun k hkk => hok k (b.1 k hkk)), R_same c (fun k hkk => ?_) (fun k hkk => hok k (c.1 k hkk))⟩
      · obtain ⟨cs, hcs⟩ := R_block b hkk
        exact hk k (b.1 k hkk) (heap_lt hcs) (cells_ne hcs hgw (by decide))
      · obtain ⟨cs, hcs⟩ := R_block c hkk
        exact hk k (c.1 k hkk) (heap_lt hcs) (cells_ne hcs hgw (by decide))
  · intro y z gy gz k hy hz hown
    refine ⟨?_, (h.apart y z gy gz k hy hz hown).2⟩
    by_cases ez : z = x
    · subst ez
      simp only [if_true]
      intro e
      have := hat k e
      have := h.row_lt hy (.inr hown)
      omega
    · simp only [if_neg ez]; exact (h.apart y z gy gz k hy hz hown).1

/-- a new file, of no bytes -/
theorem DRep.insert (h : DRep w d M ok bf bt blk sv ev sz) {x : Name} {g : Nat} {sz' : Nat} (hx : M.fs x = none)
    (hP : PMap Tryz.prog 9 w1 bf (fun y => if y = x then some g else blk y) sz') (hg : w1.heap[g]? = some (.cells #[.slice none 0 0, .slice none 0 0] 179 (0, 0))) (hgs : w.heap.size ≤ g)
    (hk : ∀ k, ok k → k < w.heap.size → k ≠ bf → w1.heap[k]? = w.heap[k]?) (hok : ∀ k, ok k → ok' k) (hokg : ok' g) :
    DRep w1 d { M with fs := fun y => if y = x then some ([], []) else M.fs y } ok' bf bt (fun y => if y = x then some g else blk y) (fun y => if y = x then .slice none 0 0 else sv y) (fun y => if y = x then .slice none 0 0 else ev y) sz' := by
  have hbx : blk x = none := h.none_ hx
  refine { hd := ?_, hf := hP, ht := ?_, dom := ?_, file := ?_, inj := ?_, apart := ?_, ne := h.ne, okd := hok _ h.okd, okf := hok _ h.okf, okt := hok _ h.okt, okb := ?_ }
  · exact (hk d h.okd h.lt (Ne.symm (h.hf.not_cells h.hd))).trans h.hd
  · exact h.ht.move (hk bt h.okt h.ht.lt (Ne.symm h.ne))
  · intro y
    by_cases e : y = x
    · subst e; simp
    · simp only [if_neg e]; exact h.dom y
  · intro y gy fy hy hfy
    by_cases e : y = x
    · subst e
      simp only [if_true] at hy hfy ⊢
      obtain rfl := Option.some.inj hy
      obtain rfl := Option.some.inj hfy
      exact ⟨hg, RB.nil _ _, RB.nil _ _⟩
    · simp only [if_neg e] at hy hfy ⊢
      obtain ⟨a, b, c⟩ := h.file y gy fy hy hfy
      refine ⟨(hk gy (h.okb y gy hy) (heap_lt a) (Ne.symm (h.hf.not_cells a))).trans a, R_same b (fun k hkk => ?_) (fun k hkk => hok k (b.1 k hkk)), R_same c (fun k hkk => ?_) (fun k hkk => hok k (c.1 k hkk))⟩
      · obtain ⟨cs, hcs⟩ := R_block b hkk
        exact hk k (b.1 k hkk) (heap_lt hcs) (Ne.symm (h.hf.not_cells hcs))
      · obtain ⟨cs, hcs⟩ := R_block c hkk
        exact hk k (c.1 k hkk) (heap_lt hcs) (Ne.symm (h.hf.not_cells hcs))
  · intro y z gz hy hz
    have hsmall : ∀ y gy, blk y = some gy → gy < w.heap.size := by
      intro y gy hy
      obtain ⟨fy, hfy⟩ := Option.isSome_iff_exists.1 ((h.dom y).symm.trans (by rw [hy]; rfl))
      exact heap_lt (h.file y gy fy hy hfy).1
    by_cases ey : y = x
    · by_cases ez : z = x
      · rw [ey, ez]
      · simp only [if_pos ey] at hy
        simp only [if_neg ez] at hz
        obtain rfl := Option.some.inj hy
        have := hsmall z _ hz; omega
    · by_cases ez : z = x
      · simp only [if_neg ey] at hy
        simp only [if_pos ez] at hz
        obtain rfl := Option.some.inj hz
        have := hsmall y _ hy; omega
      · simp only [if_neg ey] at hy
        simp only [if_neg ez] at hz
        exact h.inj y z gz hy hz
  · intro y z gy gz k hy hz hown
    by_cases ey : y = x
    · simp only [if_pos ey] at hown
      simp [Value.ownBlock] at hown
    · simp only [if_neg ey] at hy hown
      by_cases ez : z = x
      · simp only [if_pos ez]
        exact ⟨by simp [Value.ownBlock], fun _ => by simp [Value.ownBlock]⟩
      · simp only [if_neg ez] at hz ⊢
        exact h.apart y z gy gz k hy hz hown
  · intro y gy hy
    by_cases ey : y = x
    · simp only [if_pos ey] at hy
      obtain rfl := Option.some.inj hy
      exact hokg
    · simp only [if_neg ey] at hy
      exact hok _ (h.okb y gy hy)

/-- a file is gone -/
theorem DRep.delete (h : DRep w d M ok bf bt blk sv ev sz) {x : Name} {sz' : Nat} (hP : PMap Tryz.prog 9 w1 bf (fun y => if y = x then none else blk y) sz')
    (hk : ∀ k, ok k → k < w.heap.size → k ≠ bf → w1.heap[k]? = w.heap[k]?) :
    DRep w1 d { M with fs := fun y => if y = x then none else M.fs y } ok bf bt (fun y => if y = x then none else blk y) sv ev sz' := by
  refine { hd := ?_, hf := hP, ht := ?_, dom := ?_, file := ?_, inj := ?_, apart := ?_, ne := h.ne, okd := h.okd, okf := h.okf, okt := h.okt, okb := ?_ }
  · exact (hk d h.okd h.lt (Ne.symm (h.hf.not_cells h.hd))).trans h.hd
  · exact h.ht.move (hk bt h.okt h.ht.lt (Ne.symm h.ne))
  · intro y
    by_cases e : y = x
    · subst e; simp
    · simp only [if_neg e]; exact h.dom y
  · intro y gy fy hy hfy
    by_cases e : y = x
    · simp only [if_pos e] at hy; cases hy
    · simp only [if_neg e] at hy hfy
      obtain ⟨a, b, c⟩ := h.file y gy fy hy hfy
      refine ⟨(hk gy (h.okb y gy hy) (heap_lt a) (Ne.symm (h.hf.not_cells a))).trans a, R_same b (fun k hkk => ?_) b.1, R_same c (fun k hkk => ?_) c.1⟩
      · obtain ⟨cs, hcs⟩ := R_block b hkk
        exact hk k (b.1 k hkk) (heap_lt hcs) (Ne.symm (h.hf.not_cells hcs))
      · obtain ⟨cs, hcs⟩ := R_block c hkk
        exact hk k (c.1 k hkk) (heap_lt hcs) (Ne.symm (h.hf.not_cells hcs))
  · intro y z gz hy hz
    by_cases ey : y = x
    · simp only [if_pos ey] at hy; cases hy
    · by_cases ez : z = x
      · simp only [if_pos ez] at hz; cases hz
      · simp only [if_neg ey] at hy
        simp only [if_neg ez] at hz
        exact h.inj y z gz hy hz
  · intro y z gy gz k hy hz hown
    by_cases ey : y = x
    · simp only [if_pos ey] at hy; cases hy
    · by_cases ez : z = x
      · simp only [if_pos ez] at hz; cases hz
      · simp only [if_neg ey] at hy
        simp only [if_neg ez] at hz
        exact h.apart y z gy gz k hy hz hown
  · intro y gy hy
    by_cases ey : y = x
    · simp only [if_pos ey] at hy; cases hy
    · simp only [if_neg ey] at hy
      exact h.okb y gy hy
end

/-! ### copy into a row -/
theorem enc_u8 (xs : Bytes) : encs (Value.int .u8) xs = xs.map (Value.int .u8) := rfl
theorem C_cells {w : World} {A : Option Addr} {n : Nat} {b : Bytes} (h : U8.C w A n b) (hn : 0 < n) : ∃ ad, A = some ad ∧ ∀ j v, (b.map (Value.int .u8))[j]? = some v → w.cell? (ad.add j) = some v := by
  obtain ⟨ad, rfl, hc⟩ := h.2.2 hn
  refine ⟨ad, rfl, fun j v hj => ?_⟩
  rw [List.getElem?_map] at hj
  obtain ⟨p, hp, rfl⟩ := Option.map_eq_some_iff.1 hj
  obtain ⟨c, hl, hK, hcell⟩ := hc j p hp
  have hK' : c = [Value.int .u8 p] := hK
  subst hK'
  have := hcell 0 _ rfl
  simpa [Kd.int, Kd.scalar] using this

theorem take_splice (cur : List Value) (xs b : Bytes) (k nb : Nat) (hbl : b.length = nb) (hc : xs.length ≤ cur.length) (hfit : k + nb ≤ xs.length) (e : cur.take xs.length = xs.map (Value.int .u8)) :
    (cur.take k ++ b.map (Value.int .u8) ++ cur.drop (k + nb)).toArray.toList.take xs.length = encs (Value.int .u8) (splice xs k b) := by
  have e1 : encs (Value.int .u8) (splice xs k b) = (xs.map (Value.int .u8)).take k ++ (b.map (Value.int .u8) ++ (xs.map (Value.int .u8)).drop (k + nb)) := by
    simp [encs, splice, hbl]
  rw [e1, ← e, List.take_take, Nat.min_eq_left (by omega), List.drop_take]
  show List.take xs.length (cur.take k ++ b.map (Value.int .u8) ++ cur.drop (k + nb)) = _
  have l1 : (cur.take k ++ b.map (Value.int .u8)).length = k + nb := by simp [hbl]; omega
  rw [List.take_append, l1, List.take_of_length_le (by omega), List.append_assoc]

/-- copy(v[k:], b), b not empty, within v -/
theorem copyB {w : World} {ok : Nat → Prop} {v : Value} {xs b : Bytes} {Ab : Option Addr} {nb cb : Nat} (hR : RB w ok v xs) (k : Nat) (hC : U8.C w Ab nb b) (hb : 0 < nb) (hfit : k + nb ≤ xs.length) :
    ∃ A' m c' w1, (∀ W : World, (Instr.slice 35 v (some (.int .i64 k)) none none).run Tryz.prog W = .ok (.slice A' m c') W) ∧
      (∀ nq ty, (Builtin.copy_ #[35, 35] ty #[.slice A' m c', .slice Ab nb cb]).run Tryz.prog (w.drewN nq) = .ok (.int .i64 nb) (World.drewN w1 nq)) ∧
      RB w1 ok v (splice xs k b) ∧ w.grownBy w1 v.ownBlock := by
  obtain ⟨i5, hi, hz⟩ := Option.map_eq_some_iff.1 info5
  simp only [Prod.mk.injEq] at hz
  rcases hR.rep with ⟨rfl, rfl⟩ | ⟨g, cap, cur, rfl, hg, hnc, hmax, hcur, hwh, htake⟩
  · simp at hfit; omega
  · have hbl : b.length = nb := hC.1
    obtain ⟨ad, rfl, hcells⟩ := C_cells hC hb
    have hlt : k ≠ cap := by omega
    have hcut := cut_from (P := Tryz.prog) 35 5 .i64 Tryz.underlying35 hi 1 hz.2.1 (some ⟨g, 0, none⟩) xs.length cap (k : Int) (by omega) (by omega)
    rw [Int.toNat_natCast, if_neg (Ne.symm hlt)] at hcut
    have hadd : (Option.map (fun x : Addr => x.add (k * 1)) (some ⟨g, 0, none⟩)) = some ⟨g, k, none⟩ := by
      simp [Addr.add]
      intro h; omega
    rw [hadd] at hcut
    have hrun := fun (nq : Nat) (ty : TypeId) => run_copy_row (P := Tryz.prog) (w.drewN nq) 35 35 ty 5 g k (xs.length - k) (cap - k) ad nb cb cur 5 (b.map (Value.int .u8)) Tryz.underlying35
      (by rw [hi]; simp [hz.2.1]) hg (by rw [List.length_map, hbl]; simp [Nat.min_def]; omega) hcells (by rw [List.length_map, hbl]; omega) (fun v hv => by obtain ⟨p, _, rfl⟩ := List.mem_map.1 hv; rfl)
    rw [List.length_map, hbl] at hrun
    have hsl : (splice xs k b).length = xs.length := length_splice _ _ _ (by omega)
    refine ⟨_, _, _, w.setRow g (cur.toList.take k ++ b.map (Value.int .u8) ++ cur.toList.drop (k + nb)).toArray, hcut, fun nq ty => hrun nq ty, ⟨hR.1, .inr ⟨g, cap, _, by rw [hsl], setRow_heap _ _ _ _ _ _ hg, by rw [hsl]; exact hnc, hmax, ?_, ?_, ?_⟩⟩, ?_⟩
    · simp; omega
    · rw [hsl]; simp; omega
    · rw [hsl]
      exact take_splice cur.toList xs b k nb hbl (by simp; omega) hfit htake
    · exact ⟨rfl, rfl, rfl, by simp [World.setRow], fun i _ hi => setRow_other _ _ _ _ (fun e => hi (by rw [e]; rfl))⟩
end Go.Proofs.YtpaiadidgokjlaaGreat

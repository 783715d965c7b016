/-
  same, over pages told as the print tells them; put: a page laid in a row of pages.
-/
import Derived.Test.YtmdpgjdepflbmaaGreatCQ
import Derived.Test.YtmdpgjdepflbmaaGreatCR
namespace Go.Proofs.YtmdpgjdepflbmaaGreat
open Go.RowKit Go.Maps Go.Proofs.YtmdpgjdepflbmaaGreatW.PrintWords Go.Proofs.YtmdpgjdepflbmaaGreatW.PrintLast Go.Proofs.YtmdpgjdepflbmaaGreatW.PrintMore
open Go.Proofs.YtmdpgjdepflbmaaGreat.PPagerFolds
set_option linter.unusedVariables false
set_option linter.unusedSimpArgs false

/-! ### put -/
/-- a page laid in a list of pages -/
def putL (l : List Bytes) (n : Nat) (p : Bytes) : List Bytes := (l ++ List.replicate (n + 1 - l.length) (List.replicate 512 0)).set n p
theorem put_l (n : Nat) (p : Bytes) (hn : n < 100000) : ∀ (k : Nat) (l : List Bytes), l.length ≤ 100000 → n + 1 < l.length + k → 0 < k → cadastrelaw12_put.l0 k (n : Int) p l = some (putL l n p)
  | 0, l, _, _, h => by omega
  | k + 1, l, hl, hk, _ => by
    unfold cadastrelaw12_put.l0
    by_cases h : l.length ≤ n
    · rw [if_pos (by omega), if_pos (by omega), if_pos (by omega), put_l n p hn k (l ++ [List.replicate 512 0]) (by rw [List.length_append, List.length_singleton]; omega) (by rw [List.length_append, List.length_singleton]; omega) (by omega)]
      unfold putL
      rw [List.length_append, List.append_assoc, show n + 1 - l.length = (n + 1 - (l.length + 1)) + 1 by omega, List.replicate_succ]
      rfl
    · rw [if_neg (by omega), if_pos (by omega), if_pos (by omega)]
      unfold putL
      rw [show n + 1 - l.length = 0 by omega]
      simp
theorem put_f (l : List Bytes) (n : Nat) (p : Bytes) (hn : n < 100000) (hl : l.length ≤ 100000) : cadastrelaw12_put.f 200000 l (n : Int) p = some (putL l n p) := by
  unfold cadastrelaw12_put.f
  simp only [Option.bind_some, List.length_nil, List.nil_append]
  rw [if_pos (by omega)]
  exact put_l n p hn 200000 l hl (by omega) (by omega)
theorem lput_any {w : World} {P0 P2 : Nat → Prop} {A A2 : Option Addr} {m c c2 : Nat} {l : List Bytes} {n : Nat} {p : Bytes} (hm : l.length = m) (h0 : Kd.V (Kd.slice 5 U8) 48 w w.heap.size P0 (.slice A m c) l) (h2 : Kd.V U8 5 w w.heap.size P2 (.slice A2 512 c2) p) (hp : p.length = 512) (hn : n < 100000) (hl : l.length ≤ 100000) :
    Calls Tryz.prog 22 #[.slice A m c, .int .i64 n, .slice A2 512 c2] w fun e w' => ∃ v, e = .returned v ∧ Kd.V (Kd.slice 5 U8) 48 w' 0 (fun k => (P0 k ∨ P2 k) ∨ w.heap.size ≤ k) v (putL l n p) ∧ Below w.heap.size w w' := by
  subst hm
  rw [← hp] at h2 ⊢
  refine (cadastrelaw12_put.calls 200000 P0 A c l n P2 A2 c2 p _ w h0 h2 (put_f l n p hn hl)).mono ?_
  rintro e w' ⟨v, rfl, h1, hb⟩
  exact ⟨v, rfl, Kd.N_V h1, hb⟩
theorem putL_length (l : List Bytes) (n : Nat) (p : Bytes) : (putL l n p).length = max l.length (n + 1) := by
  unfold putL; rw [List.length_set, List.length_append, List.length_replicate]; omega
theorem putL_get (l : List Bytes) (n : Nat) (p : Bytes) (i : Nat) (hi : i < max l.length (n + 1)) : (putL l n p)[i]? = some (if i = n then p else (l[i]?).getD (List.replicate 512 0)) := by
  have hl : i < (l ++ List.replicate (n + 1 - l.length) (List.replicate 512 (0 : Int))).length := by rw [List.length_append, List.length_replicate]; omega
  unfold putL
  rw [List.getElem?_set]
  by_cases e : n = i
  · subst e
    rw [if_pos rfl, if_pos hl, if_pos rfl]
  · rw [if_neg e, if_neg (Ne.symm e)]
    by_cases h : i < l.length
    · rw [List.getElem?_append_left h, List.getElem?_eq_getElem h]; rfl
    · rw [List.getElem?_append_right (by omega), List.getElem?_replicate, if_pos (by omega), List.getElem?_eq_none (by omega)]; rfl
end Go.Proofs.YtmdpgjdepflbmaaGreat
namespace Go.Proofs.YtmdpgjdepflbmaaGreat
open Go.RowKit Go.Maps Go.Proofs.YtmdpgjdepflbmaaGreatW.PrintWords Go.Proofs.YtmdpgjdepflbmaaGreatW.PrintLast Go.Proofs.YtmdpgjdepflbmaaGreatW.PrintMore
open Go.Proofs.YtmdpgjdepflbmaaGreat.PPagerFolds
set_option linter.unusedVariables false
set_option linter.unusedSimpArgs false

abbrev PV (w : World) (P : Nat → Prop) (v : Value) (Dn : List Bytes) : Prop := Kd.V (Kd.slice 5 U8) 48 w 0 P v Dn
structure VJ (W : World) (X : PG) (M : DM) (v : Value) (Dn : List Bytes) (w : World) : Prop where
  ex : ∃ ok : Nat → Prop, Sys w X M ok ∧ (∀ k, ok k → W.heap.size ≤ k ∧ k < w.heap.size) ∧ PV w (fun k => k < w.heap.size ∧ ¬ ok k) v Dn
  below : Below W.heap.size W w
/-- bytes are these pages -/
structure Holds (C : Bytes) (Dn : List Bytes) : Prop where
  len : C.length = Dn.length * 512
  at_ : ∀ (i : Nat) (b : Bytes), Dn[i]? = some b → PP.pageAt C i = b
  full : ∀ b ∈ Dn, b.length = 512
/-- a transaction's pages are these -/
structure Sees (X : PG) (Dn : List Bytes) : Prop where
  cnt : X.count = Dn.length
  at_ : ∀ (i : Nat) (b : Bytes), Dn[i]? = some b → X.view i = b
  past : ∀ (i : Nat), Dn.length ≤ i → X.view i = List.replicate 512 0
  full : ∀ b ∈ Dn, b.length = 512
theorem Holds.nil : Holds [] [] := ⟨rfl, fun i b h => by simp at h, fun b h => by simp at h⟩
theorem Holds.sees {X : PG} {C : Bytes} {Dn : List Bytes} (h : Holds C Dn) (s : Int) : Sees (X.begC s C) Dn := by
  have hv : ∀ i : Nat, (X.begC s C).view i = PP.pageAt C i := fun i => page_nat (X.begC s C) i
  refine ⟨?_, fun i b hb => (hv i).trans (h.at_ i b hb), fun i hi => ?_, h.full⟩
  · show ((C.length / 512 : Nat) : Int) = _
    rw [h.len, Nat.mul_div_cancel _ (by omega)]
  · rw [hv i, PP.pageAt_past _ _ (by rw [h.len]; omega), noughts_rep]
theorem Sees.put {X : PG} {Dn : List Bytes} (h : Sees X Dn) (n : Nat) (p : Bytes) (hp : p.length = 512) : Sees (X.put n p) (putL Dn n p) := by
  have hl := putL_length Dn n p
  have hv : ∀ i : Nat, (X.put n p).view i = if i = n then p else X.view i := fun i => by
    by_cases e : i = n
    · subst e; simp [PG.view, PG.put]
    · have e' : (i : Int) ≠ n := by omega
      rw [if_neg e]
      unfold PG.view
      simp only [PG.put, if_neg e']
      rfl
  refine ⟨?_, fun i b hb => ?_, fun i hi => ?_, fun b hb => ?_⟩
  · show max X.count ((n : Int) + 1) = _
    rw [hl, h.cnt]; omega
  · have hi : i < (putL Dn n p).length := (List.getElem?_eq_some_iff.1 hb).1
    rw [putL_get Dn n p i (by omega)] at hb
    rw [hv i]
    by_cases e : i = n
    · rw [if_pos e] at hb ⊢; exact Option.some.inj hb
    · rw [if_neg e] at hb ⊢
      cases hd : Dn[i]? with
      | none =>
        rw [hd] at hb
        rw [h.past i (List.getElem?_eq_none_iff.1 hd)]
        exact Option.some.inj hb
      | some q =>
        rw [hd] at hb
        rw [h.at_ i q hd]
        exact Option.some.inj hb
  · rw [hv i, if_neg (by omega)]
    exact h.past i (by omega)
  · obtain ⟨i, hi⟩ := List.getElem?_of_mem hb
    have hil : i < (putL Dn n p).length := (List.getElem?_eq_some_iff.1 hi).1
    rw [putL_get Dn n p i (by omega)] at hi
    obtain rfl := Option.some.inj hi
    split
    · exact hp
    · cases hd : Dn[i]? with
      | none => exact List.length_replicate
      | some q => exact h.full q (List.mem_of_getElem? hd)
theorem Sees.holds {X : PG} {Dn : List Bytes} (h : Sees X Dn) (hT : TI X) (hown : ∀ n p, X.own n = some p → 0 ≤ n ∧ n < 4096 ∧ p.length = 512) : Holds (resB X) Dn := by
  obtain ⟨r1, r2⟩ := res_spec hT hown
  exact ⟨by rw [r1, h.cnt]; simp, fun i b hb => (r2 i).trans (h.at_ i b hb), h.full⟩

section
variable {W w w' : World} {X X' : PG} {M M' : DM} {v : Value} {Dn : List Bytes}
theorem VJ.left {ok : Nat → Prop} (hb : Below W.heap.size W w) (hok : ∀ k, ok k → W.heap.size ≤ k ∧ k < w.heap.size) (hV : PV w (fun k => k < w.heap.size ∧ ¬ ok k) v Dn) (hS : SLeft w X' M' ok w') : VJ W X' M' v Dn w' := by
  have hs := hS.2.size
  refine ⟨⟨_, hS.1, fun k hk => ?_, ?_⟩, hb.trans (hS.2.below (fun k hk => (hok k hk).1) hb.size)⟩
  · rcases hk with hk | hk
    · have := hok k hk; exact ⟨this.1, by omega⟩
    · exact ⟨by have := hb.size; omega, hk.2⟩
  · refine Kd.V_mono (Kd.V_step hV (fun k hk hl => hS.2.block k hl hk.2)) (fun k hk => ⟨by omega, fun h => h.elim hk.2 (fun h => by omega)⟩)
theorem VJ.step (h : VJ W X M v Dn w) (hb : Below w.heap.size w w') : VJ W X M v Dn w' := by
  obtain ⟨ok, hS, hok, hV⟩ := h.ex
  have hs := hb.size
  exact ⟨⟨ok, hS.below hb, fun k hk => by have := hok k hk; exact ⟨this.1, by omega⟩, Kd.V_mono (Kd.V_below hV hb) (fun k hk => ⟨by omega, hk.2⟩)⟩, h.below.trans (hb.mono h.below.size)⟩
theorem VJ.drewN (h : VJ W X M v Dn w) (n : Nat) : VJ W X M v Dn (w.drewN n) := h.step (pw_below_drewN (Below.refl _ _) n)
theorem VJ.own_len (h : VJ W X M v Dn w) (hi : X.inn = true) : ∀ n p, X.own n = some p → 0 ≤ n ∧ n < 4096 ∧ p.length = 512 := by
  obtain ⟨ok, hS, hok, hV⟩ := h.ex
  exact hS.own_len hi
end
end Go.Proofs.YtmdpgjdepflbmaaGreat
namespace Go.Proofs.YtmdpgjdepflbmaaGreat
open Go.RowKit Go.Maps Go.Proofs.YtmdpgjdepflbmaaGreatW.PrintWords Go.Proofs.YtmdpgjdepflbmaaGreatW.PrintLast Go.Proofs.YtmdpgjdepflbmaaGreatW.PrintMore
open Go.Proofs.YtmdpgjdepflbmaaGreat.PPagerFolds
set_option linter.unusedVariables false
set_option linter.unusedSimpArgs false

/-- a disk beside a row of pages that is only read -/
structure DJ (W : World) (d : Nat) (M : DM) (v : Value) (Dn : List Bytes) (w : World) : Prop where
  ex : ∃ ok : Nat → Prop, DiskAt w d M ok ∧ (∀ k, ok k → W.heap.size ≤ k ∧ k < w.heap.size) ∧ PV w (fun k => k < w.heap.size ∧ ¬ ok k) v Dn
  below : Below W.heap.size W w
section
variable {W w w' : World} {X : PG} {M : DM} {v : Value} {Dn : List Bytes} {d : Nat}
theorem DJ.step (h : DJ W d M v Dn w) (hb : Below w.heap.size w w') : DJ W d M v Dn w' := by
  obtain ⟨ok, hD, hok, hV⟩ := h.ex
  have hs := hb.size
  exact ⟨⟨ok, hD.below hb, fun k hk => by have := hok k hk; exact ⟨this.1, by omega⟩, Kd.V_mono (Kd.V_below hV hb) (fun k hk => ⟨by omega, hk.2⟩)⟩, h.below.trans (hb.mono h.below.size)⟩
theorem DJ.drewN (h : DJ W d M v Dn w) (n : Nat) : DJ W d M v Dn (w.drewN n) := h.step (pw_below_drewN (Below.refl _ _) n)
theorem VJ.disk (h : VJ W X M v Dn w) : DJ W X.d M v Dn w := by
  obtain ⟨ok, hS, hok, hV⟩ := h.ex
  obtain ⟨okD, hD, hk⟩ := hS.disk
  exact ⟨⟨okD, hD, fun k hk' => hok k (hk k hk').1, Kd.V_mono hV (fun k hk' => ⟨hk'.1, fun h => hk'.2 (hk k h).1⟩)⟩, h.below⟩
end
end Go.Proofs.YtmdpgjdepflbmaaGreat
namespace Go.Proofs.YtmdpgjdepflbmaaGreat
open Go.RowKit Go.Maps Go.Proofs.YtmdpgjdepflbmaaGreatW.PrintWords Go.Proofs.YtmdpgjdepflbmaaGreatW.PrintLast Go.Proofs.YtmdpgjdepflbmaaGreatW.PrintMore
open Go.Proofs.YtmdpgjdepflbmaaGreat.PPagerFolds
set_option linter.unusedVariables false
set_option linter.unusedSimpArgs false

/-- what stands beside: told by blocks that are not turned -/
structure Stab (B : World → (Nat → Prop) → Prop) : Prop where
  step : ∀ {w w' : World} {P : Nat → Prop}, B w P → (∀ k, P k → k < w.heap.size → w'.heap[k]? = w.heap[k]?) → B w' P
  mono : ∀ {w : World} {P Q : Nat → Prop}, B w P → (∀ k, P k → Q k) → B w Q
abbrev VB (v : Value) (Dn : List Bytes) : World → (Nat → Prop) → Prop := fun w P => PV w P v Dn
theorem VB.stab (v : Value) (Dn : List Bytes) : Stab (VB v Dn) := ⟨fun h hm => Kd.V_step h hm, fun h hm => Kd.V_mono h hm⟩
structure GJ (W : World) (X : PG) (M : DM) (B : World → (Nat → Prop) → Prop) (w : World) : Prop where
  ex : ∃ ok : Nat → Prop, Sys w X M ok ∧ (∀ k, ok k → W.heap.size ≤ k ∧ k < w.heap.size) ∧ B w (fun k => k < w.heap.size ∧ ¬ ok k)
  below : Below W.heap.size W w
  stab : Stab B
structure GD (W : World) (d : Nat) (M : DM) (B : World → (Nat → Prop) → Prop) (w : World) : Prop where
  ex : ∃ ok : Nat → Prop, DiskAt w d M ok ∧ (∀ k, ok k → W.heap.size ≤ k ∧ k < w.heap.size) ∧ B w (fun k => k < w.heap.size ∧ ¬ ok k)
  below : Below W.heap.size W w
  stab : Stab B
section
variable {W w w' : World} {X X' : PG} {M M' : DM} {B : World → (Nat → Prop) → Prop} {d : Nat}
theorem GJ.left {ok : Nat → Prop} (hb : Below W.heap.size W w) (hst : Stab B) (hok : ∀ k, ok k → W.heap.size ≤ k ∧ k < w.heap.size) (hV : B w (fun k => k < w.heap.size ∧ ¬ ok k)) (hS : SLeft w X' M' ok w') : GJ W X' M' B w' := by
  have hs := hS.2.size
  refine ⟨⟨_, hS.1, fun k hk => ?_, ?_⟩, hb.trans (hS.2.below (fun k hk => (hok k hk).1) hb.size), hst⟩
  · rcases hk with hk | hk
    · have := hok k hk; exact ⟨this.1, by omega⟩
    · exact ⟨by have := hb.size; omega, hk.2⟩
  · refine hst.mono (hst.step hV (fun k hk hl => hS.2.block k hl hk.2)) (fun k hk => ⟨by omega, fun h => h.elim hk.2 (fun h => by omega)⟩)
theorem GJ.step (h : GJ W X M B w) (hb : Below w.heap.size w w') : GJ W X M B w' := by
  obtain ⟨ok, hS, hok, hV⟩ := h.ex
  have hs := hb.size
  exact ⟨⟨ok, hS.below hb, fun k hk => by have := hok k hk; exact ⟨this.1, by omega⟩, h.stab.mono (h.stab.step hV (fun k hk hl => hb.block k hl)) (fun k hk => ⟨by omega, hk.2⟩)⟩, h.below.trans (hb.mono h.below.size), h.stab⟩
theorem GJ.drewN (h : GJ W X M B w) (n : Nat) : GJ W X M B (w.drewN n) := h.step (pw_below_drewN (Below.refl _ _) n)
theorem GD.step (h : GD W d M B w) (hb : Below w.heap.size w w') : GD W d M B w' := by
  obtain ⟨ok, hD, hok, hV⟩ := h.ex
  have hs := hb.size
  exact ⟨⟨ok, hD.below hb, fun k hk => by have := hok k hk; exact ⟨this.1, by omega⟩, h.stab.mono (h.stab.step hV (fun k hk hl => hb.block k hl)) (fun k hk => ⟨by omega, hk.2⟩)⟩, h.below.trans (hb.mono h.below.size), h.stab⟩
theorem GD.drewN (h : GD W d M B w) (n : Nat) : GD W d M B (w.drewN n) := h.step (pw_below_drewN (Below.refl _ _) n)
theorem GJ.disk (h : GJ W X M B w) : GD W X.d M B w := by
  obtain ⟨ok, hS, hok, hV⟩ := h.ex
  obtain ⟨okD, hD, hk⟩ := hS.disk
  exact ⟨⟨okD, hD, fun k hk' => hok k (hk k hk').1, h.stab.mono hV (fun k hk' => ⟨hk'.1, fun h => hk'.2 (hk k h).1⟩)⟩, h.below, h.stab⟩
theorem GJ.own_len (h : GJ W X M B w) (hi : X.inn = true) : ∀ n p, X.own n = some p → 0 ≤ n ∧ n < 4096 ∧ p.length = 512 := by
  obtain ⟨ok, hS, hok, hV⟩ := h.ex
  exact hS.own_len hi
theorem GJ.swap {B' : World → (Nat → Prop) → Prop} (h : GJ W X M B w) (hst : Stab B') (hB : ∀ P : Nat → Prop, (∀ k, k < W.heap.size → P k) → B w P → B' w P) : GJ W X M B' w := by
  obtain ⟨ok, hS, hok, hV⟩ := h.ex
  have hs := h.below.size
  exact ⟨⟨ok, hS, hok, hB _ (fun k hk => ⟨by omega, fun h => by have := (hok k h).1; omega⟩) hV⟩, h.below, hst⟩
end

/-- the disk of a pager: committed bytes, at most ls bytes of log, at most cc strokes -/
structure Dsk (mo : Int) (C : Bytes) (ls : Nat) (cc : Int) (M : DM) : Prop where
  ex : ∃ c bs k, DL M c bs k ∧ comB c bs k = C ∧ (mo = 2 ∨ mo = 1 ∧ bs = []) ∧ (logB bs).length ≤ ls
  q : Quiet M cc
theorem Dsk.more {mo : Int} {C : Bytes} {ls ls' : Nat} {cc cc' : Int} {M : DM} (h : Dsk mo C ls cc M) (h1 : ls ≤ ls') (h2 : cc ≤ cc') : Dsk mo C ls' cc' M := by
  obtain ⟨c, bs, k, a, b, e, f⟩ := h.ex
  exact ⟨⟨c, bs, k, a, b, e, by omega⟩, h.q.more h2⟩
theorem Dsk.any {mo : Int} {C : Bytes} {ls : Nat} {cc : Int} {M : DM} (h : Dsk mo C ls cc M) : Dsk 2 C ls cc M := by
  obtain ⟨c, bs, k, a, b, e, f⟩ := h.ex
  exact ⟨⟨c, bs, k, a, b, .inl rfl, f⟩, h.q⟩
theorem Dsk.new : Dsk 2 [] 0 0 M0 := ⟨⟨[], [], 0, DL.zero, DL.zero.com_nil, .inl rfl, by simp [logB]⟩, quiet0⟩
/-- a pager without a transaction -/
structure Sh (X : PG) (p d : Nat) (mo cc : Int) : Prop where
  p : X.p = p
  d : X.d = d
  md : X.mode = mo
  dead : X.dead = false
  inn : X.inn = false
  wr : X.wrote = false
  mks : X.marks = []
  cnt : X.count = 0
  nx0 : 0 ≤ X.next
  nx : X.next ≤ cc
/-- a pager in a transaction that sees these pages -/
structure Ib (X : PG) (p d : Nat) (mo : Int) (C : Bytes) (Ds : List Bytes) (cc : Int) : Prop where
  p : X.p = p
  d : X.d = d
  md : X.mode = mo
  dead : X.dead = false
  inn : X.inn = true
  was : X.was = C
  ti : TI X
  see : Sees X Ds
  nx0 : 0 ≤ X.next
  nx : X.next ≤ cc
theorem Ib.ended {X : PG} {p d : Nat} {mo cc : Int} {C : Bytes} {Ds : List Bytes} (h : Ib X p d mo C Ds cc) : Sh X.ended p d mo cc := ⟨h.p, h.d, h.md, h.dead, rfl, rfl, rfl, rfl, h.nx0, h.nx⟩
theorem Sh.more {X : PG} {p d : Nat} {mo cc cc' : Int} (h : Sh X p d mo cc) (hc : cc ≤ cc') : Sh X p d mo cc' := ⟨h.p, h.d, h.md, h.dead, h.inn, h.wr, h.mks, h.cnt, h.nx0, Int.le_trans h.nx hc⟩
theorem Ib.more {X : PG} {p d : Nat} {mo cc cc' : Int} {C : Bytes} {Ds : List Bytes} (h : Ib X p d mo C Ds cc) (hc : cc ≤ cc') : Ib X p d mo C Ds cc' := ⟨h.p, h.d, h.md, h.dead, h.inn, h.was, h.ti, h.see, h.nx0, Int.le_trans h.nx hc⟩
def Shut (W : World) (B : World → (Nat → Prop) → Prop) (p d : Nat) (mo : Int) (C : Bytes) (ls : Nat) (cc : Int) (w : World) : Prop := ∃ X M, GJ W X M B w ∧ Sh X p d mo cc ∧ Dsk mo C ls cc M
def Opn (W : World) (B : World → (Nat → Prop) → Prop) (X : PG) (p d : Nat) (mo : Int) (C : Bytes) (Ds : List Bytes) (ls : Nat) (cc : Int) (w : World) : Prop := ∃ M, GJ W X M B w ∧ Ib X p d mo C Ds cc ∧ Dsk mo C ls cc M
def Dk (W : World) (B : World → (Nat → Prop) → Prop) (d : Nat) (C : Bytes) (ls : Nat) (cc : Int) (w : World) : Prop := ∃ M, GD W d M B w ∧ Dsk 2 C ls cc M
section
variable {W w w' : World} {X : PG} {M : DM} {B B' : World → (Nat → Prop) → Prop} {p d ls : Nat} {mo cc : Int} {C : Bytes} {Ds : List Bytes}
theorem Shut.step (h : Shut W B p d mo C ls cc w) (hb : Below w.heap.size w w') : Shut W B p d mo C ls cc w' := by
  obtain ⟨X, M, a, b, e⟩ := h
  exact ⟨X, M, a.step hb, b, e⟩
theorem Opn.step (h : Opn W B X p d mo C Ds ls cc w) (hb : Below w.heap.size w w') : Opn W B X p d mo C Ds ls cc w' := by
  obtain ⟨M, a, b, e⟩ := h
  exact ⟨M, a.step hb, b, e⟩
theorem Dk.step (h : Dk W B d C ls cc w) (hb : Below w.heap.size w w') : Dk W B d C ls cc w' := by
  obtain ⟨M, a, e⟩ := h
  exact ⟨M, a.step hb, e⟩
theorem Shut.drewN (h : Shut W B p d mo C ls cc w) (n : Nat) : Shut W B p d mo C ls cc (w.drewN n) := h.step (pw_below_drewN (Below.refl _ _) n)
theorem Opn.drewN (h : Opn W B X p d mo C Ds ls cc w) (n : Nat) : Opn W B X p d mo C Ds ls cc (w.drewN n) := h.step (pw_below_drewN (Below.refl _ _) n)
theorem Dk.drewN (h : Dk W B d C ls cc w) (n : Nat) : Dk W B d C ls cc (w.drewN n) := h.step (pw_below_drewN (Below.refl _ _) n)
theorem Shut.more {ls' : Nat} {cc' : Int} (h : Shut W B p d mo C ls cc w) (h1 : ls ≤ ls') (h2 : cc ≤ cc') : Shut W B p d mo C ls' cc' w := by
  obtain ⟨X, M, a, b, e⟩ := h
  exact ⟨X, M, a, b.more h2, e.more h1 h2⟩
theorem Opn.more {ls' : Nat} {cc' : Int} (h : Opn W B X p d mo C Ds ls cc w) (h1 : ls ≤ ls') (h2 : cc ≤ cc') : Opn W B X p d mo C Ds ls' cc' w := by
  obtain ⟨M, a, b, e⟩ := h
  exact ⟨M, a, b.more h2, e.more h1 h2⟩
theorem Dk.more {ls' : Nat} {cc' : Int} (h : Dk W B d C ls cc w) (h1 : ls ≤ ls') (h2 : cc ≤ cc') : Dk W B d C ls' cc' w := by
  obtain ⟨M, a, e⟩ := h
  exact ⟨M, a, e.more h1 h2⟩
theorem Shut.below (h : Shut W B p d mo C ls cc w) : Below W.heap.size W w := by obtain ⟨X, M, a, b, e⟩ := h; exact a.below
theorem Opn.below (h : Opn W B X p d mo C Ds ls cc w) : Below W.heap.size W w := by obtain ⟨M, a, b, e⟩ := h; exact a.below
theorem Dk.below (h : Dk W B d C ls cc w) : Below W.heap.size W w := by obtain ⟨M, a, e⟩ := h; exact a.below
theorem Shut.disk (h : Shut W B p d mo C ls cc w) : Dk W B d C ls cc w := by
  obtain ⟨X, M, a, b, e⟩ := h
  have := a.disk
  rw [b.d] at this
  exact ⟨M, this, e.any⟩
theorem Opn.disk (h : Opn W B X p d mo C Ds ls cc w) : Dk W B d C ls cc w := by
  obtain ⟨M, a, b, e⟩ := h
  have := a.disk
  rw [b.d] at this
  exact ⟨M, this, e.any⟩
theorem Opn.swap (h : Opn W B X p d mo C Ds ls cc w) (hst : Stab B') (hB : ∀ P : Nat → Prop, (∀ k, k < W.heap.size → P k) → B w P → B' w P) : Opn W B' X p d mo C Ds ls cc w := by
  obtain ⟨M, a, b, e⟩ := h
  exact ⟨M, a.swap hst hB, b, e⟩
theorem Shut.swap (h : Shut W B p d mo C ls cc w) (hst : Stab B') (hB : ∀ P : Nat → Prop, (∀ k, k < W.heap.size → P k) → B w P → B' w P) : Shut W B' p d mo C ls cc w := by
  obtain ⟨X, M, a, b, e⟩ := h
  exact ⟨X, M, a.swap hst hB, b, e⟩
theorem Opn.ib (h : Opn W B X p d mo C Ds ls cc w) : Ib X p d mo C Ds cc := by obtain ⟨M, a, b, e⟩ := h; exact b
theorem o_begin (h : Shut W B p d mo C ls cc w) (hcc : cc + 10 < 1000000) (hH : Holds C Ds) (hl : Ds.length ≤ 4096) :
    Calls Tryz.prog 19 #[dp p] w fun e w' => e = .returned (.int .i64 0) ∧ ∃ X, Opn W B X p d mo C Ds ls (cc + 1) w' ∧ X.marks = [] := by
  obtain ⟨X, M, hG, hX, hD⟩ := h
  obtain ⟨c, bs, k, hL, hC, hm, hls⟩ := hD.ex
  obtain ⟨ok, hS, hok, hV⟩ := hG.ex
  have hS0 := s_beg hS hD.q hcc hL (by rw [hX.md]; exact hm) hX.dead hX.inn hX.wr
  rw [hX.p] at hS0
  refine hS0.mono ?_
  rintro e w' ⟨rfl, M', s, hS', hL', hq'⟩
  have hlen := hH.len
  refine ⟨rfl, _, ⟨M', GJ.left hG.below hG.stab hok hV hS', ⟨hX.p, hX.d, hX.md, hX.dead, rfl, hC, TI.begC hX.wr hX.mks (by rw [hC]; omega) (by rw [hC]; omega), by rw [hC]; exact hH.sees s, hX.nx0, Int.le_trans hX.nx (by omega)⟩, ⟨c, bs, k, hL', hC, hm, hls⟩, hq'⟩, hX.mks⟩
theorem o_commit (h : Opn W B X p d mo C Ds ls cc w) (hcc : cc + 20000 < 1000000) (hls : ls ≤ 2080000) :
    Calls Tryz.prog 26 #[dp p] w fun e w' => e = .returned (.int .i64 0) ∧ ∃ C', Shut W B p d mo C' (ls + (9 + 516 * Ds.length)) (cc + 5000) w' ∧ Holds C' Ds := by
  obtain ⟨M, hG, hX, hD⟩ := h
  obtain ⟨c, bs, k, hL, hC, hm, hls'⟩ := hD.ex
  have how := hG.own_len hX.inn
  obtain ⟨ok, hS, hok, hV⟩ := hG.ex
  have hS0 := s_com hS hD.q hcc hL (by rw [hX.md]; exact hm) hX.dead hX.inn hX.ti (by rw [hX.was, hC]) (by omega)
  rw [hX.p] at hS0
  refine hS0.mono ?_
  rintro e w' ⟨rfl, M', s, c', bs', k', hS', hL', hq', hm', hC', hl'⟩
  rw [hX.md] at hm'
  rw [hX.see.cnt] at hl'
  refine ⟨rfl, resB X, ⟨_, M', GJ.left hG.below hG.stab hok hV hS', ⟨hX.p, hX.d, hX.md, hX.dead, rfl, rfl, rfl, rfl, hX.nx0, Int.le_trans hX.nx (by omega)⟩, ⟨c', bs', k', hL', hC', hm', by simp only [Int.toNat_natCast] at hl'; omega⟩, hq'⟩, hX.see.holds hX.ti how⟩
theorem o_roll (h : Opn W B X p d mo C Ds ls cc w) :
    Calls Tryz.prog 27 #[dp p] w fun e w' => e = .returned (.int .i64 0) ∧ Shut W B p d mo C ls cc w' := by
  obtain ⟨M, hG, hX, hD⟩ := h
  obtain ⟨ok, hS, hok, hV⟩ := hG.ex
  have hS0 := s_roll hS hX.dead hX.inn
  rw [hX.p] at hS0
  refine hS0.mono ?_
  rintro e w' ⟨rfl, hS'⟩
  exact ⟨rfl, _, M, GJ.left hG.below hG.stab hok hV hS', hX.ended, hD⟩
theorem o_count (h : Opn W B X p d mo C Ds ls cc w) : Calls Tryz.prog 25 #[dp p] w fun e w' => e = .returned (.int .i64 (Ds.length : Nat)) ∧ w = w' := by
  obtain ⟨M, hG, hX, hD⟩ := h
  obtain ⟨ok, hS, hok, hV⟩ := hG.ex
  have hS0 := s_count hS
  rw [hX.p, hX.see.cnt] at hS0
  exact hS0
theorem o_read (h : Opn W B X p d mo C Ds ls cc w) (n : Nat) (h1 : n < 4096) :
    Calls Tryz.prog 23 #[dp p, .int .i64 n] w fun e w' => ∃ v', e = .returned (.tuple #[v', .int .i64 0]) ∧ U8.R 5 w' w.heap.size (fun k => w.heap.size ≤ k) v' ((Ds[n]?).getD (List.replicate 512 0)) ∧ Below w.heap.size w w' := by
  obtain ⟨M, hG, hX, hD⟩ := h
  obtain ⟨ok, hS, hok, hV⟩ := hG.ex
  have hv : X.view (n : Int) = (Ds[n]?).getD (List.replicate 512 0) := by
    cases e : Ds[n]? with
    | none => exact hX.see.past n (List.getElem?_eq_none_iff.1 e)
    | some b => exact hX.see.at_ n b e
  have hS0 := pread_in hS.pg n hX.dead hX.inn (by omega) (by omega) (by have := hX.ti.was; omega)
  rw [hX.p, hv] at hS0
  exact hS0
theorem o_open (h : Dk W B d C ls cc w) (hc : cc + 6000 < 1000000) (hls : ls ≤ 4194304) (m : Int) (hm : m = 1 ∨ m = 2) :
    Calls Tryz.prog 30 #[dp d, .int .i64 m] w fun e w' => ∃ p, e = .returned (dp p) ∧ Shut W B p d m C ls (cc + 4100) w' := by
  obtain ⟨M, hG, hD⟩ := h
  obtain ⟨c, bs, k, hL, hC, hm0, hls'⟩ := hD.ex
  obtain ⟨ok, hDi, hok, hV⟩ := hG.ex
  refine (lopen_DL hDi (fun j hj => (hok j hj).2) hD.q hc hL (by omega) m hm).mono ?_
  rintro e w' ⟨rfl, M', s, c', bs', hS, hF, hDL, hQ, hcom, hmm, hls2⟩
  have hs := hF.size
  have hW := hG.below.size
  refine ⟨_, rfl, _, M', ⟨⟨_, hS.tight, fun j hj => ⟨hj.1.elim (fun h => (hok j h).1) (fun h => by omega), hj.2⟩, ?_⟩, hG.below.trans (hF.below (fun j hj => (hok j hj).1) hW), hG.stab⟩, ⟨rfl, rfl, rfl, rfl, rfl, rfl, rfl, rfl, Int.le_refl _, Int.le_trans hQ.st0 hQ.st1⟩, ⟨c', bs', k, hDL, hcom.trans hC, hmm, by omega⟩, hQ⟩
  exact hG.stab.mono (hG.stab.step hV (fun j hj hl => hF.block j hl hj.2)) (fun j hj => ⟨by omega, fun h => h.1.elim hj.2 (fun h => by omega)⟩)
theorem o_fold (h : Shut W B p d mo C ls cc w) (hcc : cc + 6000 < 1000000) (hls : ls ≤ 4194304) :
    Calls Tryz.prog 35 #[dp p] w fun e w' => e = .returned (.int .i64 0) ∧ ∃ X M, GJ W X M B w' ∧ Sh X p d mo (cc + 4100) ∧ ∃ k, DL M C [] k ∧ Quiet M (cc + 4100) := by
  obtain ⟨X, M, hG, hX, hD⟩ := h
  obtain ⟨c, bs, k, hL, hC, hm, hls'⟩ := hD.ex
  obtain ⟨ok, hS, hok, hV⟩ := hG.ex
  have hS0 := s_fold hS hD.q hcc hL hX.dead hX.inn (by omega)
  rw [hX.p] at hS0
  refine hS0.mono ?_
  rintro e w' ⟨rfl, M', s, hS', hL', hq'⟩
  rw [hC] at hL'
  exact ⟨rfl, _, M', GJ.left hG.below hG.stab hok hV hS', ⟨hX.p, hX.d, hX.md, hX.dead, rfl, rfl, rfl, rfl, hX.nx0, Int.le_trans hX.nx (by omega)⟩, k, hL', hq'⟩
theorem o_mark (h : Opn W B X p d mo C Ds ls cc w) (hcc : cc < 1000000) (hml : X.marks.length ≤ 100000) :
    Calls Tryz.prog 32 #[dp p] w fun e w' => e = .returned (.tuple #[.int .i64 (X.next + 1), .int .i64 0]) ∧ Opn W B X.mkd p d mo C Ds ls (cc + 1) w' := by
  obtain ⟨M, hG, hX, hD⟩ := h
  obtain ⟨ok, hS, hok, hV⟩ := hG.ex
  have hS0 : Calls Tryz.prog 32 #[dp X.p] w fun e w' => e = .returned (.tuple #[.int .i64 (X.next + 1), .int .i64 0]) ∧ SLeft w X.mkd M ok w' := s_mark hS hX.dead hX.inn hX.nx0 (Int.lt_of_le_of_lt hX.nx hcc) hml
  rw [hX.p] at hS0
  refine hS0.mono ?_
  rintro e w' ⟨rfl, hS'⟩
  exact ⟨rfl, M, GJ.left hG.below hG.stab hok hV hS', ⟨hX.p, hX.d, hX.md, hX.dead, hX.inn, hX.was, hX.ti.mkd, ⟨hX.see.cnt, hX.see.at_, hX.see.past, hX.see.full⟩, by have := hX.nx0; show 0 ≤ X.next + 1; omega, by have := hX.nx; show X.next + 1 ≤ cc + 1; omega⟩, hD.more (Nat.le_refl _) (by omega)⟩
theorem o_back (h : Opn W B X p d mo C Ds ls cc w) (hml : X.marks.length ≤ 100000) {m : Int} {i : Nat} {k : Mk} {Dk : List Bytes} (hk : X.marks[i]? = some k) (hkn : k.n = m) (hfirst : ∀ (j : Nat), j < i → ∀ x, X.marks[j]? = some x → x.n ≠ m) (hsee : Sees (X.bkd k i) Dk) :
    Calls Tryz.prog 31 #[dp p, .int .i64 m] w fun e w' => e = .returned (.int .i64 0) ∧ Opn W B (X.bkd k i) p d mo C Dk ls cc w' := by
  obtain ⟨M, hG, hX, hD⟩ := h
  obtain ⟨ok, hS, hok, hV⟩ := hG.ex
  have hS0 : Calls Tryz.prog 31 #[dp X.p, .int .i64 m] w fun e w' => e = .returned (.int .i64 0) ∧ SLeft w (X.bkd k i) M ok w' := s_back hS hX.dead hX.inn hml hk hkn hfirst
  rw [hX.p] at hS0
  refine hS0.mono ?_
  rintro e w' ⟨rfl, hS'⟩
  exact ⟨rfl, M, GJ.left hG.below hG.stab hok hV hS', ⟨hX.p, hX.d, hX.md, hX.dead, hX.inn, hX.was, hX.ti.bkd (List.mem_of_getElem? hk), hsee, hX.nx0, hX.nx⟩, hD⟩
end
end Go.Proofs.YtmdpgjdepflbmaaGreat
namespace Go.Proofs.YtmdpgjdepflbmaaGreat
open Go.RowKit Go.Maps Go.Proofs.YtmdpgjdepflbmaaGreatW.PrintWords Go.Proofs.YtmdpgjdepflbmaaGreatW.PrintLast Go.Proofs.YtmdpgjdepflbmaaGreatW.PrintMore
open Go.Proofs.YtmdpgjdepflbmaaGreat.PPagerFolds
set_option linter.unusedVariables false
set_option linter.unusedSimpArgs false

end Go.Proofs.YtmdpgjdepflbmaaGreat
namespace Go.Proofs.YtmdpgjdepflbmaaGreat
open Go.RowKit Go.Maps Go.Proofs.YtmdpgjdepflbmaaGreatW.PrintWords Go.Proofs.YtmdpgjdepflbmaaGreatW.PrintLast Go.Proofs.YtmdpgjdepflbmaaGreatW.PrintMore
open Go.Proofs.YtmdpgjdepflbmaaGreat.PPagerFolds
set_option linter.unusedVariables false
set_option linter.unusedSimpArgs false

section
variable {W w w' : World} {X : PG} {M : DM} {B : World → (Nat → Prop) → Prop} {p d ls : Nat} {mo cc : Int} {C : Bytes} {Ds : List Bytes}
theorem Dk.start {W w : World} {ok : Nat → Prop} (hD : DiskAt w d M0 ok) (hok : ∀ k, ok k → W.heap.size ≤ k ∧ k < w.heap.size) (hb : Below W.heap.size W w) (hst : Stab B) (hB : ∀ P, B w P) : Dk W B d [] 0 0 w :=
  ⟨M0, ⟨⟨ok, hD, hok, hB _⟩, hb, hst⟩, Dsk.new⟩
end
end Go.Proofs.YtmdpgjdepflbmaaGreat

/-
  PagesModel: a commit, and the file of pages opened anew.
-/
import Derived.Test.YtmdpgjdepflbmaaGreatCJ
import Derived.Test.YtmdpgjdepflbmaaGreatCG
namespace Go.Proofs.YtmdpgjdepflbmaaGreat
open Go.RowKit Go.Maps Go.Proofs.YtmdpgjdepflbmaaGreatW.PrintWords Go.Proofs.YtmdpgjdepflbmaaGreatW.PrintLast Go.Proofs.YtmdpgjdepflbmaaGreatW.PrintMore
open Go.Proofs.YtmdpgjdepflbmaaGreat.PPagerFolds
set_option linter.unusedVariables false
set_option linter.unusedSimpArgs false

theorem count_any {w : World} {g : Nat} {B : PG} {M : DM} {V : Int → Bytes} {cnt : Int} {ok : Nat → Prop} (h : FAt w g B M V cnt ok) :
    Calls Tryz.prog 25 #[dp B.p] w fun e w' => e = .returned (.int .i64 cnt) ∧ w = w' := by
  obtain ⟨X, ok1, rfl, _, rfl, _, _, _, hS, _⟩ := h
  obtain ⟨bo, vw, vm, hP⟩ := hS.pg
  have c9 := hP.cell 9
  obtain ⟨ct, hct⟩ : ∃ ct, ct = X.count := ⟨_, rfl⟩
  rw [← hct] at c9 ⊢
  show Calls Tryz.prog 25 #[dp X.p] w _
  obtain ⟨p, hp⟩ : ∃ p, p = X.p := ⟨_, rfl⟩
  rw [← hp] at c9 ⊢
  clear hP hS hct hp
  go_enter Tryz.func25, Tryz.ntmps25
  go_wp2
  go_ret
  exact ⟨rfl, rfl⟩
/-- what Commit leaves -/
structure CM (w wr w' : World) (g : Nat) (B : PG) (V : Int → Bytes) (ok okS : Nat → Prop) (X1 : PG) (M' : DM) : Prop where
  sys : Sys w' X1 M' okS
  oks : ∀ k, okS k → (ok k ∧ k ≠ g) ∨ wr.heap.size ≤ k
  lt : ∀ k, okS k → k < w'.heap.size
  fr : Fr ok wr w'
  hp : X1.p = B.p
  mode : X1.mode = 1
  dead : X1.dead = false
  inn : X1.inn = false
  wrote : X1.wrote = false
  marks : X1.marks = []
  jq : JQ M'
  pages : ∀ n : Nat, PP.pageAt (baseB M') n = V n
theorem quiet_M0 : Quiet M0 0 := ⟨rfl, fun _ => rfl, Int.le_refl _, Int.le_refl _, fun x h => by simp [M0] at h, fun x f h => by simp [M0] at h⟩
theorem Sys.owns {w : World} {X : PG} {M : DM} {ok : Nat → Prop} (h : Sys w X M ok) (hi : X.inn = true) : ∀ n p, X.own n = some p → 0 ≤ n ∧ n < 4096 ∧ p.length = 512 := fun n p hp => by
  obtain ⟨bo, vw, vm, hP⟩ := h.pg
  exact own_range (hP.own hi) hp
theorem f_commit {w wr : World} {g : Nat} {B : PG} {V : Int → Bytes} {cnt : Int} {ok : Nat → Prop} (h : FAt wr g B M0 V cnt ok) (hm : B.mode = 1) (hw : B.was = []) (hk : B.marks = []) :
    Calls Tryz.prog 26 #[dp B.p] wr fun e w' => e = .returned (.int .i64 0) ∧ ∃ okS X1 M', CM w wr w' g B V ok okS X1 M' := by
  obtain ⟨X, ok1, rfl, rfl, rfl, hi, hd, hT, hS, hg, h1, h2⟩ := h
  refine (s_commit hS quiet_M0 (by omega) hm hd hi hT).mono ?_
  rintro e w' ⟨rfl, M', ⟨hS', hF'⟩, hC, hQ⟩
  have hB : baseB M0 = X.was := by rw [show X.was = [] from hw]; rfl
  obtain ⟨p1, p2, p3, p4⟩ := commit_pages hT (hS.owns hi) hB hC rfl
  refine ⟨rfl, fun k => Grow wr ok1 w' k ∧ k < w'.heap.size, X.ended, M', hS'.tight, fun k hk => hk.1.imp (h1 k) (fun h => h.1), fun k hk => hk.2, hF'.wide (fun k _ hk => (h1 k hk).1), rfl, hm, hd, rfl, rfl, rfl, JQ.commit JQ.zero hT hQ p1 p3 p4, p2⟩
/-- a file of pages over it, opened anew -/
theorem f_anew {w wr w' w2 w3 : World} {g : Nat} {B : PG} {V : Int → Bytes} {ok okS : Nat → Prop} {X1 : PG} {M' : DM} (h : CM w wr w' g B V ok okS X1 M') (hS2 : SLeft w' (X1.begun M') M' okS w2) (hw3 : w3 = w2.alloc (.cells #[dp B.p] 137)) (hb : Below w.heap.size w wr) (hfresh : ∀ k, ok k → w.heap.size ≤ k) (hz : GoodZ (V 0)) :
    ∃ B2 V2 cnt2, B2.p = B.p ∧ (∀ n : Nat, V2 n = V n) ∧ FS w w3 w2.heap.size B2 M' V2 cnt2 (fun k => (okS k ∨ (w'.heap.size ≤ k ∧ k < w2.heap.size)) ∨ k = w2.heap.size) ∧ Fr (fun k => ok k ∨ wr.heap.size ≤ k) wr w3 ∧ wr.heap.size ≤ w2.heap.size := by
  obtain ⟨hS, hF⟩ := hS2
  have s1 := h.fr.size
  have s2 := hF.size
  have hsb := hb.size
  have hV : ∀ n : Nat, (X1.begun M').view n = V n := fun n => by
    show (none : Option Bytes).getD ((X1.begun M').page n) = _
    rw [show (none : Option Bytes).getD ((X1.begun M').page n) = (X1.begun M').page n from rfl, page_nat]
    exact h.pages n
  have hb3 : Below w2.heap.size w2 w3 := by rw [hw3]; exact (Below.refl _ _).alloc (Nat.le_refl _) _
  have s3 : w3.heap.size = w2.heap.size + 1 := by rw [hw3]; simp
  have hFF : Fr (fun k => ok k ∨ wr.heap.size ≤ k) wr w3 := by
    refine ((h.fr.wide (fun k _ hk => .inl hk)).trans hF (fun k hk => .inl ((h.oks k hk).imp (fun h => h.1) id))).trans (Fr.of_below (ok := fun _ => False) hb3) (fun k hk => hk.elim)
  refine ⟨(X1.begun M').core, (X1.begun M').view, _, h.hp, hV, ⟨⟨X1.begun M', fun k => okS k ∨ (w'.heap.size ≤ k ∧ k < w2.heap.size), rfl, rfl, rfl, rfl, h.dead, TI.begun h.wrote h.marks h.jq.len h.jq.md, hS.below hb3, ?_, fun k hk => ⟨.inl hk, fun e => ?_⟩, .inr rfl⟩, fun k hk => ?_, ?_, ?_, fun k hk => ?_⟩, hFF, by omega⟩
  · show w3.heap[w2.heap.size]? = some (.cells #[dp X1.p] _ _)
    rw [h.hp, hw3]
    exact heap_alloc_new w2 _
  · rcases hk with hk | hk
    · have := h.lt k hk; omega
    · omega
  · rcases hk with (hk | hk) | hk
    · rcases h.oks k hk with h' | h'
      · exact hfresh k h'.1
      · omega
    · omega
    · omega
  · have := hV 0
    rw [show ((0 : Nat) : Int) = 0 from rfl] at this
    rw [this]; exact hz
  · exact hb.trans (hFF.below (fun k hk => hk.elim (hfresh k) (fun h => by omega)) hsb)
  · rcases hk with (hk | hk) | hk
    · have := h.lt k hk; omega
    · omega
    · omega
/-- a file of pages and its model, behind it -/
structure NS (w wr : World) (g : Nat) (B : PG) (M : DM) (V : Int → Bytes) (cnt : Int) (ok okm : Nat → Prop) (mb : Nat) (hv tv : Value) (L : List Int) (T : List (Nat × Nat)) (R : List Int) : Prop where
  fs : FS w wr g B M V cnt ok
  mm : MM w wr okm mb hv tv L T R V
  srt : L.Pairwise (· < ·)
  held : ∀ m, HeldP (V 0) m ↔ m ∈ L
  root : ∀ i, i < 8 → R[i]? = some (wordZ (V 0) (2 * i))
section
variable {w wr w' : World} {g : Nat} {B : PG} {M : DM} {V : Int → Bytes} {cnt : Int} {ok okm : Nat → Prop} {mb : Nat} {hv tv : Value} {L : List Int} {T : List (Nat × Nat)} {R : List Int}
theorem NS.step (h : NS w wr g B M V cnt ok okm mb hv tv L T R) (hb : Below wr.heap.size wr w') : NS w w' g B M V cnt ok okm mb hv tv L T R :=
  ⟨h.fs.step hb, h.mm.move hb.size (fun k hk _ _ => hb.block k hk) (fun _ h => .inl h), h.srt, h.held, h.root⟩
theorem NS.rootcell (h : NS w wr g B M V cnt ok okm mb hv tv L T R) {i : Nat} (h1 : i < 8) : wr.cell? ⟨mb, 2 + i, none⟩ = some (.int .i64 (wordZ (V 0) (2 * i))) := by
  rw [cell_of_row wr mb (2 + i) _ _ (0, 0) h.mm.md.blk]
  have := h.root i h1
  rw [show 2 + i = i + 1 + 1 by omega]
  simp [this]
theorem NS.textcell (h : NS w wr g B M V cnt ok okm mb hv tv L T R) {j : Nat} {n : Int} (hj : L[j]? = some n) :
    (V n).length = 512 ∧ ∃ tb tc t, tv = .slice (some ⟨tb, 0, none⟩) L.length tc ∧ T[j]? = some t ∧ wr.cell? ⟨tb, j, none⟩ = some (.slice (some ⟨t.1, 0, none⟩) 512 t.2) ∧ U8.C wr (some ⟨t.1, 0, none⟩) 512 (V n) ∧ 512 ≤ t.2 := by
  have hjl := (List.getElem?_eq_some_iff.1 hj).1
  have htl := h.mm.md.tl
  obtain ⟨tb, tc, hte, _, _, cs, hcs⟩ := Kd.R_form h.mm.md.text (by omega)
  rw [htl] at hte
  subst hte
  have hcell := (Kd.R_celln (0, 0) h.mm.md.text (j : Int) (by omega) (by omega)).1
  rw [Int.toNat_natCast] at hcell
  have hT : T[j]? = some (rdOf (0, 0) T (j : Int)) := by
    rw [List.getElem?_eq_getElem (by omega)]
    simp [rdOf, List.getD_eq_getElem?_getD, show j < T.length by omega]
  obtain ⟨h3, _, _⟩ := h.mm.text j n _ hj hT
  obtain ⟨hC, hc, hl⟩ := C_of_row h3
  exact ⟨hl, tb, tc, _, rfl, hT, hcell, hC, hc⟩
end
theorem ns_anew {w wr w' w2 w3 : World} {g : Nat} {B : PG} {V : Int → Bytes} {cnt : Int} {ok okS : Nat → Prop} {X1 : PG} {M' : DM} {mb : Nat} {hv tv : Value} {L : List Int} {T : List (Nat × Nat)} {R : List Int} {N : Nat} (hM : MS w wr g B V cnt ok mb hv tv L T R N) (h : CM w wr w' g B V ok okS X1 M') (hS2 : SLeft w' (X1.begun M') M' okS w2) (hw3 : w3 = w2.alloc (.cells #[dp B.p] 137)) :
    ∃ B2 V2 cnt2 ok2, NS w w3 w2.heap.size B2 M' V2 cnt2 ok2 ok mb hv tv L T R := by
  obtain ⟨B2, V2, cnt2, _, hV, hF, hFr, hs⟩ := f_anew h hS2 hw3 hM.fs.below hM.fs.fresh hM.fs.good
  have hV0 : V2 0 = V 0 := hV 0
  refine ⟨B2, V2, cnt2, _, hF, (hM.mm.move hFr.size (fun k hk hn _ => hFr.block k hk (fun e => e.elim hn (fun e => by omega))) (fun _ h => .inl h)).text_eq (fun p hp => ?_), hM.srt, by rw [hV0]; exact hM.held, by rw [hV0]; exact hM.root⟩
  have h0 := hM.pos hp
  rw [show p = ((p.toNat : Nat) : Int) by omega]
  exact hV _
end Go.Proofs.YtmdpgjdepflbmaaGreat

/-
  news: the pages that are not as they were committed.
-/
import Derived.Test.YtmdpgjdepflbmaaGreatCG
import Derived.Test.YtmdpgjdepflbmaaGreatCI
namespace Go.Proofs.YtmdpgjdepflbmaaGreat
open Go.RowKit Go.Maps Go.Proofs.YtmdpgjdepflbmaaGreatW.PrintWords Go.Proofs.YtmdpgjdepflbmaaGreatW.PrintLast Go.Proofs.YtmdpgjdepflbmaaGreatW.PrintMore
open Go.Proofs.YtmdpgjdepflbmaaGreat.PPagerFolds
set_option linter.unusedVariables false
set_option linter.unusedSimpArgs false

theorem eqs_l (a b : List Int) (hl : a.length = b.length) (hb : a.length < 4611686018427387904) : ∀ (k i : Nat), i ≤ a.length → a.length < i + k → (∀ j, j < i → a.getD j 0 = b.getD j 0) → slices_Equal_byte_byte.l0 k a b (a.length : Int) i = some (decide (a = b))
  | 0, i, h1, h2, h3 => by omega
  | k + 1, i, h1, h2, h3 => by
    unfold slices_Equal_byte_byte.l0
    by_cases hc : i < a.length
    · rw [if_pos (by omega), if_pos (by omega), if_pos (by omega), if_pos (by omega), rd_at, rd_at]
      by_cases e : a.getD i 0 = b.getD i 0
      · rw [if_pos e, wrap64_small (by omega) (by omega)]
        exact eqs_l a b hl hb k (i + 1) (by omega) (by omega) (fun j hj => by
          by_cases ej : j = i
          · subst ej; exact e
          · exact h3 j (by omega))
      · rw [if_neg e, decide_eq_false (fun h => e (by rw [h]))]
    · rw [if_neg (by omega), decide_eq_true]
      apply List.ext_getElem hl
      intro j h4 h5
      have := h3 j (by omega)
      rwa [List.getD_eq_getElem?_getD, List.getD_eq_getElem?_getD, List.getElem?_eq_getElem h4, List.getElem?_eq_getElem h5] at this
theorem eqs_f (a b : List Int) (hb : a.length < 4611686018427387904) : slices_Equal_byte_byte.f (a.length + 1) a b = some (decide (a = b)) := by
  unfold slices_Equal_byte_byte.f
  by_cases hl : a.length = b.length
  · rw [if_pos (by omega)]
    exact eqs_l a b hl hb (a.length + 1) 0 (by omega) (by omega) (fun j hj => by omega)
  · rw [if_neg (by omega), decide_eq_false (fun h => hl (by rw [h]))]
theorem equal_any {w : World} {A A' : Option Addr} {n c n' c' : Nat} {a b : List Int} (ha : (Kd.int .u8).C w A n a) (hc : n ≤ c) (hb : (Kd.int .u8).C w A' n' b) (hc' : n' ≤ c') (hs : n < 4611686018427387904) :
    Calls Tryz.prog 90 #[.slice A n c, .slice A' n' c'] w fun e w' => e = .returned (.bool (decide (a = b))) ∧ ∃ m, w' = w.drewN m := by
  obtain rfl : a.length = n := ha.1
  obtain rfl : b.length = n' := hb.1
  refine (slices_Equal_byte_byte.calls _ A c a A' c' b _ w ha hc hb hc' (eqs_f a b hs)).mono ?_
  rintro e w' ⟨rfl, ⟨m, rfl⟩⟩
  exact ⟨rfl, m, rfl⟩

theorem pg_length (X : PG) {n : Int} (h0 : 0 ≤ n) : (X.page n).length = 512 := by
  unfold PG.page
  split
  · rw [List.length_take, List.length_drop]; omega
  · exact List.length_replicate
theorem below_grown {a b : World} (h : Below a.heap.size a b) : a.grownBy b none := ⟨h.os, h.tape, h.output, h.size, fun k hk _ => h.block k hk⟩

/-- a map of pages: what its values are; their blocks are such as Q says -/
structure PgM (w : World) (b : Nat) (f : Int → Option Value) (sz : Nat) (pg : Own) (Q : Nat → Prop) : Prop where
  map : SMap Tryz.prog 3 w b f sz
  none_ : ∀ x, f x = none → pg x = none
  some_ : ∀ x v, f x = some v → ∃ ad c bs, v = .slice (some ad) 512 c ∧ 512 ≤ c ∧ U8.C w (some ad) 512 bs ∧ Q ad.block ∧ ad.block < w.heap.size ∧ pg x = some bs ∧ bs.length = 512 ∧ 0 ≤ x ∧ x < 4096
theorem OwnAt.pgm {w : World} {ok : Nat → Prop} {b : Nat} {own : Own} (h : OwnAt w ok b own) : ∃ f sz, PgM w b f sz own ok := by
  obtain ⟨ho, f, sz, hS, hn, hs⟩ := h
  refine ⟨f, sz, hS, hn, fun x v hx => ?_⟩
  obtain ⟨h0, h1, bs, hb, hl, hR⟩ := hs x v hx
  obtain ⟨A, c, rfl, hc, hC⟩ := hR.reads
  rw [hl] at hc hC ⊢
  cases A with
  | none => exact absurd (C_cells hC (by omega)) (fun ⟨ad, e, _⟩ => by cases e)
  | some ad => exact ⟨ad, c, bs, rfl, hc, hC, hR.1 _ rfl, hR.lt rfl, hb, hl, h0, h1⟩
theorem PgM.few {w : World} {b sz : Nat} {f : Int → Option Value} {pg : Own} {Q : Nat → Prop} (h : PgM w b f sz pg Q) : sz ≤ 4096 :=
  few_keys h.map (fun x v hx => by obtain ⟨_, _, _, _, _, _, _, _, _, _, h0, h1⟩ := h.some_ x v hx; exact ⟨h0, h1⟩)
theorem PgM.move {w w' : World} {b sz : Nat} {f : Int → Option Value} {pg : Own} {Q Q' : Nat → Prop} (h : PgM w b f sz pg Q) (hb : w'.heap[b]? = w.heap[b]?) (hm : ∀ k, Q k → k < w.heap.size → w'.heap[k]? = w.heap[k]?) (hs : w.heap.size ≤ w'.heap.size) (hQ : ∀ k, Q k → k < w.heap.size → Q' k) : PgM w' b f sz pg Q' :=
  ⟨h.map.move hb, h.none_, fun x v hx => by
    obtain ⟨ad, c, bs, e, hc, hC, hq, hl, r⟩ := h.some_ x v hx
    refine ⟨ad, c, bs, e, hc, ⟨hC.1, hC.2.1, fun hn => ?_⟩, hQ _ hq hl, by omega, r⟩
    obtain ⟨ad', e', hcells⟩ := hC.2.2 hn
    refine ⟨ad', e', fun j p hj => ?_⟩
    obtain ⟨vs, h1, h2, h3⟩ := hcells j p hj
    refine ⟨vs, h1, h2, fun i u hu => ?_⟩
    injection e' with e'
    subst e'
    have := h3 i u hu
    have hbk : (ad.add (j * U8.sz + i)).block = ad.block := by unfold Addr.add; split <;> rfl
    refine (World.cell?_of_block (w := w) (a := ad.add (j * U8.sz + i)) ?_).trans this
    rw [hbk]
    exact hm _ hq hl⟩
theorem PgM.below {w w' : World} {b sz : Nat} {f : Int → Option Value} {pg : Own} {Q : Nat → Prop} (h : PgM w b f sz pg Q) (hb : Below w.heap.size w w') : PgM w' b f sz pg Q :=
  h.move (hb.block b h.map.lt) (fun k _ hk => hb.block k hk) hb.size (fun _ h _ => h)

/-- what a transaction commits -/
def newsP (X : PG) : Own := fun n => match X.own n with
  | none => none
  | some b => if ((X.was.length / 512 : Nat) : Int) ≤ n ∨ b ≠ X.page n then some b else none
theorem newsP_none {X : PG} {n : Int} (h : X.own n = none) : newsP X n = none := by unfold newsP; rw [h]
theorem newsP_some {X : PG} {n : Int} {b : Bytes} (h : X.own n = some b) : newsP X n = if ((X.was.length / 512 : Nat) : Int) ≤ n ∨ b ≠ X.page n then some b else none := by unfold newsP; rw [h]

/-- what holds at news' loop's head -/
structure NJ (w : World) (bo : Nat) (X : PG) (f : Int → Option Value) (sz : Nat) (wr : World) : Prop where
  ex : ∃ left cnt g gs, SRg Tryz.prog 3 wr bo (w.heap.size + 1) f sz left cnt ∧ SMap Tryz.prog 3 wr w.heap.size g gs ∧ (∀ x, g x = if left x = true then none else if (newsP X x).isSome = true then f x else none)
  below : Below w.heap.size w wr
set_option maxHeartbeats 1000000 in
set_option maxRecDepth 100000 in
theorem news_any {w : World} {X : PG} {ok : Nat → Prop} {bo : Nat} {vw vm : Value} (h : PRep w X ok bo vw vm) (hi : X.inn = true) (hw : X.was.length ≤ 2097152) :
    Calls Tryz.prog 56 #[dp X.p] w fun e w' => e = .returned (.map (some w.heap.size)) ∧ (∃ f sz, PgM w' w.heap.size f sz (newsP X) ok) ∧ Below w.heap.size w w' := by
  obtain ⟨f, sz, hM⟩ := (h.own hi).pgm
  have HM := Aside0.mk hM
  have H := Aside0.mk h
  have hplt := h.lt
  have c8 := h.cell 8
  rw [hi, if_pos rfl] at c8
  have c7 := h.cell 7
  obtain ⟨A7, k7, hv7⟩ := h.was.slice
  subst hv7
  obtain ⟨p, hp⟩ : ∃ p, p = X.p := ⟨_, rfl⟩
  rw [← hp] at hplt c8 c7 ⊢
  replace c8 : (w.alloc (.map #[] 0)).cell? ⟨p, 8, none⟩ = some (.map (some bo)) := by
    rw [World.cell?_of_block (w := w) (a := ⟨p, 8, none⟩) (Below.heap_alloc w _ p hplt)]; exact c8
  obtain ⟨n7, hn7⟩ : ∃ n7, n7 = X.was.length := ⟨_, rfl⟩
  rw [← hn7] at c7 hw
  have HP := Aside0.mk (And.intro hp (And.intro hn7 (And.intro hi c7)))
  have hmA : SMap Tryz.prog 3 (w.alloc (.map #[] 0)) bo f sz := hM.map.move (Below.heap_alloc w _ bo hM.map.lt)
  have HMA := Aside0.mk hmA
  have hmm := @run_makeMap Tryz.prog
  have e1 : (w.alloc (.map #[] 0)).heap.size = w.heap.size + 1 := by simp
  clear h hM hp hn7 hi hmA c7
  go_enter Tryz.func56, Tryz.ntmps56
  go_wp2_with (first
    | (at_range; refine wpList_range_S _ rfl _ 110 rfl Tryz.underlying3 Tryz.underlying110 rfl HMA.out ?_; intro w0 hrg0 hg0 hs0)
    | go_in)
  go_frame
  rw [e1] at hrg0 hs0 ⊢
  have H0 := Aside0.mk (And.intro hrg0 (And.intro hg0 hs0))
  clear hrg0 hg0 hs0 c8 hmm e1
  go_loopw [4] (fun _ wr => Aside0 (NJ w bo X f sz wr)) (fun _ wr => wr.rangeLeft bo (w.heap.size + 1))
  case atStart =>
    obtain ⟨hrg0, hg0, hs0⟩ := H0.out
    refine ⟨⟨_, _, _, 0, hrg0, (SMap.made Tryz.prog 3 w).move (hg0.block w.heap.size (by simp) (by simp)), fun x => ?_⟩, ((Below.refl w.heap.size w).alloc (Nat.le_refl _) _).grown hg0 (by simp) (fun j hj => by cases hj)⟩
    by_cases hx : (f x).isSome = true
    · rw [if_pos hx]
    · rw [if_neg hx]
      have : f x = none := by simpa using hx
      rw [this]; split <;> rfl
  case round =>
    clear H0
    have HI := hrel
    clear hrel
    obtain ⟨⟨left, cnt, g, gs, hrg, hmg, hag⟩, hb⟩ := HI.out
    have HR := Aside0.mk (And.intro hrg (And.intro hmg (And.intro hag hb)))
    clear hrg hmg hag hb
    go_wp2_with (first
      | (at_next; refine wpList_next_S _ rfl _ rfl Tryz.underlying3 rfl HR.out.1 ?_ ?_)
      | go_in)
    · intro hc0 hl0
      go_wp2
      go_ret
      obtain ⟨hrg, hmg, hag, hb⟩ := HR.out
      have hPM := HM.out.below hb
      refine ⟨rfl, ⟨g, gs, hmg, fun x hx => ?_, fun x v hx => ?_⟩, hb⟩
      · rw [hag x] at hx
        by_cases hN : (newsP X x).isSome = true
        · rw [if_pos hN] at hx
          cases hfx : f x with
          | none => exact newsP_none (HM.out.none_ x hfx)
          | some v => rw [if_neg (by rw [hl0 x v hfx]; decide), hfx] at hx; cases hx
        · simpa using hN
      · rw [hag x] at hx
        split at hx
        · cases hx
        · split at hx
          · rename_i hN
            obtain ⟨ad, c, bs, e, h1, h2, h3, h4, h5, h6⟩ := hPM.some_ x v hx
            refine ⟨ad, c, bs, e, h1, h2, h3, h4, ?_, h6⟩
            rw [newsP_some h5] at hN ⊢
            split
            · rfl
            · rename_i hno
              rw [if_neg hno] at hN
              cases hN
          · cases hx
    · intro x v w1 cnt1 hfx hlx hrg1 hlt1 hg1 hs1 hen
      obtain ⟨hrg, hmg, hag, hb⟩ := HR.out
      have hb1 : Below w.heap.size w w1 := hb.grown hg1 hb.size (fun j hj => by cases hj; exact Nat.le_succ _)
      obtain ⟨ad, c, bs, rfl, hc, hC, hq, had, hown, hbl, hx0, hx1⟩ := (HM.out.below hb1).some_ x v hfx
      have c7 : w1.cell? ⟨p, 7, none⟩ = some (.slice A7 n7 k7) := (hb1.cell (p := ⟨p, 7, none⟩) hplt).trans HP.out.2.2.2
      have hmg1 := hmg.move (hg1.block w.heap.size hmg.lt (by simp))
      have H1 := Aside0.mk (And.intro hfx (And.intro hlx (And.intro hrg1 (And.intro hlt1 (And.intro hg1 (And.intro hs1 (And.intro hb1 (And.intro hown (And.intro hbl hmg1)))))))))
      have HQ := Aside0.mk (And.intro hc (And.intro hC (And.intro hq had)))
      clear hrg hmg hag hb hfx hlx hrg1 hlt1 hg1 hs1 hown hbl hmg1 hc hC hq had
      -- what is stored
      have hst : Aside0 (∀ w2, Below w1.heap.size w1 w2 → (newsP X x).isSome = true → ∃ w3, (Instr.mapUpdate 110 (.map (some w.heap.size)) (.int .i64 x) (.slice (some ad) 512 c)).run Tryz.prog w2 = .ok () w3 ∧ NJ w bo X f sz w3 ∧ w3.rangeLeft bo (w.heap.size + 1) = cnt1) := ⟨fun w2 hb2 hN => by
        obtain ⟨hfx, hlx, hrg1, hlt1, hg1, hs1, hb1, hown, hbl, hmg1⟩ := H1.out
        obtain ⟨hrg, hmg, hag, hb⟩ := HR.out
        have hmg2 := hmg1.move (hb2.block w.heap.size hmg1.lt)
        have hfew : gs ≤ 4096 := few_keys hmg (fun y u hy => by
          rw [hag y] at hy
          split at hy
          · cases hy
          · split at hy
            · obtain ⟨_, _, _, _, _, _, _, _, _, _, h0, h1⟩ := HM.out.some_ y u hy; exact ⟨h0, h1⟩
            · cases hy)
        obtain ⟨w3, hrun, hm3, ht3⟩ := hmg2.store (T := 110) Tryz.underlying3 Tryz.underlying110 (HM.out.map.2 x _ hfx).1 (by unfold maxLen; omega) (HM.out.map.2 x _ hfx).2
        have hg3 : w2.grownBy w3 (some w.heap.size) := ht3.grown
        have hrg2 := hrg1.kept (below_grown hb2) (by simp) (by simp)
        have hrg3 := hrg2.kept hg3 (fun e => by have := Option.some.inj e; have := HM.out.map.lt; omega) (fun e => by have := Option.some.inj e; omega)
        refine ⟨w3, hrun, ⟨⟨_, cnt1, _, _, hrg3, hm3, fun y => ?_⟩, ((hb1.trans (hb2.mono hb1.size)).grown hg3 (by have := hb1.size; have := hb2.size; omega) (fun j hj => by cases hj; exact Nat.le_refl _))⟩, hrg3.left_eq⟩
        by_cases e : y = x
        · subst e
          simp [hN, hfx]
        · simp only [if_neg e, hag y, decide_eq_false e, Bool.not_false, Bool.and_true]⟩
      have hdone : Aside0 (∀ w2, Below w1.heap.size w1 w2 → (newsP X x).isSome = false → NJ w bo X f sz w2 ∧ w2.rangeLeft bo (w.heap.size + 1) = cnt1) := ⟨fun w2 hb2 hN => by
        obtain ⟨hfx, hlx, hrg1, hlt1, hg1, hs1, hb1, hown, hbl, hmg1⟩ := H1.out
        obtain ⟨hrg, hmg, hag, hb⟩ := HR.out
        have hmg2 := hmg1.move (hb2.block w.heap.size hmg1.lt)
        have hrg2 := hrg1.kept (below_grown hb2) (by simp) (by simp)
        refine ⟨⟨⟨_, cnt1, g, gs, hrg2, hmg2, fun y => ?_⟩, hb1.trans (hb2.mono hb1.size)⟩, hrg2.left_eq⟩
        by_cases e : y = x
        · subst e
          rw [hag y, if_pos hlx]
          simp [hN]
        · simp only [hag y, decide_eq_false e, Bool.not_false, Bool.and_true]⟩
      have HMs := Aside0.mk (show cnt1 < wr.rangeLeft bo (w.heap.size + 1) from by rw [HR.out.1.left_eq]; exact H1.out.2.2.2.1)
      by_cases hk : ((n7 : Int) / 512) ≤ x
      · have q1 : decide ((n7 : Int) / 512 ≤ x) = true := decide_eq_true hk
        have hN : (newsP X x).isSome = true := by
          rw [newsP_some H1.out.2.2.2.2.2.2.2.1, if_pos (.inl (by rw [← HP.out.2.1]; omega))]; rfl
        obtain ⟨w3, hrun, hNJ, hleft⟩ := hst.out w1 (Below.refl _ _) hN
        have H3 := Aside0.mk (And.intro hNJ hleft)
        clear hNJ hleft hN hk
        go_wp2
        go_roundw
        case rel => exact ⟨H3.out.1⟩
        case measure => rw [H3.out.2]; exact HMs.out
      · have q1 : decide ((n7 : Int) / 512 ≤ x) = false := decide_eq_false hk
        have hPA := page_any (w := w1) (X := X) (ok := ok) ⟨bo, _, vm, H.out.move (fun k _ hk => H1.out.2.2.2.2.2.2.1.block k hk)⟩ x hx0 hx1 (by rw [← HP.out.2.1]; omega)
        rw [← HP.out.1] at hPA
        have HPA := Aside0.mk hPA
        have HK := Aside0.mk hk
        clear hPA hk
        by_cases hbs : bs = X.page x
        · have hN : (newsP X x).isSome = false := by
            rw [newsP_some H1.out.2.2.2.2.2.2.2.1, if_neg (fun h => h.elim (fun h => HK.out (by rw [HP.out.2.1]; omega)) (fun h => h hbs))]; rfl
          have HB := Aside0.mk (And.intro hbs hN)
          clear hbs hN
          go_wp2_with (first
            | (go_at_call 55; refine HPA.out.mono ?_; rintro e w2 ⟨v2, rfl, hv2, hb2⟩
               obtain ⟨A2, c2, rfl⟩ := Kd.R_slice hv2
               rw [pg_length X hx0] at hv2 ⊢
               obtain ⟨hC2, hc2, _⟩ := C_of_row hv2
               have HE := equal_any (Kd.C_below HQ.out.2.1 hb2) HQ.out.1 hC2 hc2 (by omega)
               rw [decide_eq_true HB.out.1] at HE
               replace HE := Aside0.mk HE
               have H2 := Aside0.mk hb2
               clear hv2 hb2 hC2 hc2)
            | (go_at_call 90; refine HE.out.mono ?_; rintro e w' ⟨rfl, m, rfl⟩))
          go_roundw
          case rel => exact ⟨(hdone.out _ (pw_below_drewN H2.out m) HB.out.2).1⟩
          case measure => rw [(hdone.out _ (pw_below_drewN H2.out m) HB.out.2).2]; exact HMs.out
        · have hN : (newsP X x).isSome = true := by
            rw [newsP_some H1.out.2.2.2.2.2.2.2.1, if_pos (.inr hbs)]; rfl
          have HB := Aside0.mk (And.intro hbs hN)
          clear hbs hN
          go_wp2_with (first
            | (go_at_call 55; refine HPA.out.mono ?_; rintro e w2 ⟨v2, rfl, hv2, hb2⟩
               obtain ⟨A2, c2, rfl⟩ := Kd.R_slice hv2
               rw [pg_length X hx0] at hv2 ⊢
               obtain ⟨hC2, hc2, _⟩ := C_of_row hv2
               have HE := equal_any (Kd.C_below HQ.out.2.1 hb2) HQ.out.1 hC2 hc2 (by omega)
               rw [decide_eq_false HB.out.1] at HE
               replace HE := Aside0.mk HE
               have H2 := Aside0.mk hb2
               clear hv2 hb2 hC2 hc2)
            | (go_at_call 90; refine HE.out.mono ?_; rintro e w' ⟨rfl, m, rfl⟩
               obtain ⟨w3, hrun, hNJ, hleft⟩ := hst.out _ (pw_below_drewN H2.out m) HB.out.2
               have H3 := Aside0.mk (And.intro hNJ hleft)
               clear hNJ hleft))
          go_roundw
          case rel => exact ⟨H3.out.1⟩
          case measure => rw [H3.out.2]; exact HMs.out
end Go.Proofs.YtmdpgjdepflbmaaGreat
namespace Go.Proofs.YtmdpgjdepflbmaaGreat
open Go.RowKit Go.Maps Go.Proofs.YtmdpgjdepflbmaaGreatW.PrintWords Go.Proofs.YtmdpgjdepflbmaaGreatW.PrintLast Go.Proofs.YtmdpgjdepflbmaaGreatW.PrintMore
open Go.Proofs.YtmdpgjdepflbmaaGreat.PPagerFolds
set_option linter.unusedVariables false
set_option linter.unusedSimpArgs false

/-- pages written one behind the other -/
def wrs (pg : Own) : DM → List Int → DM
  | M, [] => M
  | M, n :: L => wrs pg (wr1 M (nm sB) (n.toNat * 512) ((pg n).getD [])) L
def wsM (pg : Own) (M : DM) (L : List Int) : DM := if L = [] then M else sy1 (wrs pg M L) (nm sB)
theorem wrs_snoc (pg : Own) (n : Int) : ∀ (L : List Int) (M : DM), wrs pg M (L ++ [n]) = wr1 (wrs pg M L) (nm sB) (n.toNat * 512) ((pg n).getD [])
  | [], M => rfl
  | m :: L, M => by simp only [List.cons_append, wrs]; exact wrs_snoc pg n L _
theorem wrs_quiet (pg : Own) : ∀ (L : List Int) (M : DM) (c : Int), Quiet M c → (∀ n ∈ L, 0 ≤ n ∧ n < 4096 ∧ ((pg n).getD []).length = 512) → Quiet (wrs pg M L) (c + L.length)
  | [], M, c, h, _ => by simpa [wrs] using h
  | m :: L, M, c, h, hL => by
    obtain ⟨h0, h1, h2⟩ := hL m (by simp)
    have := wrs_quiet pg L _ (c + 1) (h.wr1 (x := nm sB) (.inl rfl) (a := m.toNat * 512) (b := (pg m).getD []) (by rw [h2]; omega)) (fun n hn => hL n (by simp [hn]))
    simp only [wrs, List.length_cons]
    rw [show c + ((L.length + 1 : Nat) : Int) = c + 1 + L.length by omega]
    exact this
theorem wrs_there1 (pg : Own) (n : Int) : ∀ (L : List Int) (M : DM), (M.fs (nm sB)).isSome = true → ((wrs pg M L).fs (nm sB)).isSome = true
  | [], M, h => h
  | m :: L, M, _ => wrs_there1 pg n L _ some_wr
theorem wrs_there (pg : Own) (L : List Int) (M : DM) (h : L ≠ []) : ((wrs pg M L).fs (nm sB)).isSome = true := by
  cases L with
  | nil => exact absurd rfl h
  | cons n L => exact wrs_there1 pg n L _ some_wr

set_option maxHeartbeats 2000000 in
set_option maxRecDepth 100000 in
theorem writes_any {w : World} {d p b sz : Nat} {M : DM} {ok Q : Nat → Prop} {c : Int} {f : Int → Option Value} {pg : Own} (h : DiskAt w d M ok) (hq : Quiet M c) (hc : c + 5000 < 1000000) (hM : PgM w b f sz pg Q) (hQ : ∀ k, Q k → ¬ ok k) (hb : ¬ ok b) (hp : w.cell? ⟨p, 0, none⟩ = some (dptr d)) (hpk : ¬ ok p) {L : List Int} (hL : IsInts f L) :
    Calls Tryz.prog 93 #[dp p, .map (some b)] w fun e w' => e = .returned (.int .i64 0) ∧ Left w d (wsM pg M L) ok w' := by
  obtain ⟨ok1, hok1⟩ : ∃ ok1 : Nat → Prop, ok1 = fun k => ok k ∧ k < w.heap.size := ⟨_, rfl⟩
  have hlen := hM.map.size_keys Tryz.underlying3 hL
  have hfew := hM.few
  have HKy := Aside0.mk (callsIn_wide.1 (Tryz.maps_Keys_I (some b) w))
  have HSo := Aside0.mk (sorted_pages hM.map (by omega) hL)
  have hmem : ∀ n ∈ L, 0 ≤ n ∧ n < 4096 ∧ ((pg n).getD []).length = 512 := fun n hn => by
    obtain ⟨v, hv⟩ := Option.isSome_iff_exists.1 ((hL.2 n).1 hn)
    obtain ⟨ad, c', bs, _, _, _, _, _, hbs, hl, h0, h1⟩ := hM.some_ n v hv
    exact ⟨h0, h1, by rw [hbs]; exact hl⟩
  obtain ⟨l, hl⟩ : ∃ l, l = L.length := ⟨_, rfl⟩
  have HI := Aside0.mk (And.intro hM (And.intro hL (And.intro hmem (And.intro hok1 (And.intro hl (And.intro hQ (And.intro hb hpk)))))))
  have HD := Aside0.mk (And.intro h (And.intro hq hc))
  have HP := Aside0.mk hp
  have hl4 : l ≤ 4096 := by omega
  clear h hq hc hM hQ hb hpk hL hmem hlen hfew hok1 hp hl
  go_enter Tryz.func93, Tryz.ntmps93
  go_wp2_with (first
    | (go_at_call 122; refine HKy.out.mono ?_; rintro e w' ⟨rfl, rfl⟩)
    | (go_at_call 121; refine HSo.out.mono ?_; rintro e W ⟨v1, rfl, hR1, hbW⟩
       obtain ⟨A1, c1, rfl, hC1, hc1⟩ := R_row hR1
       rw [← HI.out.2.2.2.2.1] at hC1 hc1 ⊢
       have HW := Aside0.mk (And.intro hC1 (And.intro hbW hR1))
       clear hC1 hbW hR1))
  go_loopw [12] (fun v12 wr => ∃ i : Nat, v12 = .int .i64 i ∧ i ≤ l ∧ Aside0 (Left W d (wrs pg M (L.take i)) ok1 wr)) (fun v12 _ => l - (intOf v12).toNat)
  case atStart =>
    refine ⟨0, rfl, by omega, ⟨?_⟩⟩
    rw [List.take_zero]
    obtain ⟨hM, hL, hmem, hok1, hl, hQ, hb, hpk⟩ := HI.out
    have hbW := HW.out.2.1
    exact Left.same (by rw [hok1]; exact HD.out.1.tight.move (fun k hk _ => hbW.block k hk.2))
  case round =>
    obtain ⟨i, rfl, hi, HL⟩ := hrel
    obtain ⟨hM, hL, hmem, hok1, hl, hQ, hb, hpk⟩ := HI.out
    obtain ⟨hC1, hbW, hR1⟩ := HW.out
    obtain ⟨okx, hD, hkx, hF⟩ := HL.out
    have hsW := hbW.size
    have hsr := hF.size
    have hold : ∀ k, ¬ ok k → k < w.heap.size → wr.heap[k]? = w.heap[k]? := fun k hk hlt => (hF.block k (by omega) (fun h => hk (by rw [hok1] at h; exact h.1))).trans (hbW.block k hlt)
    have hpl : p < w.heap.size := World.block_lt_of_cell? _ _ HP.out
    have c0 : wr.cell? ⟨p, 0, none⟩ = some (dptr d) := (World.cell?_of_block (w := w) (a := ⟨p, 0, none⟩) (hold p hpk hpl)).trans HP.out
    have hMr : PgM wr b f sz pg Q := hM.move (hold b hb hM.map.lt) (fun k hk hlt => hold k (hQ k hk) hlt) (by omega) (fun _ h _ => h)
    have hqi : Quiet (wrs pg M (L.take i)) (c + i) := by
      have := wrs_quiet pg (L.take i) M c HD.out.2.1 (fun n hn => hmem n (List.mem_of_mem_take hn))
      rwa [List.length_take, Nat.min_eq_left (by omega)] at this
    by_cases hlt : i < l
    · have hil : i < L.length := by omega
      obtain ⟨x, hx⟩ : ∃ x, L[i]? = some x := ⟨_, List.getElem?_eq_getElem hil⟩
      have hxL := List.mem_of_getElem? hx
      obtain ⟨hx0, hx1, _⟩ := hmem x hxL
      obtain ⟨y, rfl⟩ : ∃ y : Nat, x = (y : Int) := ⟨x.toNat, by omega⟩
      obtain ⟨v, hv⟩ := Option.isSome_iff_exists.1 ((hL.2 _).1 hxL)
      obtain ⟨ad, cx, bs, rfl, hcx, _, hQx, hadw, hbs, hbl, _, _⟩ := hM.some_ _ v hv
      obtain ⟨ad', cx', bs', e', _, hCx, _, _, hbs', _⟩ := hMr.some_ _ _ hv
      injection e' with e1 _ e2
      injection e1 with e1
      subst e1; subst e2
      obtain rfl : bs = bs' := by rw [hbs] at hbs'; exact Option.some.inj hbs'
      have hadl : ad.block < wr.heap.size := by omega
      clear hbs'
      have hRr := Kd.R_step hR1 (fun k hk hkl => hF.block k hkl (fun h => by rw [hok1] at h; have := h.2; omega))
      obtain ⟨A2, c2, he, hCr, hcr⟩ := R_row hRr
      rw [← hl] at he hCr
      injection he with he1 _ he2
      subst he1; subst he2
      obtain ⟨ad1, e1, hcell⟩ := Kd.at_int hCr (i : Int) (by omega) (by omega)
      subst e1
      have hrx : rd L (i : Int) = (y : Int) := by simp [rd, List.getD_eq_getElem?_getD, hx]
      rw [hrx, Int.toNat_natCast] at hcell
      have hsli : Lit.wf (.int .i64 (y : Int)) = true := (hM.map.2 _ _ hv).1
      have hlk : ∀ n, (Instr.lookup 110 (.map (some b)) (.int .i64 (y : Int)) false).run Tryz.prog (wr.drewN n) = .ok (.slice (some ad) 512 cx) (wr.drewN n) := fun n => by
        have := (hMr.map.move (w' := wr.drewN n) rfl).look (T := 110) Tryz.underlying3 Tryz.underlying110 (fun w => zero35 w) hsli
        rw [hv] at this
        exact this
      have hlk1 : (Instr.lookup 110 (.map (some b)) (.int .i64 (y : Int)) false).run Tryz.prog wr.drew = .ok (.slice (some ad) 512 cx) wr.drew := hlk 1
      have hWr := q_write (s := sB) (w := wr.drew) (cb := cx) (a := y * 512) (nb := 512) hD.drew hqi (by have := HD.out.2.2; omega) good_B (by omega) (by omega) (b := bs) ⟨C_drewN hCx 1, fun ad' e hk => by cases e; exact (hkx _ hk).elim (fun h => hQ _ hQx (by rw [hok1] at h; exact h.1)) (fun h => by omega)⟩ (fun ad' e => by cases e; exact hadl)
      rw [show ((y * 512 : Nat) : Int) = (y : Int) * 512 by simp] at hWr
      have HWr := Aside0.mk hWr
      have HX := Aside0.mk (And.intro hkx (And.intro hF (And.intro hx hbs)))
      have y0 : (0 : Int) ≤ y := by omega
      have y1 : (y : Int) < 4096 := hx1
      have q0 : decide ((i : Int) < l) = true := by simp; omega
      clear hM hL hmem hok1 hl hQ hb hpk hC1 hbW hR1 hD hkx hF hsW hsr hold hpl hMr hqi hil hx hxL hv hCx hQx hadl hadw hbs hbl hRr hCr hcr hrx hWr hsli hx0 hx1 HL
      go_wp2
      go_still_tail 9, (by kernel_rfl)
      go_wp2_with (go_at_call 116; refine HWr.out.mono ?_; rintro e w2 ⟨rfl, hL2⟩; have H2 := Aside0.mk hL2; clear hL2)
      go_roundw
      case rel =>
        obtain ⟨hkx, hF, hx, hbs⟩ := HX.out
        refine ⟨i + 1, by go_num, by omega, ⟨?_⟩⟩
        have e1 : L.take (i + 1) = L.take i ++ [(y : Int)] := by rw [List.take_add_one, hx]; rfl
        rw [e1, wrs_snoc, hbs, Int.toNat_natCast, Option.getD_some]
        exact Left.trans (M := M) hkx hF H2.out.undrew
      case measure => simp [intOf]; omega
    · have hil : i = l := by omega
      subst hil
      rw [List.take_of_length_le (by omega)] at hqi hD
      have hlen := hMr.map.len Tryz.underlying110 3
      have hsz := hMr.map.size_keys Tryz.underlying3 hL
      rw [← hsz, ← hl] at hlen
      by_cases hL0 : L = []
      · have q1 : ((i : Int) == 0) = true := by rw [hl, hL0]; rfl
        have HE := Aside0.mk (And.intro hL0 (And.intro hD (And.intro hkx hF)))
        clear hM hL hmem hok1 hl hQ hb hpk hC1 hbW hR1 hD hkx hF hsW hsr hold hpl hMr hqi hsz hL0 HL
        go_wp2
        go_ret
        obtain ⟨hL0, hD, hkx, hF⟩ := HE.out
        refine ⟨rfl, ?_⟩
        have h1 : Left W d M ok1 wr := by rw [hL0] at hD; exact ⟨okx, hD, hkx, hF⟩
        unfold wsM
        rw [if_pos hL0]
        rw [HI.out.2.2.2.1] at h1
        exact Left.loose (Fr.of_below HW.out.2.1) h1
      · have q1 : ((i : Int) == 0) = false := by
          have : L.length ≠ 0 := fun h => hL0 (List.eq_nil_of_length_eq_zero h)
          simp; omega
        have HSy := Aside0.mk (q_sync (s := sB) hD hqi (by have := HD.out.2.2; omega) good_B (wrs_there pg L M hL0))
        have HE := Aside0.mk (And.intro hL0 (And.intro hD (And.intro hkx hF)))
        clear hM hL hmem hok1 hl hQ hb hpk hC1 hbW hR1 hD hkx hF hsW hsr hold hpl hMr hqi hsz hL0 HL
        go_wp2_with (go_at_call 88; refine HSy.out.mono ?_; rintro e w2 ⟨rfl, hL2⟩; have H2 := Aside0.mk hL2; clear hL2)
        go_ret
        obtain ⟨hL0, hD, hkx, hF⟩ := HE.out
        refine ⟨rfl, ?_⟩
        have h1 : Left W d (sy1 (wrs pg M L) (nm sB)) ok1 w2 := Left.trans (M := M) hkx hF H2.out
        unfold wsM
        rw [if_neg hL0]
        rw [HI.out.2.2.2.1] at h1
        exact Left.loose (Fr.of_below HW.out.2.1) h1
end Go.Proofs.YtmdpgjdepflbmaaGreat
namespace Go.Proofs.YtmdpgjdepflbmaaGreat
open Go.RowKit Go.Maps Go.Proofs.YtmdpgjdepflbmaaGreatW.PrintWords Go.Proofs.YtmdpgjdepflbmaaGreatW.PrintLast Go.Proofs.YtmdpgjdepflbmaaGreatW.PrintMore
open Go.Proofs.YtmdpgjdepflbmaaGreat.PPagerFolds
set_option linter.unusedVariables false
set_option linter.unusedSimpArgs false

def ent (pg : Own) (x : Int) : Bytes := put4 x ++ (pg x).getD []
def blockB (count : Int) (pg : Own) (L : List Int) : Bytes := (([0] ++ put4 count) ++ put4 L.length) ++ L.flatMap (ent pg)
theorem ents_length {pg : Own} : ∀ {L : List Int}, (∀ n ∈ L, ((pg n).getD []).length = 512) → (L.flatMap (ent pg)).length = L.length * 516
  | [], _ => rfl
  | n :: L, h => by
    rw [List.flatMap_cons, List.length_append, ents_length (fun m hm => h m (by simp [hm]))]
    have := h n (by simp)
    simp only [ent, List.length_append, put4_length, this, List.length_cons]
    omega
theorem blockB_length (count : Int) {pg : Own} {L : List Int} (h : ∀ n ∈ L, ((pg n).getD []).length = 512) : (blockB count pg L).length = 9 + L.length * 516 := by
  unfold blockB
  simp only [List.length_append, put4_length, ents_length h, List.length_singleton]

/-- what holds at the loop's head -/
structure BJ (w : World) (g bk : Nat) (A3 : Option Addr) (c3 l : Nat) (count : Int) (pg : Own) (L : List Int) (i : Nat) (v5 : Value) (W : World) : Prop where
  row : U8.R 5 W w.heap.size (fun k => w.heap.size ≤ k ∧ k ≠ g) v5 ((([0] ++ put4 count) ++ put4 l) ++ (L.take i).flatMap (ent pg))
  below : Below w.heap.size w W
  keys : I64.R 3 W bk (fun k => k = g) (.slice A3 l c3) L
  lt : g < W.heap.size ∨ A3 = none
set_option maxHeartbeats 2000000 in
set_option maxRecDepth 100000 in
theorem block_any {w : World} {b sz : Nat} {f : Int → Option Value} {pg : Own} {Q : Nat → Prop} (hM : PgM w b f sz pg Q) {L : List Int} (hL : IsInts f L) (count : Int) :
    Calls Tryz.prog 92 #[.int .i64 count, .map (some b)] w fun e w' => ∃ v, e = .returned v ∧ U8.R 5 w' w.heap.size (fun k => w.heap.size ≤ k) v (blockB count pg L) ∧ Below w.heap.size w w' := by
  have hlen := hM.map.size_keys Tryz.underlying3 hL
  have hfew := hM.few
  have hmem : ∀ n ∈ L, 0 ≤ n ∧ n < 4096 ∧ ((pg n).getD []).length = 512 := fun n hn => by
    obtain ⟨v, hv⟩ := Option.isSome_iff_exists.1 ((hL.2 n).1 hn)
    obtain ⟨ad, c', bs, _, _, _, _, _, hbs, hl, h0, h1⟩ := hM.some_ n v hv
    exact ⟨h0, h1, by rw [hbs]; exact hl⟩
  obtain ⟨l, hl⟩ : ∃ l, l = L.length := ⟨_, rfl⟩
  have hsl : (sz : Int) = l := by omega
  have HM := Aside0.mk (And.intro hM (And.intro hL (And.intro hmem (And.intro hl (And.intro hlen hfew)))))
  have HP1 := Aside0.mk (put_row (w0 := w) 5 count ((Below.refl w.heap.size w).alloc (Nat.le_refl _) (.cells #[.int .u8 0] 5)) (R_one w w.heap.size _ (Nat.le_refl _) (Nat.le_refl _)) rfl (by decide))
  have hl4 : l ≤ 4096 := by omega
  have HSL := Aside0.mk hsl
  clear hM hL hlen hfew hmem hl hsl
  go_enter Tryz.func92, Tryz.ntmps92
  go_wp2_with (first
    | (go_at_call 120
       refine HP2.out.mono ?_
       rintro e w2 ⟨A2, c2, rfl, hR2, hB2⟩
       have HK := Aside0.mk (callsIn_wide.1 (Tryz.maps_Keys_I (some b) w2))
       have HS := Aside0.mk (sorted_pages (HM.out.1.map.move (hB2.block b HM.out.1.map.lt)) (by have := HM.out.2.2.2.2.2; omega) HM.out.2.1)
       have HR2 := Aside0.mk (And.intro hR2 hB2)
       clear hR2 hB2)
    | (go_at_call 120
       refine HP1.out.mono ?_
       rintro e w1 ⟨A1, c1, rfl, hR1, hB1⟩
       have hln1 : ∀ n, (Builtin.len_ #[110] 3 #[.map (some b)]).run Tryz.prog (w1.drewN n) = .ok (.int .i64 (l : Int)) (w1.drewN n) := fun n => by
         rw [← HSL.out]
         exact (HM.out.1.map.move (w' := w1.drewN n) (hB1.block b HM.out.1.map.lt)).len Tryz.underlying110 3
       have hln0 : (Builtin.len_ #[110] 3 #[.map (some b)]).run Tryz.prog w1 = .ok (.int .i64 (l : Int)) w1 := hln1 0
       have HP2 := Aside0.mk (put_row (w0 := w) (w := w1) 9 (l : Int) hB1 hR1 rfl (by decide))
       clear hR1 hB1)
    | (go_at_call 122; refine HK.out.mono ?_; rintro e w' ⟨rfl, rfl⟩)
    | (go_at_call 121; refine HS.out.mono ?_; rintro e w3 ⟨v3, rfl, hR3, hB3⟩; obtain ⟨A3, c3, rfl, hC3, hc3⟩ := R_row hR3; rw [← HM.out.2.2.2.1] at hC3 hc3 ⊢; have HR3 := Aside0.mk (And.intro hR3 (And.intro hB3 (And.intro hC3 hc3))); clear hR3 hB3 hC3 hc3))
  obtain ⟨g, hg0, hg1, hg2⟩ : ∃ g, (∀ k, (Value.slice A3 l c3).ownBlock = some k → k = g) ∧ w2.heap.size ≤ g ∧ (g < w3.heap.size ∨ A3 = none) := by
    cases A3 with
    | none => exact ⟨w3.heap.size, fun k hk => by simp [Value.ownBlock] at hk, HR3.out.2.1.size, .inr rfl⟩
    | some ad => exact ⟨ad.block, fun k hk => by simp [Value.ownBlock] at hk; exact hk.symm, by have := HR3.out.1.1 ad.block rfl; omega, .inl (Kd.R_lt HR3.out.1 ad.block rfl)⟩
  have hwg : w.heap.size ≤ g := Nat.le_trans HR2.out.2.size hg1
  have HG := Aside0.mk (And.intro hg0 (And.intro hg1 (And.intro hg2 hwg)))
  clear hg0 hg1 hg2 hwg
  go_loopw [5, 18] (fun v5 v18 wr => ∃ i : Nat, v18 = .int .i64 i ∧ i ≤ l ∧ Aside0 (BJ w g (w2.heap.size + 1) A3 c3 l count pg L i v5 wr)) (fun _ v18 _ => l - (intOf v18).toNat)
  case atStart =>
    obtain ⟨hR2, hB2⟩ := HR2.out
    obtain ⟨hR3, hB3, hC3, hc3⟩ := HR3.out
    obtain ⟨hg0, hg1, hg2, hwg⟩ := HG.out
    have hs2 := hB2.size
    have hR3' := hR3
    rw [← HM.out.2.2.2.1] at hR3'
    refine ⟨0, rfl, by omega, ⟨⟨?_, hB2.trans (hB3.mono hs2), ⟨fun k hk => hg0 k hk, hR3'.2⟩, hg2⟩⟩⟩
    refine Kd.R_mono (Kd.R_below (Kd.R_bound (by simpa using hR2)) hB3) (fun k hk => ⟨hk.1, fun e => ?_⟩)
    have := hk.2.2.1
    omega
  case round =>
    obtain ⟨i, rfl, hi, HI⟩ := hrel
    obtain ⟨hM, hL, hmem, hl, hlen, hfew⟩ := HM.out
    obtain ⟨hg0, hg1, hg2, hwg⟩ := HG.out
    have hj := HI.out
    have hsr := hj.below.size
    have hpre : ((([0] ++ put4 count) ++ put4 (l : Int)) ++ (L.take i).flatMap (ent pg)).length = 9 + i * 516 := by
      simp only [List.length_append, put4_length, List.length_singleton]
      rw [ents_length (fun n hn => (hmem n (List.mem_of_mem_take hn)).2.2), List.length_take, Nat.min_eq_left (by omega)]
    by_cases hlt : i < l
    · have hil : i < L.length := by omega
      obtain ⟨y, hx⟩ : ∃ y, L[i]? = some y := ⟨_, List.getElem?_eq_getElem hil⟩
      have hxL := List.mem_of_getElem? hx
      obtain ⟨hy0, hy1, hyl⟩ := hmem y hxL
      obtain ⟨v, hv⟩ := Option.isSome_iff_exists.1 ((hL.2 _).1 hxL)
      obtain ⟨ad, cx, bs, rfl, hcx, hCx, hQx, hadl, hbs, hbl, _, _⟩ := hM.some_ _ v hv
      obtain ⟨A2', c2', he, hCr, hcr⟩ := R_row hj.keys
      rw [← hl] at he hCr
      injection he with he1 _ he2
      subst he1; subst he2
      obtain ⟨ad1, e1, hcell⟩ := Kd.at_int hCr (i : Int) (by omega) (by omega)
      subst e1
      have hrx : rd L (i : Int) = y := by simp [rd, List.getD_eq_getElem?_getD, hx]
      rw [hrx, Int.toNat_natCast] at hcell
      have hglt : g < wr.heap.size := by
        rcases hj.lt with h | h
        · exact h
        · cases h
      have HPK := Aside0.mk (put_kept (w0 := w) y hj.below hj.row (by rw [hpre]; omega))
      have HLK := Aside0.mk (fun W (hW : Below w.heap.size w W) => by
        have := (hM.map.move (hW.block b hM.map.lt)).look (T := 110) Tryz.underlying3 Tryz.underlying110 (fun w => zero35 w) (hM.map.2 _ _ hv).1
        rw [hv] at this
        exact (show (Instr.lookup 110 (.map (some b)) (.int .i64 y) false).run Tryz.prog W = .ok (.slice (some ad) 512 cx) W from this))
      have hlk0 : (Instr.lookup 110 (.map (some b)) (.int .i64 y) false).run Tryz.prog wr.drew = .ok (.slice (some ad) 512 cx) wr.drew := HLK.out wr.drew (below_drew hj.below)
      have HPD := Aside0.mk (put_kept (w0 := w) (w := wr.drew) y (below_drew hj.below) (Kd.R_drew hj.row) (by rw [hpre]; omega))
      have HAP := Aside0.mk (fun (v6 : Value) (w5 : World) (hR5 : U8.R 5 w5 w.heap.size (fun k => (w.heap.size ≤ k ∧ k ≠ g) ∨ wr.drew.heap.size ≤ k) v6 (((([0] ++ put4 count) ++ put4 (l : Int)) ++ (L.take i).flatMap (ent pg)) ++ put4 y)) (hB5 : Below w.heap.size w w5) (hK5 : Kept wr.drew w5 (fun k => w.heap.size ≤ k ∧ k ≠ g)) => by
        have hsz : wr.heap.size ≤ w5.heap.size := hK5.1
        have hR5' : U8.R 5 w5 w.heap.size (fun k => w.heap.size ≤ k ∧ k ≠ g) v6 _ := Kd.R_mono hR5 (fun k hk => hk.elim id (fun h => by have h' : wr.heap.size ≤ k := h; exact ⟨by omega, by omega⟩))
        obtain ⟨v7, w7, h1, h2, h3⟩ := app_run w5 w.heap.size 48 48 5 (.int .u8 0) 1 Tryz.underlying48 info5 rfl (by decide) v6 _ bs (some ad) 512 cx _ hR5' (Kd.C_below hCx hB5) (fun k hk => ⟨by omega, by omega⟩) (by have := hB5.size; omega) (by simp only [List.length_append, hpre, put4_length]; omega)
        have hk7 : I64.R 3 w7 (w2.heap.size + 1) (fun k => k = g) (.slice (some ad1) l c3) L := by
          refine Kd.R_step (Kd.R_step hj.keys (fun k hk hkl => hK5.2 k hkl (fun h => h.2 hk))) (fun k hk hkl => h3.block k hkl (fun e => ?_))
          exact (hR5'.1 k e.symm).2 hk
        have hb7 : Below w.heap.size w w7 := hB5.grown h3 hB5.size (fun k hk => (hR5'.1 k hk).1)
        have hrow : U8.R 5 w7 w.heap.size (fun k => w.heap.size ≤ k ∧ k ≠ g) v7 ((([0] ++ put4 count) ++ put4 (l : Int)) ++ (L.take (i + 1)).flatMap (ent pg)) := by
          have e2 : L.take (i + 1) = L.take i ++ [y] := by rw [List.take_add_one, hx]; rfl
          rw [e2, List.flatMap_append]
          have e3 : List.flatMap (ent pg) [y] = put4 y ++ bs := by simp [ent, hbs]
          rw [e3, ← List.append_assoc, ← List.append_assoc]
          exact h2
        exact (⟨v7, w7, h1, ⟨hrow, hb7, hk7, .inl (by have := h3.size; omega)⟩⟩ : ∃ v7 w7, (Builtin.append_ #[48, 48] 48 #[v6, .slice (some ad) 512 cx]).run Tryz.prog w5 = .ok v7 w7 ∧ BJ w g (w2.heap.size + 1) (some ad1) c3 l count pg L (i + 1) v7 w7))
      clear hM hL hmem hl hlen hfew hg0 hg1 hg2 hwg hj hsr hpre hil hx hxL hy0 hy1 hyl hv hcx hCx hQx hadl hbs hbl hCr hcr hrx hglt HI HPK
      go_wp2
      refine start_ (n := 8) (S := fun w' => (Instr.lookup 110 (.map (some b)) (.int .i64 y) false).run Tryz.prog w' = .ok (.slice (some ad) 512 cx) w') (ds := [6]) #[false, false, false, false, false, false, false, false] (by kernel_rfl) rfl rfl hlk0 (fun hHeld => ?_)
      refine pure_ (i := 0) (N := some 22) (v := ?_) (a' := ?_) #[true, false, false, false, false, false, false, false] rfl rfl (by kernel_rfl) (fun _ _ _ h => h) (Or.inl ⟨by rfl, ?_⟩) ?_ ?_
      rotate_left
      · intro w'
        go_simp
        with_reducible rfl
      rotate_left
      · simp only [Act.put, List.setIfInBounds_toArray, List.set_cons_zero, List.set_cons_succ, i64_w, i32_w]
        rfl
      refine pure_ (i := 1) (N := some 23) (v := ?_) (a' := ?_) #[true, true, false, false, false, false, false, false] rfl rfl (by kernel_rfl) (fun _ _ _ h => h) (Or.inl ⟨by rfl, ?_⟩) ?_ ?_
      rotate_left
      · intro w'
        go_simp
        with_reducible rfl
      rotate_left
      · simp only [Act.put, List.setIfInBounds_toArray, List.set_cons_zero, List.set_cons_succ, i64_w, i32_w]
        rfl
      refine pure_ (i := 3) (N := some 25) (v := ?_) (a' := ?_) #[true, true, false, true, false, false, false, false] rfl rfl (by kernel_rfl) (fun _ _ _ h => h) (Or.inl ⟨by rfl, ?_⟩) ?_ ?_
      rotate_left
      · intro w'
        go_simp
        with_reducible rfl
      rotate_left
      · simp only [Act.put, List.setIfInBounds_toArray, List.set_cons_zero, List.set_cons_succ, i64_w, i32_w]
        rfl
      refine pure_ (i := 4) (N := some 26) (v := ?_) (a' := ?_) #[true, true, false, true, true, false, false, false] rfl rfl (by kernel_rfl) (fun _ _ _ h => h) (Or.inl ⟨by rfl, ?_⟩) ?_ ?_
      rotate_left
      · intro w'
        go_simp
        with_reducible rfl
      rotate_left
      · simp only [Act.put, List.setIfInBounds_toArray, List.set_cons_zero, List.set_cons_succ, i64_w, i32_w]
        rfl
      refine take_ (i := 5) (N := some 27) (v := ?_) (a' := ?_) #[true, true, false, true, true, true, false, false] rfl rfl (by kernel_rfl) (fun _ _ _ h => h) (Or.inl ⟨by rfl, ?_⟩) hHeld ?_ ?_
      rotate_left
      · rintro w' s0
        go_simp
        with_reducible rfl
      rotate_left
      · simp only [Act.put, List.setIfInBounds_toArray, List.set_cons_zero, List.set_cons_succ, i64_w, i32_w]
        rfl
      refine one_ (i := 2) (N := some 24) #[true, true, true, true, true, true, false, false] rfl rfl (by kernel_rfl) (by decide) (fun K hK => ?_)
      refine goes_ Tryz.func120 (by kernel_rfl) rfl #[u5, .int .i64 y] (by rfl) rfl rfl (by simp only [List.map_toArray, List.map_cons, List.map_nil]; rfl) ?_
      refine HPD.out.mono ?_
      rintro e w5 ⟨v6, rfl, hR5, hB5, hK5⟩
      have hlk5 := HLK.out w5 hB5
      obtain ⟨v7, w7, hrun, hJ7⟩ := HAP.out v6 w5 hR5 hB5 hK5
      have H5 := Aside0.mk hJ7
      clear hR5 hB5 hK5 hJ7
      refine ⟨_, rfl, ?_⟩
      refine hK.out _ _ hlk5 (fun hHeld => ?_)
      clear hK K
      refine norm_ (a' := ?_) ?_ ?_
      rotate_left
      · show Act.put _ (some 24) _ = _
        simp only [Act.put, List.setIfInBounds_toArray, List.set_cons_zero, List.set_cons_succ, i64_w, i32_w]
        rfl
      refine last_ (i := 6) (N := some 28) #[true, true, true, true, true, true, true, false] rfl rfl (by kernel_rfl) (by decide) (fun K hK => ?_)
      refine value_ (v := v7) (w1 := w7) (by rfl) rfl ?_ ?_
      · exact app_exec (.tmp 24) (.tmp 27) 48 rfl _ _ rfl rfl hrun
      refine hK.out _ _ ?_
      clear hK K
      refine norm_ (a' := ?_) ?_ ?_
      rotate_left
      · show Act.put _ (some 28) _ = _
        simp only [Act.put, List.setIfInBounds_toArray, List.set_cons_zero, List.set_cons_succ, i64_w, i32_w]
        rfl
      refine pure_ (i := 7) (N := some 5) (v := ?_) (a' := ?_) #[true, true, true, true, true, true, true, true] rfl rfl (by kernel_rfl) (fun _ _ _ h => h) (Or.inl ⟨by rfl, ?_⟩) ?_ ?_
      rotate_left
      · intro w'
        go_simp
        with_reducible rfl
      rotate_left
      · simp only [Act.put, List.setIfInBounds_toArray, List.set_cons_zero, List.set_cons_succ, i64_w, i32_w]
        rfl
      refine done_ (by kernel_rfl) ?_
      go_wp2
      go_roundw
      case rel => exact ⟨i + 1, by go_num, by omega, ⟨H5.out⟩⟩
      case measure => simp [intOf]; omega
    · have hil : i = l := by omega
      subst hil
      have HJ := Aside0.mk hj
      clear hM hL hmem hl hlen hfew hg0 hg1 hg2 hwg hj hsr hpre
      go_wp2
      go_ret
      obtain ⟨hM, hL, hmem, hl, hlen, hfew⟩ := HM.out
      refine ⟨u5, rfl, ?_, HJ.out.below⟩
      have hr := HJ.out.row
      rw [List.take_of_length_le (by omega)] at hr
      have e1 : blockB count pg L = (([0] ++ put4 count) ++ put4 (i : Int)) ++ L.flatMap (ent pg) := by unfold blockB; rw [hl]
      rw [e1]
      exact Kd.R_mono hr (fun k hk => hk.1)
end Go.Proofs.YtmdpgjdepflbmaaGreat
namespace Go.Proofs.YtmdpgjdepflbmaaGreat
open Go.RowKit Go.Maps Go.Proofs.YtmdpgjdepflbmaaGreatW.PrintWords Go.Proofs.YtmdpgjdepflbmaaGreatW.PrintLast Go.Proofs.YtmdpgjdepflbmaaGreatW.PrintMore
open Go.Proofs.YtmdpgjdepflbmaaGreat.PPagerFolds
set_option linter.unusedVariables false
set_option linter.unusedSimpArgs false

section
variable {w w' : World} {b sz : Nat} {f : Int → Option Value} {pg : Own} {Q : Nat → Prop}
theorem SMap.no_cell (h : SMap Tryz.prog 3 w b f sz) {ad : Addr} {n : Nat} {l : Bytes} (hC : U8.C w (some ad) n l) (hn : 0 < n) : ad.block ≠ b := by
  obtain ⟨⟨m, D, ⟨es, clock, hb, _⟩, _⟩, _⟩ := h
  obtain ⟨ad', e, hcells⟩ := C_cells hC hn
  injection e with e
  subst e
  intro hbk
  have hl : 0 < l.length := by rw [hC.1]; exact hn
  have := hcells 0 _ (by rw [List.getElem?_map, List.getElem?_eq_getElem hl]; rfl)
  have hbk2 : (ad.add 0).block = b := by rw [← hbk]; unfold Addr.add; split <;> rfl
  unfold World.cell? at this
  rw [hbk2, hb] at this
  simp at this
theorem C_at {w w' : World} {ad : Addr} {n : Nat} {l : Bytes} (hC : U8.C w (some ad) n l) (hb : w'.heap[ad.block]? = w.heap[ad.block]?) : U8.C w' (some ad) n l := by
  refine ⟨hC.1, hC.2.1, fun hn => ?_⟩
  obtain ⟨ad', e, hc⟩ := hC.2.2 hn
  refine ⟨ad', e, fun j p hj => ?_⟩
  obtain ⟨c, hl, hK, hcell⟩ := hc j p hj
  refine ⟨c, hl, hK, fun i u hu => ?_⟩
  have h1 := hcell i u hu
  injection e with e
  subst e
  have hbk : (ad.add (j * U8.sz + i)).block = ad.block := by unfold Addr.add; split <;> rfl
  refine (World.cell?_of_block ?_).trans h1
  rw [hbk]
  exact hb
/-- a page is laid in a map of pages -/
theorem PgM.put (h : PgM w b f sz pg Q) {x : Int} (hx0 : 0 ≤ x) (hx1 : x < 4096) {g c : Nat} {bs : Bytes} (hc : 512 ≤ c) (hC : U8.C w (some ⟨g, 0, none⟩) 512 bs) (hl : bs.length = 512) (hQ : Q g) (hlt : g < w.heap.size) :
    ∃ w1, (Instr.mapUpdate 110 (.map (some b)) (.int .i64 x) (.slice (some ⟨g, 0, none⟩) 512 c)).run Tryz.prog w = .ok () w1 ∧ (∃ sz', PgM w1 b (fun y => if y = x then some (.slice (some ⟨g, 0, none⟩) 512 c) else f y) sz' (fun y => if y = x then some bs else pg y) Q) ∧ w.grownBy w1 (some b) := by
  have hfew := h.few
  obtain ⟨w1, hrun, hm, ht⟩ := h.map.store (T := 110) Tryz.underlying3 Tryz.underlying110 (x := x) (wf4096 hx0 hx1) (by unfold maxLen; omega) (v := .slice (some ⟨g, 0, none⟩) 512 c) rfl
  have hg : w.grownBy w1 (some b) := ht.grown
  have hs := hg.size
  refine ⟨w1, hrun, ⟨_, hm, fun y hy => ?_, fun y v hy => ?_⟩, hg⟩
  · by_cases e : y = x
    · simp [e] at hy
    · simp only [if_neg e] at hy ⊢; exact h.none_ y hy
  · by_cases e : y = x
    · simp only [if_pos e] at hy ⊢
      obtain rfl := Option.some.inj hy
      have hne := h.map.no_cell hC (by omega)
      exact ⟨⟨g, 0, none⟩, c, bs, rfl, hc, C_at hC (hg.block g hlt (fun e' => hne (by injection e'))), hQ, by show g < _; omega, rfl, hl, by omega, by omega⟩
    · simp only [if_neg e] at hy ⊢
      obtain ⟨ad, c', bs', e1, hc', hC', hq, hl', r⟩ := h.some_ y v hy
      have hne := h.map.no_cell hC' (by omega)
      exact ⟨ad, c', bs', e1, hc', C_at hC' (hg.block _ hl' (fun e' => hne (by injection e'))), hq, by omega, r⟩
theorem PgM.grown {row : Option Nat} (h : PgM w b f sz pg Q) (hg : w.grownBy w' row) (hb : some b ≠ row) (hr : ∀ k, row = some k → ¬ Q k) : PgM w' b f sz pg Q :=
  ⟨h.map.move (hg.block b h.map.lt hb), h.none_, fun x v hx => by
    obtain ⟨ad, c, bs, e, hc, hC, hq, hl, r⟩ := h.some_ x v hx
    exact ⟨ad, c, bs, e, hc, C_at hC (hg.block _ hl (fun e' => hr ad.block e'.symm hq)), hq, by have := hg.size; omega, r⟩⟩
theorem PgM.made (w : World) (Q : Nat → Prop) : PgM (w.alloc (.map #[] 0)) w.heap.size (fun _ => none) 0 (fun _ => none) Q := ⟨SMap.made _ _ _, fun _ _ => rfl, fun x v h => by cases h⟩
end

/-- what stood on the pages that are no longer to come -/
def oldP (X : PG) (f : Int → Option Value) (left : Int → Bool) : Own := fun x => if left x = false ∧ (f x).isSome = true ∧ x < ((X.was.length / 512 : Nat) : Int) then some (X.page x) else none
/-- what holds at byJournal's loop's head -/
structure JJ (w : World) (bl : Nat) (X : PG) (f : Int → Option Value) (sz : Nat) (wr : World) : Prop where
  ex : ∃ left cnt g gs, SRg Tryz.prog 3 wr bl (w.heap.size + 1) f sz left cnt ∧ PgM wr w.heap.size g gs (oldP X f left) (fun k => w.heap.size + 2 ≤ k)
  below : Below w.heap.size w wr
/-- the bytes of the base -/
def seenB (M : DM) : Bytes := ((M.fs (nm sB)).getD ([], [])).2
def wB (pg : Own) : Bytes → List Int → Bytes
  | l, [] => l
  | l, n :: L => wB pg (writeB l (n.toNat * 512) ((pg n).getD [])) L
theorem nmB_J : nm sB ≠ nm sJ := by decide
theorem nmB_L : nm sB ≠ nm sL := by decide
theorem wrs_fs (pg : Own) : ∀ (L : List Int) (M : DM), (∀ x, x ≠ nm sB → (wrs pg M L).fs x = M.fs x) ∧ seenB (wrs pg M L) = wB pg (seenB M) L
  | [], M => ⟨fun _ _ => rfl, rfl⟩
  | n :: L, M => by
    obtain ⟨h1, h2⟩ := wrs_fs pg L (wr1 M (nm sB) (n.toNat * 512) ((pg n).getD []))
    refine ⟨fun x hx => ?_, ?_⟩
    · rw [show wrs pg M (n :: L) = wrs pg (wr1 M (nm sB) (n.toNat * 512) ((pg n).getD [])) L from rfl, h1 x hx]
      simp [wr1, setF, hx]
    · rw [show wrs pg M (n :: L) = wrs pg (wr1 M (nm sB) (n.toNat * 512) ((pg n).getD [])) L from rfl, h2]
      simp [wB, seenB, wr1, setF]
theorem ly1_other (M : DM) (x : Name) (a : Nat) (b : Bytes) {y : Name} (h : y ≠ x) : (ly1 M x a b).fs y = M.fs y := by simp [ly1, sy1, wr1, setF, h]
theorem ly1_some (M : DM) (x : Name) (a : Nat) (b : Bytes) : ((ly1 M x a b).fs x).isSome = true := by simp [ly1, sy1, wr1, setF]
theorem ly1_quiet {M : DM} {c : Int} {x : Name} (h : Quiet M c) (hx : x = nm sB ∨ x = nm sJ ∨ x = nm sL) {a : Nat} {b : Bytes} (hb : 0 < b.length) (ha : a + b.length ≤ 4194304) : Quiet (ly1 M x a b) (c + 4) := by
  have := (((h.wr1 (x := x) hx (a := a) (b := b) ha).sy1 hx).wr1 hx (a := a) (b := [1]) (by simp; omega)).sy1 hx
  exact this.more (by omega)
/-- what byJournal leaves -/
def jM (pg : Own) (M : DM) (blk : Bytes) (L : List Int) : DM := de1 (sy1 (wrs pg (ly1 M (nm sJ) 0 blk) L) (nm sB)) (nm sJ)
theorem jM_fs (pg : Own) (M : DM) (blk : Bytes) (L : List Int) : (jM pg M blk L).fs = fun x => if x = nm sJ then none else if x = nm sB then some (wB pg (seenB M) L, wB pg (seenB M) L) else M.fs x := by
  obtain ⟨h1, h2⟩ := wrs_fs pg L (ly1 M (nm sJ) 0 blk)
  have h3 : seenB (ly1 M (nm sJ) 0 blk) = seenB M := by unfold seenB; rw [ly1_other _ _ _ _ nmB_J]
  rw [h3] at h2
  funext x
  unfold jM de1 setF
  by_cases e1 : x = nm sJ
  · simp [e1]
  · simp only [if_neg e1]
    unfold sy1 setF
    by_cases e2 : x = nm sB
    · simp only [if_pos e2]
      unfold seenB at h2
      simp only [h2, seenB]
    · simp only [if_neg e2]
      rw [h1 x e2, ly1_other _ _ _ _ e1]
theorem jM_quiet {pg : Own} {M : DM} {blk : Bytes} {L : List Int} {c : Int} (h : Quiet M c) (hb : 0 < blk.length) (hbl : blk.length ≤ 4194304) (hL : ∀ n ∈ L, 0 ≤ n ∧ n < 4096 ∧ ((pg n).getD []).length = 512) : Quiet (jM pg M blk L) (c + 6 + L.length) := by
  have h1 := ly1_quiet h (x := nm sJ) (.inr (.inl rfl)) (a := 0) (b := blk) hb (by omega)
  have h2 := wrs_quiet pg L _ _ h1 hL
  have h3 := (h2.sy1 (x := nm sB) (.inl rfl)).de1 (x := nm sJ) (.inr (.inl rfl))
  exact h3.more (by omega)

set_option maxHeartbeats 2000000 in
set_option maxRecDepth 100000 in
theorem byJournal_any {w : World} {X : PG} {M : DM} {okP okD : Nat → Prop} {c : Int} {bl sz : Nat} {f : Int → Option Value} {pg : Own} {Q : Nat → Prop} (hP : PgAt w X okP) (hD : DiskAt w X.d M okD) (hq : Quiet M c) (hc : c + 10000 < 1000000) (hPD : ∀ k, okP k → ¬ okD k) (hM : PgM w bl f sz pg Q) (hQ : ∀ k, Q k → ¬ okD k) (hbl : ¬ okD bl) (hw : X.was.length ≤ 2097152) {L : List Int} (hL : IsInts f L) (hL0 : L ≠ []) :
    Calls Tryz.prog 57 #[dp X.p, .map (some bl)] w fun e w' => e = .returned (.int .i64 0) ∧ ∃ blk, 0 < blk.length ∧ blk.length ≤ 4194304 ∧ Left w X.d (jM pg M blk L) okD w' := by
  obtain ⟨bo, vw, vm, h⟩ := hP
  have hplt := h.lt
  have c7 := h.cell 7
  have c0 := h.cell 0
  obtain ⟨A7, k7, hv7⟩ := h.was.slice
  subst hv7
  have hokp := h.okp
  have hPP : PgAt w X okP := ⟨bo, _, vm, h⟩
  obtain ⟨p, hp⟩ : ∃ p, p = X.p := ⟨_, rfl⟩
  obtain ⟨d, hd⟩ : ∃ d, d = X.d := ⟨_, rfl⟩
  rw [← hp] at hplt c7 c0 hokp ⊢
  rw [← hd] at c0 hD ⊢
  obtain ⟨n7, hn7⟩ : ∃ n7, n7 = X.was.length := ⟨_, rfl⟩
  rw [← hn7] at c7 hw
  have hmA : SMap Tryz.prog 3 (w.alloc (.map #[] 0)) bl f sz := hM.map.move (Below.heap_alloc w _ bl hM.map.lt)
  have HMA := Aside0.mk hmA
  have HM := Aside0.mk (And.intro hM (And.intro hL (And.intro hL0 (And.intro hbl hQ))))
  have HP := Aside0.mk (And.intro hPP (And.intro hp (And.intro hn7 (And.intro hplt (And.intro c7 (And.intro c0 (And.intro hokp (And.intro hPD hd))))))))
  have HD := Aside0.mk (And.intro hD (And.intro hq hc))
  have hmm := @run_makeMap Tryz.prog
  have e1 : (w.alloc (.map #[] 0)).heap.size = w.heap.size + 1 := by simp
  clear h hp hd hn7 c7 c0 hokp hPD hmA hM hL hL0 hbl hQ hD hq hc hPP hplt
  go_enter Tryz.func57, Tryz.ntmps57
  go_wp2_with (first
    | (at_range; refine wpList_range_S _ rfl _ 110 rfl Tryz.underlying3 Tryz.underlying110 rfl HMA.out ?_; intro w0 hrg0 hg0 hs0)
    | go_in)
  go_frame
  rw [e1] at hrg0 hs0 ⊢
  have H0 := Aside0.mk (And.intro hrg0 (And.intro hg0 hs0))
  clear hrg0 hg0 hs0 hmm e1
  go_loopw [6] (fun _ wr => Aside0 (JJ w bl X f sz wr)) (fun _ wr => wr.rangeLeft bl (w.heap.size + 1))
  case atStart =>
    obtain ⟨hrg0, hg0, hs0⟩ := H0.out
    refine ⟨⟨_, _, fun _ => none, 0, hrg0, ?_⟩, ((Below.refl w.heap.size w).alloc (Nat.le_refl _) _).grown hg0 (by simp) (fun j hj => by cases hj)⟩
    have h1 := (PgM.made w (fun k => w.heap.size + 2 ≤ k)).grown hg0 (by simp) (fun k e => by cases e)
    refine ⟨h1.map, fun x _ => ?_, fun x v hx => by cases hx⟩
    unfold oldP
    rw [if_neg]
    rintro ⟨e1, e2, _⟩
    have e1' : (f x).isSome = false := e1
    rw [e1'] at e2
    cases e2
  case round =>
    clear H0
    have HI := hrel
    clear hrel
    obtain ⟨⟨left, cnt, g, gs, hrg, hmg⟩, hb⟩ := HI.out
    have HR := Aside0.mk (And.intro hrg (And.intro hmg hb))
    clear hrg hmg hb
    go_wp2_with (first
      | (at_next; refine wpList_next_S _ rfl _ rfl Tryz.underlying3 rfl HR.out.1 ?_ ?_)
      | go_in)
    · intro hc0 hl0
      obtain ⟨hrg, hmg, hb⟩ := HR.out
      obtain ⟨hM, hL, hL0, hbl, hQ⟩ := HM.out
      obtain ⟨hPP, hp, hn7, hplt, hc7, hc0', hokp, hPD, hd⟩ := HP.out
      obtain ⟨hD, hq, hc⟩ := HD.out
      have c7 : wr.cell? ⟨p, 7, none⟩ = some (.slice A7 n7 k7) := (hb.cell (p := ⟨p, 7, none⟩) hplt).trans hc7
      obtain ⟨Lg, hLg⟩ := hmg.map.keys Tryz.underlying3
      have hlg : Lg.length ≤ 4096 := by rw [hmg.map.size_keys Tryz.underlying3 hLg]; exact hmg.few
      have hmemg : ∀ n ∈ Lg, ((oldP X f left n).getD []).length = 512 := fun n hn => by
        obtain ⟨v, hv⟩ := Option.isSome_iff_exists.1 ((hLg.2 n).1 hn)
        obtain ⟨_, _, bs, _, _, _, _, _, hbs, hl, _⟩ := hmg.some_ n v hv
        rw [hbs]; exact hl
      have hBl := block_any hmg hLg ((n7 : Int) / 512)
      have hlen := blockB_length ((n7 : Int) / 512) hmemg
      obtain ⟨blk, hblk⟩ : ∃ blk, blk = blockB ((n7 : Int) / 512) (oldP X f left) Lg := ⟨_, rfl⟩
      rw [← hblk] at hBl hlen
      have HBl := Aside0.mk hBl
      have HBk := Aside0.mk (And.intro hlen hlg)
      have HB := Aside0.mk hb
      clear hrg hmg hM hL hL0 hbl hQ hPP hp hn7 hc7 hc0' hokp hPD hd hD hq hc hLg hmemg hBl hlen hblk hlg hb hl0 hc0 hplt HR
      go_wp2_with (first
        | (go_at_call 92; refine HBl.out.mono ?_; rintro e w3 ⟨v3, rfl, hv3, hb3⟩
           obtain ⟨A3, c3, rfl⟩ := Kd.R_slice hv3
           obtain ⟨hC3, hc3, _⟩ := C_of_row hv3
           have hb03 := HB.out.trans (hb3.mono HB.out.size)
           have hLy := lay_any (s := sJ) (a := 0) (cb := c3) (ok := fun k => okD k ∧ k < w.heap.size) (HD.out.1.tight.move (fun k hk _ => hb03.block k hk.2)) HD.out.2.1 (by have := HD.out.2.2; omega) (.inr (.inl rfl)) good_J ((hb03.cell (p := ⟨p, 0, none⟩) HP.out.2.2.2.1).trans HP.out.2.2.2.2.2.1) (fun h => HP.out.2.2.2.2.2.2.2.1 p HP.out.2.2.2.2.2.2.1 h.1) (Ab := A3) (nb := blk.length) (b := blk) ⟨hC3, fun ad e hk => by subst e; have h1 := hv3.1 ad.block rfl; have h2 := hk.2; have h3 := HB.out.size; omega⟩ (fun ad e => by subst e; exact Kd.R_lt hv3 ad.block rfl) (by have := HBk.out.1; omega) (by have := HBk.out.1; have := HBk.out.2; omega)
           rw [show ((0 : Nat) : Int) = 0 from rfl] at hLy
           have HLy := Aside0.mk hLy
           have H3 := Aside0.mk hb03
           clear hv3 hb3 hC3 hc3 hb03 hLy)
        | (go_at_call 91; refine HLy.out.mono ?_; rintro e w4 ⟨rfl, hL4⟩
           have h4 : Left w d (ly1 M (nm sJ) 0 blk) (fun k => okD k ∧ k < w.heap.size) w4 := Left.trans (M := M) (fun k hk => .inl hk) (Fr.of_below H3.out) hL4
           obtain ⟨okx, hD4, hk4, hF4⟩ := h4
           have hs4 := hF4.size
           have hold : ∀ k, ¬ okD k → k < w.heap.size → w4.heap[k]? = w.heap[k]? := fun k hk hlt => hF4.block k hlt (fun h => hk h.1)
           have hnx : ∀ k, ¬ okD k → k < w.heap.size → ¬ okx k := fun k hk hlt h => (hk4 k h).elim (fun h => hk h.1) (fun h => by omega)
           have hp4 : w4.cell? ⟨p, 0, none⟩ = some (dptr d) := (World.cell?_of_block (w := w) (a := ⟨p, 0, none⟩) (hold p (HP.out.2.2.2.2.2.2.2.1 p HP.out.2.2.2.2.2.2.1) HP.out.2.2.2.1)).trans HP.out.2.2.2.2.2.1
           have hM4 : PgM w4 bl f sz pg (fun k => Q k ∧ k < w.heap.size) := HM.out.1.move (hold bl HM.out.2.2.2.1 HM.out.1.map.lt) (fun k hk hlt => hold k (HM.out.2.2.2.2 k hk) hlt) hs4 (fun k hk hlt => ⟨hk, hlt⟩)
           have hWs := writes_any hD4 (ly1_quiet HD.out.2.1 (.inr (.inl rfl)) (by have := HBk.out.1; omega) (by have := HBk.out.1; have := HBk.out.2; omega)) (by have := HD.out.2.2; omega) hM4 (fun k hk => hnx k (HM.out.2.2.2.2 k hk.1) hk.2) (hnx bl HM.out.2.2.2.1 HM.out.1.map.lt) hp4 (hnx p (HP.out.2.2.2.2.2.2.2.1 p HP.out.2.2.2.2.2.2.1) HP.out.2.2.2.1) HM.out.2.1
           have HWs := Aside0.mk hWs
           have H4 := Aside0.mk (And.intro hk4 hF4)
           clear hL4 hD4 hk4 hF4 hs4 hold hnx hp4 hM4 hWs)
        | (go_at_call 93; refine HWs.out.mono ?_; rintro e w5 ⟨rfl, hL5⟩
           have h5 : Left w d (wsM pg (ly1 M (nm sJ) 0 blk) L) (fun k => okD k ∧ k < w.heap.size) w5 := Left.trans (M := M) H4.out.1 H4.out.2 hL5
           unfold wsM at h5
           rw [if_neg HM.out.2.2.1] at h5
           obtain ⟨oky, hD5, hk5, hF5⟩ := h5
           have c50 : w5.cell? ⟨p, 0, none⟩ = some (dptr d) := (World.cell?_of_block (w := w) (a := ⟨p, 0, none⟩) (hF5.block p HP.out.2.2.2.1 (fun h => HP.out.2.2.2.2.2.2.2.1 p HP.out.2.2.2.2.2.2.1 h.1))).trans HP.out.2.2.2.2.2.1
           have hDl := q_del (s := sJ) hD5 (((wrs_quiet pg L _ _ (ly1_quiet HD.out.2.1 (.inr (.inl rfl)) (by have := HBk.out.1; omega) (by have := HBk.out.1; have := HBk.out.2; omega)) (fun n hn => by
              obtain ⟨v, hv⟩ := Option.isSome_iff_exists.1 ((HM.out.2.1.2 n).1 hn)
              obtain ⟨_, _, bs, _, _, _, _, _, hbs, hl, h0, h1⟩ := HM.out.1.some_ n v hv
              exact ⟨h0, h1, by rw [hbs]; exact hl⟩)).sy1 (x := nm sB) (.inl rfl))) (by have := HD.out.2.2; have := HM.out.1.few; have := HM.out.1.map.size_keys Tryz.underlying3 HM.out.2.1; omega) good_J (by
              have h1 : (sy1 (wrs pg (ly1 M (nm sJ) 0 blk) L) (nm sB)).fs (nm sJ) = (ly1 M (nm sJ) 0 blk).fs (nm sJ) := by
                unfold sy1 setF
                simp only [if_neg (Ne.symm nmB_J)]
                exact (wrs_fs pg L _).1 _ (Ne.symm nmB_J)
              rw [h1]; exact ly1_some _ _ _ _)
           have HDl := Aside0.mk hDl
           have H5 := Aside0.mk (And.intro hk5 hF5)
           clear hL5 hD5 hk5 hF5 hDl)
        | (go_at_call 94; refine HDl.out.mono ?_; rintro e w6 ⟨rfl, hL6⟩; have H6 := Aside0.mk hL6; clear hL6))
      go_ret
      refine ⟨rfl, blk, by have := HBk.out.1; omega, by have := HBk.out.1; have := HBk.out.2; omega, ?_⟩
      exact Left.loose (Fr.refl _ _) (Left.trans (M := M) H5.out.1 H5.out.2 H6.out)
    · intro x v w1 cnt1 hfx hlx hrg1 hlt1 hg1 hs1 hen
      obtain ⟨hrg, hmg, hb⟩ := HR.out
      obtain ⟨hM, hL, hL0, hbl, hQ⟩ := HM.out
      obtain ⟨hPP, hp, hn7, hplt, hc7, hc0, hokp, hPD, hd⟩ := HP.out
      have hb1 : Below w.heap.size w w1 := hb.grown hg1 hb.size (fun j hj => by cases hj; exact Nat.le_succ _)
      have hx01 : 0 ≤ x ∧ x < 4096 := by
        obtain ⟨_, _, _, _, _, _, _, _, _, _, h0, h1⟩ := hM.some_ x v hfx
        exact ⟨h0, h1⟩
      obtain ⟨hx0, hx1⟩ := hx01
      have c7 : w1.cell? ⟨p, 7, none⟩ = some (.slice A7 n7 k7) := (hb1.cell (p := ⟨p, 7, none⟩) hplt).trans hc7
      have hmg1 := hmg.grown hg1 (by simp) (fun k e => by cases e; simp)
      have HMs := Aside0.mk (show cnt1 < wr.rangeLeft bl (w.heap.size + 1) from by rw [hrg.left_eq]; exact hlt1)
      obtain ⟨sh, hsh⟩ := (show ∃ y, sliE v = some y from Option.isSome_iff_exists.1 (hM.map.2 x v hfx).2)
      obtain ⟨Av, nv, cv, rfl⟩ : ∃ A n c, v = .slice A n c := by
        rcases (sliE_shape hsh).2 with ⟨n, c, rfl⟩ | ⟨b', o', n, c, rfl⟩
        · exact ⟨_, _, _, rfl⟩
        · exact ⟨_, _, _, rfl⟩
      by_cases hk : x < (n7 : Int) / 512
      · have q1 : decide (x < (n7 : Int) / 512) = true := decide_eq_true hk
        have hPA := page_any (w := w1) (X := X) (ok := okP) (hPP.move (fun k _ hk => hb1.block k hk)) x hx0 hx1 (by rw [← hn7]; omega)
        rw [← hp] at hPA
        have HPA := Aside0.mk hPA
        have H1 := Aside0.mk (And.intro hfx (And.intro hlx (And.intro hrg1 (And.intro hmg1 (And.intro hb1 (And.intro hs1 hk))))))
        clear hfx hlx hrg1 hlt1 hg1 hs1 hb1 hmg1 hM hL hL0 hbl hQ hPP hp hn7 hplt hc7 hc0 hokp hPD hd hrg hmg hb hPA hsh hk
        go_wp2_with (go_at_call 55; refine HPA.out.mono ?_; rintro e w2 ⟨v2, rfl, hv2, hb2⟩
                     have hl2 := pg_length X hx0
                     obtain ⟨g2, c2, rfl, _, _, _⟩ := Kd.R_form hv2 (by omega)
                     rw [hl2] at hv2 ⊢
                     obtain ⟨hC2, hc2, _⟩ := C_of_row hv2
                     obtain ⟨hfx, hlx, hrg1, hmg1, hb1, hs1, hk⟩ := H1.out
                     have hsr := HR.out.1.lt
                     obtain ⟨w3, hrun, ⟨gs', hm3⟩, hg3⟩ := (hmg1.below hb2).put hx0 hx1 hc2 hC2 hl2 (by have := hv2.1 g2 rfl; omega) (Kd.R_lt hv2 g2 rfl)
                     have H3 := Aside0.mk (And.intro hm3 (And.intro hg3 (And.intro hb2 (And.intro hv2 hl2))))
                     clear hv2 hb2 hl2 hC2 hc2 hfx hlx hrg1 hmg1 hb1 hs1 hk hm3 hg3 hsr)
        have hend : JJ w bl X f sz w3 ∧ w3.rangeLeft bl (w.heap.size + 1) = cnt1 := by
          obtain ⟨hm3, hg3, hb2, hv2, hl2⟩ := H3.out
          obtain ⟨hfx, hlx, hrg1, hmg1, hb1, hs1, hk⟩ := H1.out
          have hrg2 := hrg1.kept (below_grown hb2) (by simp) (by simp)
          have hrg3 := hrg2.kept hg3 (fun e => by have := Option.some.inj e; have := HM.out.1.map.lt; omega) (fun e => by have := Option.some.inj e; omega)
          refine ⟨⟨⟨_, cnt1, _, _, hrg3, hm3.map, fun y hy => ?_, fun y u hy => ?_⟩, ((hb1.trans (hb2.mono hb1.size)).grown hg3 (by have := hb1.size; have := hb2.size; omega) (fun j hj => by cases hj; exact Nat.le_refl _))⟩, hrg3.left_eq⟩
          · by_cases e : y = x
            · simp [e] at hy
            · have := hm3.none_ y hy
              simp only [if_neg e] at this
              unfold oldP at this ⊢
              simpa [e] using this
          · obtain ⟨ad, c, bs, e1, e2, e3, e4, e5, e6, e7⟩ := hm3.some_ y u hy
            refine ⟨ad, c, bs, e1, e2, e3, e4, e5, ?_, e7⟩
            by_cases e : y = x
            · subst e
              simp only [if_pos] at e6
              unfold oldP
              rw [if_pos ⟨by simp, by rw [hfx]; rfl, by rw [← HP.out.2.2.1]; omega⟩]
              exact e6
            · simp only [if_neg e] at e6
              unfold oldP at e6 ⊢
              simpa [e] using e6
        have HE := Aside0.mk hend
        clear hend
        go_roundw
        case rel => exact ⟨HE.out.1⟩
        case measure => rw [HE.out.2]; exact HMs.out
      · have q1 : decide (x < (n7 : Int) / 512) = false := decide_eq_false hk
        have hend : JJ w bl X f sz w1 ∧ w1.rangeLeft bl (w.heap.size + 1) = cnt1 := by
          refine ⟨⟨⟨_, cnt1, _, _, hrg1, hmg1.map, fun y hy => ?_, fun y u hy => ?_⟩, hb1⟩, hrg1.left_eq⟩
          · have := hmg1.none_ y hy
            unfold oldP at this ⊢
            by_cases e : y = x
            · subst e
              rw [if_neg]
              rintro ⟨_, _, h3⟩
              rw [← hn7] at h3
              omega
            · simpa [e] using this
          · obtain ⟨ad, c, bs, e1, e2, e3, e4, e5, e6, e7⟩ := hmg1.some_ y u hy
            refine ⟨ad, c, bs, e1, e2, e3, e4, e5, ?_, e7⟩
            unfold oldP at e6 ⊢
            by_cases e : y = x
            · subst e
              rw [if_neg] at e6
              · cases e6
              · rintro ⟨_, _, h3⟩
                rw [← hn7] at h3
                omega
            · simpa [e] using e6
        have HE := Aside0.mk hend
        clear hend hfx hlx hrg1 hlt1 hg1 hs1 hb1 hmg1 hM hL hL0 hbl hQ hPP hp hn7 hplt hc7 hc0 hokp hPD hd hrg hmg hb hsh hk
        go_wp2
        go_roundw
        case rel => exact ⟨HE.out.1⟩
        case measure => rw [HE.out.2]; exact HMs.out
end Go.Proofs.YtmdpgjdepflbmaaGreat
namespace Go.Proofs.YtmdpgjdepflbmaaGreat
open Go.RowKit Go.Maps Go.Proofs.YtmdpgjdepflbmaaGreatW.PrintWords Go.Proofs.YtmdpgjdepflbmaaGreatW.PrintLast Go.Proofs.YtmdpgjdepflbmaaGreatW.PrintMore
open Go.Proofs.YtmdpgjdepflbmaaGreat.PPagerFolds
set_option linter.unusedVariables false
set_option linter.unusedSimpArgs false

/-- the keys of a map of pages, rising -/
def KeysOf (pg : Own) (L : List Int) : Prop := L.Pairwise (· < ·) ∧ ∀ x, x ∈ L ↔ (pg x).isSome = true
/-- what a commit by the journal leaves of the disk -/
def CJ (X : PG) (M M' : DM) : Prop := ∃ L, KeysOf (newsP X) L ∧ ((L = [] ∧ M'.fs = M.fs) ∨ (L ≠ [] ∧ M'.fs = fun x => if x = nm sJ then none else if x = nm sB then some (wB (newsP X) (seenB M) L, wB (newsP X) (seenB M) L) else M.fs x))
theorem PgM.isInts {w : World} {b sz : Nat} {f : Int → Option Value} {pg : Own} {Q : Nat → Prop} (h : PgM w b f sz pg Q) {L : List Int} : IsInts f L ↔ KeysOf pg L := by
  have e : ∀ x, (f x).isSome = (pg x).isSome := fun x => by
    cases hx : f x with
    | none => rw [h.none_ x hx]; rfl
    | some v => obtain ⟨_, _, bs, _, _, _, _, _, hb, _⟩ := h.some_ x v hx; rw [hb]; rfl
  unfold IsInts KeysOf
  simp only [e]
theorem newsP_empty {X : PG} (h : ∀ n, X.own n = none) (n : Int) : newsP X n = none := newsP_none (h n)

/-- a transaction has ended behind what was done on the disk -/
theorem sys_end {w w3 w4 : World} {X : PG} {M' : DM} {ok okP okD okD3 : Nat → Prop} {x3 : Nat → Int} {v3 : Int} (h5 : ∀ k, okP k → ok k ∧ k ≠ X.l ∧ ¬ okD k ∧ k < w.heap.size) (h6 : ∀ k, okD k → ok k ∧ k ≠ X.l ∧ k < w.heap.size) (h7 : ok X.l) (hc : X.c = 0) (hl : X.l < w.heap.size)
    (hF : Fr (fun k => okD k ∨ k = X.l) w w3) (hD3 : DiskAt w3 X.d M' okD3) (hk3 : ∀ k, okD3 k → okD k ∨ w.heap.size ≤ k) (ht3 : ∀ k, okD3 k → k < w3.heap.size) (hL : LK x3 v3) (hv : 0 ≤ v3) (hE : PLeft w3 X.ended (lX x3 X.c 0) okP w4) : SLeft w X.ended M' ok w4 := by
  obtain ⟨hP', hT', hF4⟩ := hE
  have s3 := hF.size
  have s4 := hF4.size
  have hlo := hL.lower hv
  rw [show ((0 : Nat) : Int) = ((X.c : Nat) : Int) by rw [hc]] at hlo
  have hdis : ∀ k, okD3 k → ¬ (okP k ∨ k = X.ended.l) := fun k hk h => by
    rcases h with h | h
    · rcases hk3 k hk with h' | h'
      · exact (h5 k h).2.2.1 h'
      · have := (h5 k h).2.2.2; omega
    · have h'' : k = X.l := h
      rcases hk3 k hk with h' | h'
      · exact (h6 k h').2.1 h''
      · omega
  refine ⟨⟨_, okD3, _, 0, hP', hD3.move (fun k hk hlt => hF4.block k hlt (hdis k hk)), hT', hlo, fun k hk => ?_, fun k hk => ⟨?_, fun e => ?_, by have := ht3 k hk; omega⟩, .inl h7, hc, fun _ => rfl, (fun h => by cases h), (fun h => by cases h)⟩, ?_⟩
  · rcases hk with hk | hk
    · have := h5 k hk
      exact ⟨.inl this.1, this.2.1, fun h => hdis k h (.inl hk), by omega⟩
    · exact ⟨.inr ⟨by omega, hk.2⟩, fun e => by have e' : k = X.l := e; omega, fun h => by have := ht3 k h; omega, hk.2⟩
  · rcases hk3 k hk with h | h
    · exact .inl (h6 k h).1
    · exact .inr ⟨h, by have := ht3 k hk; omega⟩
  · exact hdis k hk (.inr e)
  · exact (hF.wide (fun k _ hk => hk.elim (fun h => (h6 k h).1) (fun h => h ▸ h7))).trans hF4 (fun k hk => .inl (hk.elim (fun h => (h5 k h).1) (fun h => h ▸ h7)))
set_option maxHeartbeats 2000000 in
set_option maxRecDepth 100000 in
theorem s_commit {w : World} {X : PG} {M : DM} {ok : Nat → Prop} {c : Int} (h : Sys w X M ok) (hq : Quiet M c) (hc : c + 20000 < 1000000) (hmode : X.mode = 1) (hd : X.dead = false) (hi : X.inn = true) (hT : TI X) :
    Calls Tryz.prog 26 #[dp X.p] w fun e w' => e = .returned (.int .i64 0) ∧ ∃ M', SLeft w X.ended M' ok w' ∧ CJ X M M' ∧ Quiet M' (c + 5000) := by
  obtain ⟨okP, okD, x, v, hP, hD, hTb, hL, h5, h6, h7, hcc, hv0, hv1, hv2⟩ := h
  have hv := hv1 hi
  have HA := ask_any hP
  have hE : askE X = 0 := by unfold askE; rw [hd, hi]; rfl
  rw [hE] at HA
  obtain ⟨bo, vw, vm, hPr⟩ := hP
  have HN := news_any hPr hi hT.was
  have c6 := hPr.cell 6
  have c1 := hPr.cell 1
  have c2 := hPr.cell 2
  have c3 := hPr.cell 3
  have hplt := hPr.lt
  obtain ⟨p, hp⟩ : ∃ p, p = X.p := ⟨_, rfl⟩
  obtain ⟨l, hl⟩ : ∃ l, l = X.l := ⟨_, rfl⟩
  rw [← hp] at HA HN c6 c1 c2 c3 hplt ⊢
  rw [← hl] at c2
  rw [hmode] at c1
  rw [hcc] at c3
  have HA := Aside0.mk HA
  have HN := Aside0.mk HN
  have HX := Aside0.mk (And.intro hPr (And.intro hD (And.intro hTb (And.intro hL (And.intro h5 (And.intro h6 (And.intro h7 (And.intro hcc (And.intro hv0 (And.intro hv1 hv2))))))))))
  have HY := Aside0.mk (And.intro hp (And.intro hl (And.intro hq (And.intro hc (And.intro hmode (And.intro hd (And.intro hi (And.intro hT hv))))))))
  have HC := Aside0.mk (And.intro c6 (And.intro c1 (And.intro c2 c3)))
  by_cases hwr : X.wrote = true
  · rw [hwr] at c6
    have hR := hL.raise (level := 4) (by omega) (by have := hv2 hwr; omega)
    have HRL := Aside0.mk (show rE x 0 4 = 0 ∧ LK (rX x 0 4) (if v < 4 then 4 else v) from hR)
    clear hPr hD hTb hL h5 h6 h7 hcc hv0 hv1 hv2 hv hp hl hq hc hmode hd hi hT hE hwr hR
    go_enter Tryz.func26, Tryz.ntmps26
    go_wp2_with (first
      | (go_at_call 53; refine HA.out.mono ?_; rintro e w' ⟨rfl, rfl⟩)
      | (go_at_call 56; refine HN.out.mono ?_; rintro e w1 ⟨rfl, hM1, hb1⟩
         have d6 : w1.cell? ⟨p, 6, none⟩ = some (.bool true) := (hb1.cell (p := ⟨p, 6, none⟩) hplt).trans c6
         have d2 : w1.cell? ⟨p, 2, none⟩ = some (dp l) := (hb1.cell (p := ⟨p, 2, none⟩) hplt).trans c2
         have d3 : w1.cell? ⟨p, 3, none⟩ = some (.int .i64 0) := (hb1.cell (p := ⟨p, 3, none⟩) hplt).trans c3
         have H1 := Aside0.mk (And.intro hM1 hb1)
         clear hM1 hb1))
    obtain ⟨⟨f, sz, hM⟩, hb1⟩ := H1.out
    obtain ⟨hPr, hD, hTb, hL, h5, h6, h7, hcc, hv0, hv1, hv2⟩ := HX.out
    obtain ⟨hp, hl, hq, hc, hmode, hd, hi, hT, hv⟩ := HY.out
    have d1 : w1.cell? ⟨p, 1, none⟩ = some (.int .i64 1) := (hb1.cell (p := ⟨p, 1, none⟩) hplt).trans c1
    have s1 := hb1.size
    have hll : l < w.heap.size := by rw [hl]; exact hTb.lt
    have hpl : p ≠ l := fun e => (h5 p (by rw [hp]; exact hPr.okp)).2.1 (by rw [e, hl])
    have hRa := raise_all l x 0 4 w1.drew (show Tab 108 w1.drew l x from by rw [hl]; exact (hb1.block X.l hTb.lt).trans hTb)
    rw [HRL.out.1] at hRa
    have HRa := Aside0.mk hRa
    obtain ⟨L, hLk⟩ := hM.map.keys Tryz.underlying3
    have hsz := hM.map.size_keys Tryz.underlying3 hLk
    have hfew := hM.few
    have HM := Aside0.mk (And.intro hM (And.intro hLk (And.intro hsz hfew)))
    have HLL := Aside0.mk (And.intro hll hpl)
    by_cases hL0 : L = []
    · have hq0 : ((sz : Int) == 0) = true := by rw [← hsz, hL0]; rfl
      have HL0 := Aside0.mk hL0
      have HQ0 := Aside0.mk hq0
      clear hPr hD hTb hL h5 h6 h7 hcc hv0 hv1 hv2 hv hp hl hq hc hmode hd hi hT hM hb1 s1 hll hpl hRa hLk hsz hfew hL0 hq0
      go_still_tail 8, (by kernel_rfl)
      go_wp2_with (first
        | (go_at_call 51; refine HRa.out.mono ?_; rintro e w2 ⟨rfl, ht2, ho2⟩
           have e1 : w2.cell? ⟨p, 1, none⟩ = some (.int .i64 1) := (World.cell?_of_block (w := w1) (a := ⟨p, 1, none⟩) (ho2.block p HLL.out.2)).trans d1
           have hM2 : SMap Tryz.prog 3 w2 w.heap.size f sz := HM.out.1.map.move (ho2.block w.heap.size (by have := HLL.out.1; omega))
           have hlen : (Builtin.len_ #[110] 3 #[.map (some w.heap.size)]).run Tryz.prog w2 = .ok (.int .i64 (sz : Int)) w2 := hM2.len Tryz.underlying110 3
           have hq0 := HQ0.out
           have hPm : PgAt w2 X okP := ⟨bo, vw, vm, (HX.out.1.move (fun k _ hk => H1.out.2.block k hk)).move (fun k hk _ => ho2.block k (fun e => (HX.out.2.2.2.2.1 k hk).2.1 (by rw [e, ← HY.out.2.1])))⟩
           have hEn := end_any (X := X) (ok := okP) hPm (show Tab 108 w2 X.l (rX x 0 4) from by rw [← HY.out.2.1]; exact ht2) (fun hk => (HX.out.2.2.2.2.1 _ hk).2.1 rfl)
           rw [← HY.out.1] at hEn
           have HEn := Aside0.mk hEn
           have H2 := Aside0.mk (And.intro ht2 ho2)
           clear ht2 ho2 hM2 hPm hEn)
        | (go_at_call 59; refine HEn.out.mono ?_; rintro e w4 ⟨rfl, hl4⟩; have H4 := Aside0.mk hl4; clear hl4))
      go_ret
      obtain ⟨hPr, hD, hTb, hL, h5, h6, h7, hcc, hv0, hv1, hv2⟩ := HX.out
      obtain ⟨hp, hl, hq, hc, hmode, hd, hi, hT, hv⟩ := HY.out
      obtain ⟨ht2, ho2⟩ := H2.out
      have hb1 := H1.out.2
      have s1 := hb1.size
      have s2 : w2.heap.size = w1.heap.size := ho2.size
      have hF2 : Fr (fun k => okD k ∨ k = X.l) w w2 := ⟨ho2.os.trans hb1.os, ho2.tape.trans hb1.tape, ho2.output.trans hb1.output, by omega, fun k hk hn => (ho2.block k (fun e => hn (.inr (by rw [e, hl])))).trans (hb1.block k hk)⟩
      refine ⟨rfl, M, sys_end h5 h6 h7 hcc hTb.lt hF2 ((hD.below hb1).move (fun k hk _ => ho2.block k (fun e => (h6 k hk).2.1 (by rw [e, hl])))) (fun k hk => .inl hk) (fun k hk => by have := (h6 k hk).2.2; omega) HRL.out.2 (by split <;> omega) (by rw [show (X.c : Int) = 0 by rw [hcc]; rfl]; have := H4.out; rw [show (X.c : Int) = 0 by rw [hcc]; rfl] at this; exact this), ⟨L, (HM.out.1.isInts).1 HM.out.2.1, .inl ⟨HL0.out, rfl⟩⟩, hq.more (by omega)⟩
    · have hq0 : ((sz : Int) == 0) = false := by
        have : L.length ≠ 0 := fun h => hL0 (List.eq_nil_of_length_eq_zero h)
        simp; omega
      have HL0 := Aside0.mk hL0
      have HQ0 := Aside0.mk hq0
      clear hPr hD hTb hL h5 h6 h7 hcc hv0 hv1 hv2 hv hp hl hq hc hmode hd hi hT hM hb1 s1 hll hpl hRa hLk hsz hfew hL0 hq0
      go_still_tail 8, (by kernel_rfl)
      go_wp2_with (first
        | (go_at_call 51; refine HRa.out.mono ?_; rintro e w2 ⟨rfl, ht2, ho2⟩
           have e1 : w2.cell? ⟨p, 1, none⟩ = some (.int .i64 1) := (World.cell?_of_block (w := w1) (a := ⟨p, 1, none⟩) (ho2.block p HLL.out.2)).trans d1
           have hM2 : PgM w2 w.heap.size f sz (newsP X) okP := HM.out.1.move (ho2.block w.heap.size (by have := HLL.out.1; omega)) (fun k hk _ => ho2.block k (fun e => (HX.out.2.2.2.2.1 k hk).2.1 (by rw [e, ← HY.out.2.1]))) (by rw [ho2.size]; exact Nat.le_refl _) (fun _ h _ => h)
           have hlen : (Builtin.len_ #[110] 3 #[.map (some w.heap.size)]).run Tryz.prog w2 = .ok (.int .i64 (sz : Int)) w2 := hM2.map.len Tryz.underlying110 3
           have hq0 := HQ0.out
           have hPm : PgAt w2 X okP := ⟨bo, vw, vm, (HX.out.1.move (fun k _ hk => H1.out.2.block k hk)).move (fun k hk _ => ho2.block k (fun e => (HX.out.2.2.2.2.1 k hk).2.1 (by rw [e, ← HY.out.2.1])))⟩
           have hDm : DiskAt w2 X.d M okD := (HX.out.2.1.below H1.out.2).move (fun k hk _ => ho2.block k (fun e => (HX.out.2.2.2.2.2.1 k hk).2.1 (by rw [e, ← HY.out.2.1])))
           have hBj := byJournal_any hPm hDm HY.out.2.2.1 (by have := HY.out.2.2.2.1; omega) (fun k hk => (HX.out.2.2.2.2.1 k hk).2.2.1) hM2 (fun k hk => (HX.out.2.2.2.2.1 k hk).2.2.1) (fun hk => Nat.lt_irrefl _ (HX.out.2.2.2.2.2.1 _ hk).2.2) HY.out.2.2.2.2.2.2.2.1.was HM.out.2.1 HL0.out
           rw [← HY.out.1] at hBj
           have HBj := Aside0.mk hBj
           have H2 := Aside0.mk (And.intro ht2 (And.intro ho2 hPm))
           clear ht2 ho2 hM2 hPm hDm hBj)
        | (go_at_call 57; refine HBj.out.mono ?_; rintro e w3 ⟨rfl, blk, hbk0, hbk1, hL3⟩
           obtain ⟨okx, hD3, hk3, hF3⟩ := hL3
           obtain ⟨ht2, ho2, hPm⟩ := H2.out
           have hEn := end_any (X := X) (ok := okP) (hPm.move (fun k hk hlt => hF3.block k hlt (HX.out.2.2.2.2.1 k hk).2.2.1)) (show Tab 108 w3 X.l (rX x 0 4) from by
             rw [← HY.out.2.1]
             exact (hF3.block l ht2.lt (fun h => (HX.out.2.2.2.2.2.1 l h).2.1 HY.out.2.1)).trans ht2) (fun hk => (HX.out.2.2.2.2.1 _ hk).2.1 rfl)
           rw [← HY.out.1] at hEn
           have HEn := Aside0.mk hEn
           have H3 := Aside0.mk (And.intro hD3 (And.intro hk3 (And.intro hF3 (And.intro hbk0 hbk1))))
           clear hD3 hk3 hF3 hbk0 hbk1 ht2 ho2 hPm hEn)
        | (go_at_call 59; refine HEn.out.mono ?_; rintro e w4 ⟨rfl, hl4⟩; have H4 := Aside0.mk hl4; clear hl4))
      go_ret
      obtain ⟨hPr, hD, hTb, hL, h5, h6, h7, hcc, hv0, hv1, hv2⟩ := HX.out
      obtain ⟨hp, hl, hq, hc, hmode, hd, hi, hT, hv⟩ := HY.out
      obtain ⟨ht2, ho2, _⟩ := H2.out
      obtain ⟨hD3, hk3, hF3, hbk0, hbk1⟩ := H3.out
      have hb1 := H1.out.2
      have s1 := hb1.size
      have s2 : w2.heap.size = w1.heap.size := ho2.size
      have s3 := hF3.size
      have hF2 : Fr (fun k => okD k ∨ k = X.l) w w2 := ⟨ho2.os.trans hb1.os, ho2.tape.trans hb1.tape, ho2.output.trans hb1.output, by omega, fun k hk hn => (ho2.block k (fun e => hn (.inr (by rw [e, hl])))).trans (hb1.block k hk)⟩
      have hlen : L.length ≤ 4096 := by rw [HM.out.2.2.1]; exact HM.out.2.2.2
      refine ⟨rfl, _, sys_end h5 h6 h7 hcc hTb.lt (hF2.trans hF3 (fun k hk => .inl (.inl hk))) hD3.tight (fun k hk => (hk3 k hk.1).imp id (fun h => by omega)) (fun k hk => hk.2) HRL.out.2 (by split <;> omega) (by rw [show (X.c : Int) = 0 by rw [hcc]; rfl]; have := H4.out; rw [show (X.c : Int) = 0 by rw [hcc]; rfl] at this; exact this), ⟨L, (HM.out.1.isInts).1 HM.out.2.1, .inr ⟨HL0.out, jM_fs _ _ _ _⟩⟩, (jM_quiet hq hbk0 hbk1 (fun n hn => ?_)).more (by omega)⟩
      obtain ⟨u, hu⟩ := Option.isSome_iff_exists.1 ((HM.out.2.1.2 n).1 hn)
      obtain ⟨_, _, bs, _, _, _, _, _, hbs, hbl, h0, h1⟩ := HM.out.1.some_ n u hu
      exact ⟨h0, h1, by rw [hbs]; exact hbl⟩
  · have hwr' : X.wrote = false := by simpa using hwr
    rw [hwr'] at c6
    have HWr := Aside0.mk hwr'
    clear hPr hD hTb hL h5 h6 h7 hcc hv0 hv1 hv2 hv hp hl hq hc hmode hd hi hT hE hwr hwr'
    go_enter Tryz.func26, Tryz.ntmps26
    go_wp2_with (first
      | (go_at_call 53; refine HA.out.mono ?_; rintro e w' ⟨rfl, rfl⟩)
      | (go_at_call 56; refine HN.out.mono ?_; rintro e w1 ⟨rfl, hM1, hb1⟩
         have d6 : w1.cell? ⟨p, 6, none⟩ = some (.bool false) := (hb1.cell (p := ⟨p, 6, none⟩) hplt).trans c6
         have hEn := end_any (w := w1) (X := X) (ok := okP) ⟨bo, vw, vm, HX.out.1.move (fun k _ hk => hb1.block k hk)⟩ ((hb1.block X.l HX.out.2.2.1.lt).trans HX.out.2.2.1) (fun hk => (HX.out.2.2.2.2.1 _ hk).2.1 rfl)
         rw [← HY.out.1] at hEn
         have HEn := Aside0.mk hEn
         have H1 := Aside0.mk (And.intro hM1 hb1)
         clear hM1 hb1 hEn)
      | (go_at_call 59; refine HEn.out.mono ?_; rintro e w2 ⟨rfl, hl2⟩; have H2 := Aside0.mk hl2; clear hl2))
    go_ret
    obtain ⟨hPr, hD, hTb, hL, h5, h6, h7, hcc, hv0, hv1, hv2⟩ := HX.out
    obtain ⟨hp, hl, hq, hc, hmode, hd, hi, hT, hv⟩ := HY.out
    obtain ⟨hM1, hb1⟩ := H1.out
    refine ⟨rfl, M, sys_end h5 h6 h7 hcc hTb.lt (Fr.of_below hb1) (hD.below hb1) (fun k hk => .inl hk) (fun k hk => by have := (h6 k hk).2.2; have := hb1.size; omega) hL (by omega) H2.out, ⟨[], ⟨List.Pairwise.nil, fun n => ?_⟩, .inl ⟨rfl, rfl⟩⟩, hq.more (by omega)⟩
    rw [newsP_empty (hT.wr HWr.out)]
    simp
end Go.Proofs.YtmdpgjdepflbmaaGreat
namespace Go.Proofs.YtmdpgjdepflbmaaGreat
open Go.RowKit Go.Maps Go.Proofs.YtmdpgjdepflbmaaGreatW.PrintWords Go.Proofs.YtmdpgjdepflbmaaGreatW.PrintLast Go.Proofs.YtmdpgjdepflbmaaGreatW.PrintMore
open Go.Proofs.YtmdpgjdepflbmaaGreat.PPagerFolds
set_option linter.unusedVariables false
set_option linter.unusedSimpArgs false

def pmO (own : Own) : PP.PM := fun n => own (n : Int)
theorem noughts_rep : PP.noughts = List.replicate 512 0 := (PP.noughts_eq 512 rfl).symm
theorem page_nat (X : PG) (n : Nat) : X.page (n : Int) = PP.pageAt X.was n := by
  unfold PG.page PP.pageAt
  by_cases h : (n + 1) * 512 ≤ X.was.length
  · rw [if_pos (by omega), if_pos h, Int.toNat_natCast]
  · rw [if_neg (by omega), if_neg h, noughts_rep]
theorem news_pm (X : PG) : pmO (newsP X) = PP.news X.was (X.was.length / 512) (pmO X.own) := by
  funext n
  unfold pmO
  cases h : X.own (n : Int) with
  | none => rw [newsP_none h, PP.news_none (by exact h)]
  | some b =>
    rw [newsP_some h, PP.news_some (by exact h), page_nat]
    by_cases h1 : X.was.length / 512 ≤ n ∨ b ≠ PP.pageAt X.was n
    · rw [if_pos h1, if_pos (h1.imp (fun h => by omega) id)]
    · rw [if_neg h1, if_neg (fun h => h1 (h.imp (fun h => by omega) id))]
theorem wB_writesB (pg : Own) : ∀ (L : List Int) (l : Bytes), (∀ n ∈ L, 0 ≤ n) → wB pg l L = PP.writesB l (pmO pg) (L.map Int.toNat)
  | [], l, _ => rfl
  | n :: L, l, h => by
    have h0 := h n (by simp)
    have e : ((n.toNat : Nat) : Int) = n := by omega
    simp only [wB, List.map_cons]
    rw [wB_writesB pg L _ (fun m hm => h m (by simp [hm]))]
    show _ = PP.writesB (PP.writeB l (n.toNat * 512) ((pmO pg n.toNat).getD [])) (pmO pg) (L.map Int.toNat)
    have e2 : pmO pg n.toNat = pg n := by unfold pmO; rw [e]
    rw [e2]
    rfl
/-- what a transaction's pages are -/
theorem own_range {w : World} {ok : Nat → Prop} {b : Nat} {own : Own} (h : OwnAt w ok b own) {n : Int} {p : Bytes} (hp : own n = some p) : 0 ≤ n ∧ n < 4096 ∧ p.length = 512 := by
  obtain ⟨_, f, sz, _, hn, hs⟩ := h
  cases hf : f n with
  | none => rw [hn n hf] at hp; cases hp
  | some v =>
    obtain ⟨h0, h1, bs, hb, hl, _⟩ := hs n v hf
    rw [hb] at hp
    obtain rfl := Option.some.inj hp
    exact ⟨h0, h1, hl⟩
theorem seenB_base (M : DM) : seenB M = baseB M := by
  unfold seenB baseB
  cases M.fs (nm sB) <;> rfl

theorem commit_pages {X : PG} {M M' : DM} (hT : TI X) (hown : ∀ n p, X.own n = some p → 0 ≤ n ∧ n < 4096 ∧ p.length = 512) (hB : baseB M = X.was) (hC : CJ X M M') (hJ : M.fs (nm sJ) = none) :
    (baseB M').length = X.count.toNat * 512 ∧ (∀ n : Nat, PP.pageAt (baseB M') n = X.view n) ∧ M'.fs (nm sJ) = none ∧ ∀ x, x ≠ nm sB → M'.fs x = M.fs x := by
  obtain ⟨L, ⟨hLp, hLm⟩, hC⟩ := hC
  have hfull : PP.Full (pmO X.own) := fun n b h => (hown n b h).2.2
  have hnfull : PP.Full (pmO (newsP X)) := by rw [news_pm]; exact PP.news_full hfull
  have hlen : X.was.length = X.was.length / 512 * 512 := by have := hT.md; omega
  have c0 := hT.now.c0
  have hk : X.was.length / 512 ≤ X.count.toNat := by omega
  have hL0 : ∀ n ∈ L, 0 ≤ n := fun n hn => by
    obtain ⟨b, hb⟩ := Option.isSome_iff_exists.1 ((hLm n).1 hn)
    cases ho : X.own n with
    | none => rw [newsP_none ho] at hb; cases hb
    | some p => exact (hown n p ho).1
  have hmem : ∀ n : Nat, n ∈ L.map Int.toNat ↔ (pmO (newsP X) n).isSome = true := fun n => by
    rw [List.mem_map]
    constructor
    · rintro ⟨m, hm, rfl⟩
      have := hL0 m hm
      have e : ((m.toNat : Nat) : Int) = m := by omega
      unfold pmO
      rw [e]
      exact (hLm m).1 hm
    · intro h
      exact ⟨(n : Int), (hLm _).2 h, by simp⟩
  have hlt : ∀ n ∈ L.map Int.toNat, n < X.count.toNat := fun n hn => by
    obtain ⟨b, hb⟩ := Option.isSome_iff_exists.1 ((hmem n).1 hn)
    unfold pmO at hb
    cases ho : X.own (n : Int) with
    | none => rw [newsP_none ho] at hb; cases hb
    | some p => have := hT.now.lt _ p ho; omega
  have hlast : X.was.length / 512 < X.count.toNat → X.count.toNat - 1 ∈ L.map Int.toNat := fun h => by
    rw [hmem]
    unfold pmO
    have e : ((X.count.toNat - 1 : Nat) : Int) = X.count - 1 := by omega
    rw [e]
    obtain ⟨b, hb⟩ := Option.isSome_iff_exists.1 (hT.now.top (by omega))
    rw [newsP_some hb, if_pos (.inl (by omega))]
    rfl
  have hov := PP.writesB_overlay hnfull hmem hlen hk hlt hlast
  have hov2 : PP.overlay X.was X.count.toNat (pmO (newsP X)) = PP.overlay X.was X.count.toNat (pmO X.own) := by rw [news_pm]; exact PP.overlay_news hfull _ _ _
  have hres : baseB M' = PP.overlay X.was X.count.toNat (pmO X.own) := by
    rcases hC with ⟨hL, hfs⟩ | ⟨hL, hfs⟩
    · have h1 : baseB M' = baseB M := by unfold baseB; rw [hfs]
      rw [h1, hB]
      rw [hL] at hov
      rw [← hov2, ← hov]
      rfl
    · have h1 : baseB M' = wB (newsP X) (seenB M) L := by
        unfold baseB
        rw [hfs]
        simp [nmB_J]
      rw [h1, seenB_base, hB, wB_writesB _ _ _ hL0, hov, hov2]
  refine ⟨by rw [hres, PP.overlay_length hfull], fun n => ?_, ?_, fun x hx => ?_⟩
  · rw [hres]
    unfold PG.view
    by_cases hn : n < X.count.toNat
    · rw [PP.pageAt_overlay hfull _ _ _ hn, page_nat]
      rfl
    · rw [PP.pageAt_past _ _ (by rw [PP.overlay_length hfull]; omega)]
      have ho : X.own (n : Int) = none := by
        cases ho : X.own (n : Int) with
        | none => rfl
        | some p => have := hT.now.lt _ p ho; omega
      rw [ho, page_nat, PP.pageAt_past _ _ (by omega)]
      rfl
  · rcases hC with ⟨_, hfs⟩ | ⟨_, hfs⟩
    · rw [hfs]; exact hJ
    · rw [hfs]; simp
  · rcases hC with ⟨_, hfs⟩ | ⟨_, hfs⟩
    · rw [hfs]
    · rw [hfs]
      by_cases e : x = nm sJ
      · simp [e, hJ]
      · simp [e, hx]
/-- a disk for the journal, once more -/
theorem JQ.commit {X : PG} {M M' : DM} {c : Int} (hq : JQ M) (hT : TI X) (hQ : Quiet M' c) (hl : (baseB M').length = X.count.toNat * 512) (hJ : M'.fs (nm sJ) = none) (ho : ∀ x, x ≠ nm sB → M'.fs x = M.fs x) : JQ M' := by
  have hL : M'.fs (nm sL) = none := by rw [ho _ (Ne.symm nmB_L)]; exact hq.lg
  have hc := hT.now.c1
  refine ⟨hQ.off, ?_, hJ, hL, by rw [hl]; omega, by rw [hl]; omega⟩
  cases h : M'.fs (nm sB) with
  | none =>
    refine ⟨[], ⟨List.Pairwise.nil, fun x => ?_⟩, by simp⟩
    constructor
    · intro h; cases h
    · intro hx
      rcases hQ.three x hx with rfl | rfl | rfl
      · rw [h] at hx; cases hx
      · rw [hJ] at hx; cases hx
      · rw [hL] at hx; cases hx
  | some f =>
    refine ⟨[nm sB], ⟨by simp, fun x => ?_⟩, by simp⟩
    constructor
    · intro hx
      rw [List.mem_singleton.1 hx, h]; rfl
    · intro hx
      rcases hQ.three x hx with rfl | rfl | rfl
      · simp
      · rw [hJ] at hx; cases hx
      · rw [hL] at hx; cases hx
end Go.Proofs.YtmdpgjdepflbmaaGreat

/-
  Write: a page is written.
-/
import Derived.Test.YtpaiadidgokjlaaGreatRd
import Derived.StillTailTactics
import Derived.Deep.RegionHeld3
namespace Go.Proofs.YtpaiadidgokjlaaGreat
open Go.RowKit Go.Maps Go.Proofs.YtpaiadidgokjlaaGreatW.PrintWords Go.Proofs.YtpaiadidgokjlaaGreatW.PrintLast Go.Proofs.YtpaiadidgokjlaaGreatW.PrintMore
open Go.Proofs.YtpaiadidgokjlaaGreat.PPagesModel
set_option linter.unusedVariables false
set_option linter.unusedSimpArgs false

/-- a page written -/
def PG.put (X : PG) (n : Int) (bs : Bytes) : PG := { X with wrote := true, own := fun y => if y = n then some bs else X.own y, count := max X.count (n + 1) }

/-- what a call leaves of a pager and of its locks -/
def PLeft (w : World) (X : PG) (x : Nat → Int) (ok : Nat → Prop) (w' : World) : Prop :=
  PgAt w' X (fun k => ok k ∨ (w.heap.size ≤ k ∧ k < w'.heap.size)) ∧ Tab 190 w' X.l x ∧ Fr (fun k => ok k ∨ k = X.l) w w'

theorem C_fr {w w' : World} {ok : Nat → Prop} {A : Option Addr} {n : Nat} {b : Bytes} (h : U8.C w A n b) (hA : ∀ ad, A = some ad → ¬ ok ad.block) (hf : Fr ok w w') : U8.C w' A n b := by
  refine ⟨h.1, h.2.1, fun hn => ?_⟩
  obtain ⟨ad, rfl, hc⟩ := h.2.2 hn
  refine ⟨ad, rfl, fun j p hj => ?_⟩
  obtain ⟨c, hl, hK, hcell⟩ := hc j p hj
  refine ⟨c, hl, hK, fun i u hu => ?_⟩
  have h1 := hcell i u hu
  have hb : (ad.add (j * U8.sz + i)).block = ad.block := by unfold Addr.add; split <;> rfl
  have hlt := World.block_lt_of_cell? _ _ h1
  rw [hb] at hlt
  refine (World.cell?_of_block ?_).trans h1
  rw [hb]
  exact hf.block _ hlt (hA ad rfl)
theorem Fr.wide {w w' : World} {ok ok' : Nat → Prop} (h : Fr ok w w') (hs : ∀ k, k < w.heap.size → ok k → ok' k) : Fr ok' w w' := ⟨h.os, h.tape, h.output, h.size, fun k hk hn => h.block k hk (fun ho => hn (hs k hk ho))⟩
theorem row13_set6 {w : World} {p : Nat} {T : TypeId} {a0 a1 a2 a3 a4 a5 a6 a7 a8 a9 a10 a11 a12 : Value} (h : w.heap[p]? = some (.cells #[a0, a1, a2, a3, a4, a5, a6, a7, a8, a9, a10, a11, a12] T (0, 0))) (v : Value) :
    (w.setCell ⟨p, 6, none⟩ v).heap[p]? = some (.cells #[a0, a1, a2, a3, a4, a5, v, a7, a8, a9, a10, a11, a12] T (0, 0)) := by
  simp [World.setCell, Array.getElem?_modify, h]
theorem row13_set9 {w : World} {p : Nat} {T : TypeId} {a0 a1 a2 a3 a4 a5 a6 a7 a8 a9 a10 a11 a12 : Value} (h : w.heap[p]? = some (.cells #[a0, a1, a2, a3, a4, a5, a6, a7, a8, a9, a10, a11, a12] T (0, 0))) (v : Value) :
    (w.setCell ⟨p, 9, none⟩ v).heap[p]? = some (.cells #[a0, a1, a2, a3, a4, a5, a6, a7, a8, v, a10, a11, a12] T (0, 0)) := by
  simp [World.setCell, Array.getElem?_modify, h]
theorem Only.fr {b : Nat} {w w' : World} (h : Only b w w') : Fr (fun k => k = b) w w' := ⟨h.os, h.tape, h.output, by rw [h.size]; exact Nat.le_refl _, fun k _ hk => h.block k hk⟩
theorem Only.set1 (w : World) (b i : Nat) (u : Value) : Only b w (w.setCell ⟨b, i, none⟩ u) := (Only.refl b w).set_ i u

/-- the struct's cells turned, and maybe the map -/
theorem PRep.turn {w w' : World} {X X' : PG} {ok ok' : Nat → Prop} {bo : Nat} {vw vm : Value} (h : PRep w X ok bo vw vm) (hi : X.inn = true) (hi' : X'.inn = true) (hp : X'.p = X.p) (hwas : X'.was = X.was) (hmk : X'.marks = X.marks) (hok : ∀ k, ok k → ok' k)
    (hblk : w'.heap[X.p]? = some (.cells #[dp X'.d, .int .i64 X'.mode, dp X'.l, .int .i64 X'.c, .bool X'.dead, .bool X'.inn, .bool X'.wrote, vw, .map (some bo), .int .i64 X'.count, vm, .int .i64 X'.next, .int .i64 X'.sure] 128 (0, 0)))
    (hm : ∀ k, ok k → k < w.heap.size → k ≠ X.p → k ≠ bo → w'.heap[k]? = w.heap[k]?) (ho : OwnAt w' ok' bo X'.own) : PRep w' X' ok' bo vw vm := by
  have hown := h.own hi
  obtain ⟨o, hob, hon⟩ : ∃ o, w.heap[bo]? = some o ∧ ∀ cs t, o ≠ .cells cs t (0, 0) := by
    obtain ⟨_, f, sz, hS, _⟩ := hown
    exact hS.isMap
  have hmv : ∀ k, ok k → k < w.heap.size → k ≠ X.p → k ≠ bo → w'.heap[k]? = w.heap[k]? := hm
  refine ⟨by rw [hp, hi', if_pos rfl]; rw [hi'] at hblk; exact hblk, by rw [hp]; exact hok _ h.okp, ?_, fun _ => ho, ?_⟩
  · rw [hwas]
    exact h.was.same (fun k hk => hmv k (h.was.1 k hk) (h.was.lt hk) (h.was.ne h.hp (fun cs e => by injection e with _ e2; cases e2) hk) (h.was.ne hob (fun cs => hon cs _) hk)) (fun k hk => hok k (h.was.1 k hk))
  · rw [hmk]
    obtain ⟨h1, bs, h2, h3, h4⟩ := h.marks
    refine ⟨fun k hk => hok k (h1 k hk), bs, h2, own_at_heap h3 (fun k hk => hmv k (h1 k hk) (own_lt h3 k hk) (own_ne h3 h.hp (fun cs e => by injection e with _ e2; cases e2) hk) (own_ne h3 hob (fun cs => hon cs _) hk)), fun i b m hb hmm => ?_⟩
    obtain ⟨h5, h6⟩ := h4 i b m hb hmm
    refine ⟨?_, h6⟩
    obtain ⟨ho1, f, sz, hS, hn, hs⟩ := h5
    have hbp : b ≠ X.p := by
      obtain ⟨o', ho', hne'⟩ := hS.isMap
      rintro rfl
      rw [h.hp] at ho'
      exact hne' _ _ (Option.some.inj ho').symm
    refine ⟨hok _ ho1, f, sz, hS.move (hmv b ho1 hS.lt hbp h6), hn, fun x v hx => ?_⟩
    obtain ⟨a1, a2, bs', a3, a4, a5⟩ := hs x v hx
    exact ⟨a1, a2, bs', a3, a4, a5.same (fun k hk => hmv k (a5.1 k hk) (a5.lt hk) (a5.ne h.hp (fun cs e => by injection e with _ e2; cases e2) hk) (a5.ne hob (fun cs => hon cs _) hk)) (fun k hk => hok k (a5.1 k hk))⟩

theorem range_length : ∀ (L : List Int) (a b : Int), a ≤ b → L.Pairwise (· < ·) → (∀ x ∈ L, a ≤ x ∧ x < b) → (L.length : Int) ≤ b - a
  | [], a, b, hab, _, _ => by simp; omega
  | x :: xs, a, b, hab, h, hL => by
    obtain ⟨h1, h2⟩ := List.pairwise_cons.1 h
    obtain ⟨h3, h4⟩ := hL x (by simp)
    have := range_length xs (x + 1) b (by omega) h2 (fun y hy => ⟨by have := h1 y hy; omega, (hL y (by simp [hy])).2⟩)
    simp only [List.length_cons]
    omega
theorem sli_R {w : World} {base : Nat} {ok : Nat → Prop} {A : Option Addr} {n c : Nat} {l : Bytes} (h : U8.R 5 w base ok (.slice A n c) l) : (sliE (.slice A n c)).isSome = true := by
  obtain ⟨h1, h2⟩ := Kd.own_of_R h
  rcases h2 with ⟨h2, _⟩ | ⟨g, cap, cur, h2, _⟩
  · rw [h2]; rfl
  · rw [h2]; rfl
theorem few_keys {w : World} {b sz : Nat} {f : Int → Option Value} (h : SMap Tryz.prog 3 w b f sz) (hf : ∀ x v, f x = some v → 0 ≤ x ∧ x < 4096) : sz ≤ 4096 := by
  obtain ⟨L, hL⟩ := h.keys Tryz.underlying3
  rw [← h.size_keys Tryz.underlying3 hL]
  have := range_length L 0 4096 (by omega) hL.1 (fun x hx => by
    obtain ⟨v, hv⟩ := Option.isSome_iff_exists.1 ((hL.2 x).1 hx)
    exact hf x v hv)
  omega

set_option maxHeartbeats 4000000 in
set_option maxRecDepth 100000 in
theorem pwrite_in {w : World} {X : PG} {ok : Nat → Prop} {x : Nat → Int} (h : PgAt w X ok) (ht : Tab 190 w X.l x) (hl : ¬ ok X.l) (n : Int) (hd : X.dead = false) (hi : X.inn = true) (h0 : 0 ≤ n) (h1 : n < 4096) (hrE : rE x X.c 2 = 0)
    {A : Option Addr} {cb : Nat} {bs : Bytes} (hC : U8.C w A 512 bs) (hA : ∀ ad, A = some ad → ¬ ok ad.block ∧ ad.block ≠ X.l ∧ ad.block < w.heap.size) :
    Calls Tryz.prog 77 #[dp X.p, .int .i64 n, .slice A 512 cb] w fun e w' => e = .returned (.int .i64 0) ∧ PLeft w (X.put n bs) (rX x X.c 2) ok w' := by
  have HA := ask_any h
  rw [askE_in hd hi] at HA
  replace HA := Aside0.mk HA
  have HG := Aside0.mk (fun w => good_ok n w h0 h1)
  have HR := raise_all X.l x X.c 2 w.drew ht.drew
  rw [hrE] at HR
  replace HR := Aside0.mk HR
  obtain ⟨bo, vw, vm, h⟩ := h
  have H := Aside0.mk h
  have HHi := Aside0.mk hi
  have c2 := h.cell 2
  have c3 := h.cell 3
  have hlt := h.lt
  have hpl : X.p ≠ X.l := fun e => hl (e ▸ h.okp)
  obtain ⟨p, hp⟩ : ∃ p, p = X.p := ⟨_, rfl⟩
  rw [← hp] at c2 c3 hlt HA hpl ⊢
  obtain ⟨l, hl'⟩ : ∃ l, l = X.l := ⟨_, rfl⟩
  rw [← hl'] at c2 HR hpl hl hA ht
  have HX := Aside0.mk (And.intro hp (And.intro hl' (And.intro ht (And.intro hl (And.intro hC hA)))))
  clear hp hl' ht h hd hi hrE hl hC hA
  go_enter Tryz.func77, Tryz.ntmps77
  go_wp2_with (first | (go_at_call 85; refine (HA.out).mono ?_; rintro e w' ⟨rfl, rfl⟩) | (go_at_call 127; refine (HG.out _).mono ?_; rintro e w' ⟨rfl, rfl⟩))
  go_still_tail 8, (by kernel_rfl)
  go_wp2_with (go_at_call 91; refine (HR.out).mono ?_; rintro e w1 ⟨rfl, ht1, ho1⟩
               have h1' : PRep w1 X ok bo vw vm := H.out.move (fun k hk _ => ho1.block k (fun e => HX.out.2.2.2.1 (e ▸ hk)))
               have c6 := h1'.cell 6
               have f6 := h1'.frozen 6
               rw [← HX.out.1] at c6 f6
               have H1 := Aside0.mk (And.intro h1' (And.intro ht1 ho1))
               clear h1' ht1 ho1)
  rename_i w1 K hK
  generalize hw2 : World.setCell _ _ _ = w2
  have HW2 := Aside0.mk hw2
  clear hw2 c6 f6 c2 c3
  obtain ⟨hob, f, sz, hS, hnone, hsome⟩ := H.out.own HHi.out
  have HO := Aside0.mk (And.intro hob (And.intro hS (And.intro hnone hsome)))
  clear hob hS hnone hsome
  have hF2 : Fr (fun k => k = l ∨ k = p) w w2 := by
    rw [← HW2.out]
    exact (((H1.out.2.2.fr).wide (fun k _ hk => .inl hk)).undrew).set_ (.inl (.inr rfl)) _
  have c8 : w2.cell? ⟨p, 8, none⟩ = some (.map (some bo)) := by
    have := row13_set6 H1.out.1.hp (.bool true)
    rw [HHi.out, if_pos rfl, ← HX.out.1, HW2.out] at this
    exact cell_of_row w2 p 8 _ _ (0, 0) this
  have hlt2 : p < w2.heap.size := Nat.lt_of_lt_of_le hlt hF2.size
  have HCl : Aside0 (∀ W, Below w2.heap.size w2 W → Calls Tryz.prog 123 #[.slice A 512 cb] W fun e w' => ∃ A3 c3, e = .returned (.slice A3 512 c3) ∧ U8.R 5 w' W.heap.size (fun k => W.heap.size ≤ k) (.slice A3 512 c3) bs ∧ Below W.heap.size W w' ∧ w'.cell? ⟨p, 8, none⟩ = some (.map (some bo)) ∧
      ∃ w4 : World, (Instr.mapUpdate 125 (.map (some bo)) (.int .i64 n) (.slice A3 512 c3)).run Tryz.prog w' = .ok () w4 ∧ SMap Tryz.prog 3 w4 bo (fun y => if y = n then some (.slice A3 512 c3) else f y) (if (f n).isSome then sz else sz + 1) ∧ w'.mapTurned w4 bo ∧ w4.cell? ⟨p, 8, none⟩ = some (.map (some bo))) := by
    refine ⟨fun W hW => ?_⟩
    obtain ⟨hp, hl', ht, hl, hC, hA⟩ := HX.out
    have hCW : U8.C W A 512 bs := Kd.C_below (C_fr hC (fun ad e => by
      obtain ⟨h1, h2, h3⟩ := hA ad e
      rintro (h | h)
      · exact h2 h
      · exact h1 (h ▸ hp ▸ H.out.okp)) hF2) hW
    refine (clone_any A 512 cb bs W (by unfold roomy; omega) hCW).mono ?_
    rintro e w' ⟨v, rfl, hv, hb⟩
    obtain ⟨A3, c3, rfl⟩ := Kd.R_slice hv
    have hbl : bs.length = 512 := hC.1
    rw [hbl] at hv ⊢
    have hS' : SMap Tryz.prog 3 w' bo f sz := (HO.out.2.1).move ((hb.block _ (by have := HO.out.2.1.lt; have := hF2.size; have := hW.size; omega)).trans ((hW.block _ (by have := HO.out.2.1.lt; have := hF2.size; omega)).trans (hF2.block _ HO.out.2.1.lt (by
      rintro (h | h)
      · exact hl (h ▸ HO.out.1)
      · obtain ⟨o, ho, hne⟩ := HO.out.2.1.isMap
        have := H.out.hp
        rw [← hp, ← h] at this
        rw [this] at ho
        exact hne _ _ (Option.some.inj ho).symm))))
    refine ⟨A3, c3, rfl, hv, hb, ((hb.cell (p := ⟨p, 8, none⟩) (by have := hW.size; show p < _; omega)).trans ((hW.cell (p := ⟨p, 8, none⟩) hlt2).trans c8)), ?_⟩
    have hpb : p ≠ bo := by
      obtain ⟨o, ho, hne⟩ := HO.out.2.1.isMap
      rintro h
      have := H.out.hp
      rw [← hp, h] at this
      rw [this] at ho
      exact hne _ _ (Option.some.inj ho).symm
    have c83 := ((hb.cell (p := ⟨p, 8, none⟩) (by have := hW.size; show p < _; omega)).trans ((hW.cell (p := ⟨p, 8, none⟩) hlt2).trans c8))
    have hst := hS'.store Tryz.underlying3 Tryz.underlying125 (wf4096 h0 h1) (by
      have := few_keys hS' (fun x v hx => ⟨(HO.out.2.2.2 x v hx).1, (HO.out.2.2.2 x v hx).2.1⟩)
      unfold maxLen; omega) (by
      exact sli_R hv)
    obtain ⟨w4, h1, h2, h3⟩ := hst
    exact ⟨w4, h1, h2, h3, (World.cell?_of_block (h3.grown.block p (Nat.lt_of_lt_of_le hlt2 (Nat.le_trans hW.size hb.size)) (by simp; exact hpb))).trans c83⟩
  clear hF2
  go_region_held3 (fun w' => w'.cell? ⟨p, 8, none⟩ = some (.map (some bo))) (first | go_keep | assumption)
    (first
      | (go_at_call 123; refine (HCl.out _ (by first | exact pw_below_drewN (Below.refl _ _) _ | exact below_drew (pw_below_drewN (Below.refl _ _) _))).mono ?_; rintro e w3 ⟨A3, c3, rfl, hR3, hB3, c83, w4, hmu, hS4, ht4, c84⟩; have H3 := Aside0.mk (And.intro hR3 (And.intro hB3 (And.intro hS4 ht4))); clear hR3 hB3 hS4 ht4))
  all_goals
    have hp4 : w4.heap[p]? = some (.cells #[dp X.d, .int .i64 X.mode, dp X.l, .int .i64 X.c, .bool X.dead, .bool X.inn, .bool true, vw, .map (some bo), .int .i64 X.count, vm, .int .i64 X.next, .int .i64 X.sure] 128 (0, 0)) := by
      have h6 := row13_set6 H1.out.1.hp (.bool true)
      rw [← HX.out.1, HW2.out] at h6
      obtain ⟨hR3, hB3, hS4, ht4⟩ := H3.out
      have hpb : p ≠ bo := by
        obtain ⟨o, ho, hne⟩ := HO.out.2.1.isMap
        rintro h
        have := H.out.hp
        rw [← HX.out.1, h] at this
        rw [this] at ho
        exact hne _ _ (Option.some.inj ho).symm
      have := (ht4.grown.block p (Nat.lt_of_lt_of_le hlt2 hB3.size) (by simp; exact hpb)).trans ((hB3.block p hlt2).trans h6)
      rw [HHi.out] at this ⊢
      exact this
    have c9 := cell_of_row w4 p 9 _ _ (0, 0) hp4
    have f9 := frozen_of_cells hp4 9
    have HP4 := Aside0.mk hp4
    clear hp4 hmu
    go_wp2
    go_ret
  refine ⟨rfl, ?_⟩
  obtain ⟨hR3, hB3, hS4, ht4⟩ := H3.out
  obtain ⟨hp, hl', ht, hl, hC, hA⟩ := HX.out
  obtain ⟨h1', ht1, ho1⟩ := H1.out
  have hbl : bs.length = 512 := hC.1
  have hp4 := HP4.out
  have hpb : p ≠ bo := by
    obtain ⟨o, ho, hne⟩ := hS4.isMap
    rintro h
    rw [h] at hp4
    rw [hp4] at ho
    exact hne _ _ (Option.some.inj ho).symm
  have hlb : l ≠ bo := fun e => hl (e ▸ HO.out.1)
  have hs1 : w1.heap.size = w.heap.size := ho1.size
  have hs2 : w2.heap.size = w.heap.size := by rw [← HW2.out]; simp [World.setCell, hs1]
  have hs3 : w.heap.size ≤ w3.heap.size := by have : w2.heap.size ≤ w3.heap.size := hB3.size; omega
  have hs4 : w3.heap.size ≤ w4.heap.size := ht4.grown.size
  have hs5 : (w4.setCell ⟨p, 9, none⟩ (Value.int .i64 (max X.count (n + 1)))).heap.size = w4.heap.size := by simp [World.setCell]
  have k5 : ∀ k, k ≠ p → (w4.setCell ⟨p, 9, none⟩ (Value.int .i64 (max X.count (n + 1)))).heap[k]? = w4.heap[k]? := fun k hk => Below.heap_setCell _ _ _ _ hk
  have k4 : ∀ k, k < w3.heap.size → k ≠ bo → w4.heap[k]? = w3.heap[k]? := fun k hk hb => ht4.grown.block k hk (by simpa using hb)
  have k3 : ∀ k, k < w.heap.size → w3.heap[k]? = w2.heap[k]? := fun k hk => hB3.block k (by show k < w2.heap.size; omega)
  have k2 : ∀ k, k ≠ p → w2.heap[k]? = w1.heap[k]? := fun k hk => by rw [← HW2.out]; exact Below.heap_setCell _ _ _ _ hk
  have k1 : ∀ k, k ≠ l → w1.heap[k]? = w.heap[k]? := fun k hk => ho1.block k hk
  have kk : ∀ k, k < w.heap.size → k ≠ p → k ≠ bo → k ≠ l → (w4.setCell ⟨p, 9, none⟩ (Value.int .i64 (max X.count (n + 1)))).heap[k]? = w.heap[k]? := fun k h1 h2 h3 h4 =>
    (k5 k h2).trans ((k4 k (by omega) h3).trans ((k3 k h1).trans ((k2 k h2).trans (k1 k h4))))
  refine ⟨⟨bo, vw, vm, PRep.turn H.out HHi.out (X' := X.put n bs) HHi.out rfl rfl rfl (fun k hk => .inl hk) ?_ (fun k hok hk hkp hkb => kk k hk (hp ▸ hkp) hkb (fun e => hl (e ▸ hok))) ?_⟩, ?_, ?_⟩
  · have := row13_set9 hp4 (Value.int .i64 (max X.count (n + 1)))
    rw [hp] at this ⊢
    exact this
  · refine ⟨.inl HO.out.1, _, _, hS4.move (k5 bo (Ne.symm hpb)), fun y hy => ?_, fun y v hy => ?_⟩
    · by_cases e : y = n
      · subst e; simp at hy
      · simp only [if_neg e] at hy
        show (if y = n then some bs else X.own y) = none
        rw [if_neg e]; exact HO.out.2.2.1 y hy
    · by_cases e : y = n
      · subst e
        simp only [if_true] at hy
        obtain rfl := Option.some.inj hy
        refine ⟨h0, h1, bs, by show (if y = y then some bs else X.own y) = some bs; rw [if_pos rfl], hbl, ?_⟩
        have hRB := RB.of_R hR3
        refine hRB.same (fun k hk => ?_) (fun k hk => ?_)
        · have hlt3 := hRB.lt hk
          have h2 : w2.heap.size ≤ k := hRB.1 k hk
          have hbl' := HO.out.2.1.lt
          exact (k5 k (by omega)).trans (k4 k hlt3 (by omega))
        · have hlt3 := hRB.lt hk
          have h2 : w2.heap.size ≤ k := hRB.1 k hk
          refine .inr ⟨by omega, ?_⟩
          rw [hs5]; omega
      · simp only [if_neg e] at hy
        obtain ⟨a1, a2, bs', a3, a4, a5⟩ := HO.out.2.2.2 y v hy
        refine ⟨a1, a2, bs', by show (if y = n then some bs else X.own y) = some bs'; rw [if_neg e]; exact a3, a4, ?_⟩
        refine a5.same (fun k hk => ?_) (fun k hk => .inl (a5.1 k hk))
        obtain ⟨o, ho, hne⟩ := HO.out.2.1.isMap
        have hkp : k ≠ p := by rw [hp]; exact a5.ne H.out.hp (fun cs e => by injection e with _ e2; cases e2) hk
        exact kk k (a5.lt hk) hkp (a5.ne ho (fun cs => hne cs _) hk) (fun e => hl (e ▸ a5.1 k hk))
  · show Tab _ _ X.l _
    rw [← hl']
    exact (k5 l (Ne.symm hpl)).trans ((k4 l (by have := ht.lt; omega) hlb).trans ((k3 l ht.lt).trans ((k2 l (Ne.symm hpl)).trans ht1)))
  · refine ⟨ht4.grown.os.trans (hB3.os.trans (by rw [show w2.drew.os = w2.os from rfl, ← HW2.out]; exact ho1.os)), ht4.grown.tape.trans (hB3.tape.trans (by rw [show w2.drew.tape = w2.tape from rfl, ← HW2.out]; exact ho1.tape)), ht4.grown.output.trans (hB3.output.trans (by rw [show w2.drew.output = w2.output from rfl, ← HW2.out]; exact ho1.output)), by rw [hs5]; omega, fun k hk hn => ?_⟩
    replace hn : ¬ (ok k ∨ k = X.l) := hn
    rw [← hl'] at hn
    exact kk k hk (fun e => hn (.inl (by rw [e, hp]; exact H.out.okp))) (fun e => hn (.inl (e ▸ HO.out.1))) (fun e => hn (.inr e))
end Go.Proofs.YtpaiadidgokjlaaGreat

/-
  A new disk, a pager over it, its transaction, a file of pages.
-/
import Derived.Test.YtpaiadidgokjlaaGreatOp
namespace Go.Proofs.YtpaiadidgokjlaaGreat
open Go.RowKit Go.Maps Go.Proofs.YtpaiadidgokjlaaGreatW.PrintWords Go.Proofs.YtpaiadidgokjlaaGreatW.PrintLast Go.Proofs.YtpaiadidgokjlaaGreatW.PrintMore
open Go.Proofs.YtpaiadidgokjlaaGreat.PPagesModel
set_option linter.unusedVariables false
set_option linter.unusedSimpArgs false

theorem fresh_at (A : Array Obj) (o : Obj) {k : Nat} (h : k = A.size) : (A.push o)[k]? = some o := by
  subst h; simp
/-- an empty disk -/
def M0 : DM := { fs := fun _ => none, tr := fun _ => 0, st := 0, off := false }
theorem DRep.empty0 (w : World) : DRep (((w.alloc (.map #[] 0)).alloc (.map #[] 0)).alloc (.cells #[.map (some w.heap.size), .map (some (w.heap.size + 1)), .int .i64 0, .bool false] 172)) (w.heap.size + 2) M0 (fun k => w.heap.size ≤ k) w.heap.size (w.heap.size + 1) (fun _ => none) (fun _ => .slice none 0 0) (fun _ => .slice none 0 0) 0 where
  hd := by show (((w.heap.push _).push _).push _)[_]? = _; exact fresh_at _ _ (by simp only [Array.size_push])
  hf := ((PMap.made Tryz.prog 9 w).move (w' := (w.alloc (.map #[] 0)).alloc (.map #[] 0)) (Below.heap_alloc _ _ _ (by simp))).move (Below.heap_alloc _ _ _ (by simp; omega))
  ht := by
    have := NMap.made Tryz.prog 3 3 (w.alloc (.map #[] 0))
    rw [show (w.alloc (.map #[] 0)).heap.size = w.heap.size + 1 from by simp] at this
    exact this.move (Below.heap_alloc _ _ _ (by simp))
  dom := fun _ => rfl
  file := fun _ _ _ h => by cases h
  inj := fun _ _ _ h => by cases h
  apart := fun _ _ _ _ _ h => by cases h
  ne := by omega
  okd := by omega
  okf := Nat.le_refl _
  okt := by omega
  okb := fun _ _ h => by cases h

set_option maxRecDepth 100000 in
theorem dnew_nil (w : World) : Calls Tryz.prog 67 #[.slice none 0 0, .slice none 0 0] w fun e w' => e = .returned (.tuple #[dp (w.heap.size + 2), .int .i64 0]) ∧ DiskAt w' (w.heap.size + 2) M0 (fun k => w.heap.size ≤ k) ∧ Below w.heap.size w w' := by
  have HD := Aside0.mk (DRep.empty0 w)
  have hmm := @run_makeMap Tryz.prog
  go_enter Tryz.func67, Tryz.ntmps67
  go_wp2
  refine wp_loop_rounds 1 ?_
  rw [rounds_succ]
  go_wp2
  refine wp_loop_rounds 1 ?_
  rw [rounds_succ]
  go_wp2
  go_ret2
  exact ⟨rfl, ⟨_, _, _, _, _, _, HD.out⟩, (((Below.refl w.heap.size w).alloc (Nat.le_refl _) _).alloc (by simp) _).alloc (by simp; omega) _⟩

/-- a disk with a base at most -/
structure JQ (M : DM) : Prop where
  off : M.off = false
  names : ∃ L : List Name, (L.Pairwise (· < ·) ∧ ∀ x, x ∈ L ↔ (M.fs x).isSome = true) ∧ L.length ≤ 16
  jn : M.fs (nm sJ) = none
  lg : M.fs (nm sL) = none
  len : (baseB M).length ≤ 2097152
  md : (baseB M).length % 512 = 0
theorem JQ.zero : JQ M0 := ⟨rfl, ⟨[], ⟨List.Pairwise.nil, fun x => by simp [M0]⟩, by simp⟩, rfl, rfl, by simp [baseB, M0], by simp [baseB, M0]⟩

/-- a pager that was opened -/
def newPG (p d l : Nat) (mode : Int) (c : Nat) : PG := { p := p, d := d, l := l, mode := mode, c := c, dead := false, inn := false, wrote := false, was := [], own := fun _ => none, count := 0, marks := [], next := 0, sure := -1 }
theorem PRep.new (w : World) (d l : Nat) (mode : Int) (c : Nat) : PgAt (w.alloc (.cells #[dp d, .int .i64 mode, dp l, .int .i64 c, .bool false, .bool false, .bool false, .slice none 0 0, .map none, .int .i64 0, .slice none 0 0, .int .i64 0, .int .i64 (-1)] 128)) (newPG w.heap.size d l mode c) (fun k => k = w.heap.size) :=
  ⟨0, .slice none 0 0, .slice none 0 0, heap_alloc_new w _, rfl, RB.nil _ _, fun h => by simp [newPG] at h, fun k hk => by simp [Value.ownBlock] at hk, [], rfl, own_nil _ _ _ _, fun i b m h => by simp at h⟩

set_option maxRecDepth 100000 in
theorem popen_jour {w : World} {d l : Nat} {M : DM} {okd : Nat → Prop} (h : DiskAt w d M okd) (hq : JQ M) (c : Nat) (hc : c < 4) :
    Calls Tryz.prog 125 #[dp d, .int .i64 1, dp l, .int .i64 c] w fun e w' => e = .returned (.tuple #[dp w.heap.size, .int .i64 0]) ∧ PgAt w' (newPG w.heap.size d l 1 c) (fun k => k = w.heap.size) ∧ Below w.heap.size w w' := by
  obtain ⟨L, hL, h16⟩ := hq.names
  have HP := Aside0.mk (PRep.new w d l 1 c)
  have HC := Aside0.mk (committed_jour HP.out (h.alloc _) rfl hq.off hL h16 hq.jn hq.lg hq.len hq.md)
  have HCo := Aside0.mk (conn_yes c w (by omega) (by omega))
  clear h hq hL h16 hc
  go_enter Tryz.func125, Tryz.ntmps125
  go_wp2_with (first
    | (go_at_call 133; refine (HCo.out).mono ?_; rintro e w' ⟨rfl, rfl⟩)
    | (go_at_call 95; refine (HC.out).mono ?_; rintro e w1 ⟨v, rfl, hv, hb⟩; obtain ⟨A3, c3, rfl⟩ := Kd.R_slice hv; have HB := Aside0.mk hb; clear hv hb))
  go_ret2
  have hb := HB.out
  exact ⟨rfl, HP.out.move (fun k hk _ => hb.block k (by simp; omega)), ((Below.refl w.heap.size w).alloc (Nat.le_refl _) _).trans (hb.mono (by simp))⟩

theorem row13_set5 {w : World} {p : Nat} {T : TypeId} {a0 a1 a2 a3 a4 a5 a6 a7 a8 a9 a10 a11 a12 : Value} (h : w.heap[p]? = some (.cells #[a0, a1, a2, a3, a4, a5, a6, a7, a8, a9, a10, a11, a12] T (0, 0))) (v : Value) :
    (w.setCell ⟨p, 5, none⟩ v).heap[p]? = some (.cells #[a0, a1, a2, a3, a4, v, a6, a7, a8, a9, a10, a11, a12] T (0, 0)) := by
  simp [World.setCell, Array.getElem?_modify, h]
theorem row13_set7 {w : World} {p : Nat} {T : TypeId} {a0 a1 a2 a3 a4 a5 a6 a7 a8 a9 a10 a11 a12 : Value} (h : w.heap[p]? = some (.cells #[a0, a1, a2, a3, a4, a5, a6, a7, a8, a9, a10, a11, a12] T (0, 0))) (v : Value) :
    (w.setCell ⟨p, 7, none⟩ v).heap[p]? = some (.cells #[a0, a1, a2, a3, a4, a5, a6, v, a8, a9, a10, a11, a12] T (0, 0)) := by
  simp [World.setCell, Array.getElem?_modify, h]
theorem row13_set8 {w : World} {p : Nat} {T : TypeId} {a0 a1 a2 a3 a4 a5 a6 a7 a8 a9 a10 a11 a12 : Value} (h : w.heap[p]? = some (.cells #[a0, a1, a2, a3, a4, a5, a6, a7, a8, a9, a10, a11, a12] T (0, 0))) (v : Value) :
    (w.setCell ⟨p, 8, none⟩ v).heap[p]? = some (.cells #[a0, a1, a2, a3, a4, a5, a6, a7, v, a9, a10, a11, a12] T (0, 0)) := by
  simp [World.setCell, Array.getElem?_modify, h]

/-- the marks, where the struct's block and new ones alone turned -/
theorem MkAt.other {w w' : World} {ok ok' : Nat → Prop} {bo bo' p : Nat} {v : Value} {ms : List Mk} {cs : Array Value} (h : MkAt w ok bo v ms) (hp : w.heap[p]? = some (.cells cs 128 (0, 0)))
    (hm : ∀ k, ok k → k < w.heap.size → k ≠ p → w'.heap[k]? = w.heap[k]?) (hok : ∀ k, ok k → ok' k) (hb : w.heap.size ≤ bo') : MkAt w' ok' bo' v ms := by
  obtain ⟨h1, bs, h2, h3, h4⟩ := h
  refine ⟨fun k hk => hok k (h1 k hk), bs, h2, own_at_heap h3 (fun k hk => hm k (h1 k hk) (own_lt h3 k hk) (own_ne h3 hp (fun cs e => by injection e with _ e2; cases e2) hk)), fun i b m hbb hmm => ?_⟩
  obtain ⟨h5, h6⟩ := h4 i b m hbb hmm
  have hlt := h5.lt
  refine ⟨?_, by omega⟩
  obtain ⟨ho1, f, sz, hS, hn, hs⟩ := h5
  have hbp : b ≠ p := by
    obtain ⟨o', ho', hne'⟩ := hS.isMap
    rintro rfl
    rw [hp] at ho'
    exact hne' _ _ (Option.some.inj ho').symm
  refine ⟨hok _ ho1, f, sz, hS.move (hm b ho1 hS.lt hbp), hn, fun x v hx => ?_⟩
  obtain ⟨a1, a2, bs', a3, a4, a5⟩ := hs x v hx
  exact ⟨a1, a2, bs', a3, a4, a5.same (fun k hk => hm k (a5.1 k hk) (a5.lt hk) (a5.ne hp (fun cs e => by injection e with _ e2; cases e2) hk)) (fun k hk => hok k (a5.1 k hk))⟩

/-- a transaction that begins -/
def PG.begun (X : PG) (M : DM) : PG := { X with inn := true, was := baseB M, own := fun _ => none, count := ((baseB M).length / 512 : Nat) }

set_option maxHeartbeats 4000000 in
set_option maxRecDepth 100000 in
theorem begin_jour {w : World} {X : PG} {M : DM} {ok okd : Nat → Prop} {x : Nat → Int} (h : PgAt w X ok) (hD : DiskAt w X.d M okd) (hq : JQ M) (ht : Tab 190 w X.l x) (hl : ¬ ok X.l) (hld : ¬ okd X.l)
    (hmode : X.mode = 1) (hd : X.dead = false) (hi : X.inn = false) (hrE : rE x X.c 1 = 0) :
    Calls Tryz.prog 37 #[dp X.p] w fun e w' => e = .returned (.int .i64 0) ∧ PLeft w (X.begun M) (rX x X.c 1) ok w' := by
  have HR := raise_all X.l x X.c 1 w.drew ht.drew
  rw [hrE] at HR
  replace HR := Aside0.mk HR
  obtain ⟨bo, vw, vm, h⟩ := h
  have H := Aside0.mk h
  have c2 := h.cell 2
  have c3 := h.cell 3
  have c4 := h.cell 4
  have c5 := h.cell 5
  rw [hd] at c4
  rw [hi] at c5
  have hlt := h.lt
  have hpl : X.p ≠ X.l := fun e => hl (e ▸ h.okp)
  obtain ⟨p, hp⟩ : ∃ p, p = X.p := ⟨_, rfl⟩
  rw [← hp] at c2 c3 c4 c5 hlt hpl ⊢
  obtain ⟨l, hl'⟩ : ∃ l, l = X.l := ⟨_, rfl⟩
  rw [← hl'] at c2 HR hpl hl hld ht
  have HX := Aside0.mk (And.intro hp (And.intro hl' (And.intro ht (And.intro hl (And.intro hld (And.intro hD (And.intro hq (And.intro hmode (And.intro hd hi)))))))))
  clear hp hl' ht h hd hi hrE hl hld hD hq hmode
  have hmm := @run_makeMap Tryz.prog
  go_enter Tryz.func37, Tryz.ntmps37
  go_wp2
  go_still_tail 8, (by kernel_rfl)
  go_wp2_with (first
    | (go_at_call 91; refine (HR.out).mono ?_; rintro e w1 ⟨rfl, ht1, ho1⟩
       have h1' : PRep w1 X ok bo vw vm := H.out.move (fun k hk _ => ho1.block k (fun e => HX.out.2.2.2.1 (e ▸ hk)))
       obtain ⟨L, hL, h16⟩ := HX.out.2.2.2.2.2.2.1.names
       have HC := committed_jour ⟨bo, vw, vm, h1'⟩ (HX.out.2.2.2.2.2.1.move (fun k hk _ => ho1.block k (fun e => HX.out.2.2.2.2.1 (e ▸ hk)))) HX.out.2.2.2.2.2.2.2.1 HX.out.2.2.2.2.2.2.1.off hL h16 HX.out.2.2.2.2.2.2.1.jn HX.out.2.2.2.2.2.2.1.lg HX.out.2.2.2.2.2.2.1.len HX.out.2.2.2.2.2.2.1.md
       rw [← HX.out.1] at HC
       replace HC := Aside0.mk HC
       have H1 := Aside0.mk (And.intro h1' (And.intro ht1 ho1))
       clear h1' ht1 ho1 hL h16)
    | (go_at_call 95; refine (HC.out).mono ?_; rintro e w2 ⟨v, rfl, hv, hb⟩
       have h2 : w2.heap[p]? = _ := (hb.block p (by have := H1.out.1.lt; rw [← HX.out.1] at this; exact this)).trans (HX.out.1 ▸ H1.out.1.hp)
       obtain ⟨A3, c3', rfl⟩ := Kd.R_slice hv
       have hbl : (baseB M).length ≤ 2097152 := HX.out.2.2.2.2.2.2.1.len
       have HB := Aside0.mk (And.intro hv (And.intro hb h2))
       generalize hn : (baseB M).length = bn at *
       have HN := Aside0.mk hn
       have hlt2 : p < w2.heap.size := heap_lt h2
       have d5 := cell_of_row w2 p 5 _ _ (0, 0) h2
       have e5 := frozen_of_cells h2 5
       have d7 := cell_of_row w2 p 7 _ _ (0, 0) h2
       have e7 := frozen_of_cells h2 7
       have d8 := cell_of_row w2 p 8 _ _ (0, 0) h2
       have e8 := frozen_of_cells h2 8
       have d9 := cell_of_row w2 p 9 _ _ (0, 0) h2
       have e9 := frozen_of_cells h2 9
       clear hv hb h2 hn))
  go_ret
  refine ⟨rfl, ?_⟩
  obtain ⟨hp, hl', ht, hl, hld, hD, hq, hmode, hd, hi⟩ := HX.out
  obtain ⟨h1', ht1, ho1⟩ := H1.out
  obtain ⟨hv, hb, h2⟩ := HB.out
  have hbn := HN.out
  have hs1 : w1.heap.size = w.heap.size := ho1.size
  have hs2 : w1.heap.size ≤ w2.heap.size := hb.size
  have b5 := row13_set9 (row13_set8 (row13_set7 (row13_set5 h2 (.bool true)) (.slice A3 bn c3')) (.map (some w2.heap.size))) (.int .i64 ((bn : Int) / 512))
  generalize hW : ((((w2.setCell ⟨p, 5, none⟩ (.bool true)).setCell ⟨p, 7, none⟩ (.slice A3 bn c3')).setCell ⟨p, 8, none⟩ (.map (some w2.heap.size))).setCell ⟨p, 9, none⟩ (.int .i64 ((bn : Int) / 512))) = W at b5 ⊢
  have hO : Only p w2 W := by rw [← hW]; exact ((((Only.refl p w2).set_ 5 _).set_ 7 _).set_ 8 _).set_ 9 _
  have hsW : W.heap.size = w2.heap.size := hO.size
  have kA : ∀ k, k < w2.heap.size → (W.alloc (.map #[] 0)).heap[k]? = W.heap[k]? := fun k hk => Below.heap_alloc _ _ _ (by omega)
  have k2 : ∀ k, k < w1.heap.size → k ≠ p → (W.alloc (.map #[] 0)).heap[k]? = w1.heap[k]? := fun k hk hkp => (kA k (by omega)).trans ((hO.block k hkp).trans (hb.block k hk))
  have k1 : ∀ k, k < w.heap.size → k ≠ p → k ≠ l → (W.alloc (.map #[] 0)).heap[k]? = w.heap[k]? := fun k hk hkp hkl => (k2 k (by omega) hkp).trans (ho1.block k hkl)
  have hsA : (W.alloc (.map #[] 0)).heap.size = w2.heap.size + 1 := by simp [hsW]
  have hRB : RB w2 (fun k => w1.heap.size ≤ k) (.slice A3 bn c3') (baseB M) := RB.of_R hv
  refine ⟨⟨w2.heap.size, .slice A3 bn c3', vm, ?_, .inl H.out.okp, ?_, fun _ => ?_, ?_⟩, ?_, ?_⟩
  · have h6 := (kA p hlt2).trans b5
    rw [hd] at h6
    rw [hp] at h6
    show _ = some (Obj.cells #[dp X.d, .int .i64 X.mode, dp X.l, .int .i64 X.c, .bool X.dead, .bool true, .bool X.wrote, .slice A3 bn c3', .map (some w2.heap.size), .int .i64 ((baseB M).length / 512 : Nat), vm, .int .i64 X.next, .int .i64 X.sure] _ _)
    rw [hd, hbn]
    exact h6
  · refine hRB.same (fun k hk => ?_) (fun k hk => .inr ⟨by have := hRB.1 k hk; omega, by have := hRB.lt hk; omega⟩)
    have hlt3 := hRB.lt hk
    exact (kA k hlt3).trans (hO.block k (hRB.ne h2 (fun cs e => by injection e with _ e2; cases e2) hk))
  · refine ⟨.inr ⟨by omega, by omega⟩, fun _ => none, 0, ?_, fun _ _ => rfl, fun x v hx => by cases hx⟩
    have := SMap.made Tryz.prog 3 W
    rw [hsW] at this
    exact this
  · exact (H.out.marks).other H.out.hp (fun k hok hk hkp => k1 k hk (hp ▸ hkp) (fun e => hl (e ▸ hok))) (fun k hk => .inl hk) (by omega)
  · show Tab _ _ X.l _
    rw [← hl']
    exact (k2 l (by have := ht1.lt; omega) (Ne.symm hpl)).trans ht1
  · refine ⟨?_, ?_, ?_, by rw [hsA]; omega, fun k hk hn => ?_⟩
    · exact hO.os.trans (hb.os.trans ho1.os)
    · exact hO.tape.trans (hb.tape.trans ho1.tape)
    · exact hO.output.trans (hb.output.trans ho1.output)
    · replace hn : ¬ (ok k ∨ k = X.l) := hn
      rw [← hl'] at hn
      exact k1 k hk (fun e => hn (.inl (by rw [e, hp]; exact H.out.okp))) (fun e => hn (.inr e))
end Go.Proofs.YtpaiadidgokjlaaGreat

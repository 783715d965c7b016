/-
  One pager alone over its disk, with its locks; a file of pages over it.
-/
import Derived.Test.YtpaiadidgokjlaaGreatSt
namespace Go.Proofs.YtpaiadidgokjlaaGreat
open Go.RowKit Go.Maps Go.Proofs.YtpaiadidgokjlaaGreatW.PrintWords Go.Proofs.YtpaiadidgokjlaaGreatW.PrintLast Go.Proofs.YtpaiadidgokjlaaGreatW.PrintMore
open Go.Proofs.YtpaiadidgokjlaaGreat.PPagesModel
set_option linter.unusedVariables false
set_option linter.unusedSimpArgs false

/-- connection 0 alone, at a level -/
def LK (x : Nat → Int) (v : Int) : Prop := x 0 = v ∧ x 1 = 0 ∧ x 2 = 0 ∧ x 3 = 0
theorem LK.most {x : Nat → Int} {v : Int} (h : LK x v) : most4 x 0 = 0 := by
  obtain ⟨h0, h1, h2, h3⟩ := h
  simp [most4, mstep, h0, h1, h2, h3]
theorem LK.upd {x : Nat → Int} {v : Int} (h : LK x v) (u : Int) : LK (upd x 0 u) u := by
  obtain ⟨h0, h1, h2, h3⟩ := h
  simp [LK, Go.Proofs.YtpaiadidgokjlaaGreat.upd, h1, h2, h3]
theorem LK.raise {x : Nat → Int} {v level : Int} (h : LK x v) (hl : level = 1 ∨ level = 2 ∨ level = 4) (h0 : level = 1 ∨ (level = 2 ∧ 1 ≤ v) ∨ (level = 4 ∧ 2 ≤ v)) : rE x (0 : Nat) level = 0 ∧ LK (rX x (0 : Nat) level) (if v < level then level else v) := by
  have hm := h.most
  have hx : x 0 = v := h.1
  unfold rE rX
  rw [if_pos ⟨by omega, hl⟩, if_pos ⟨by omega, hl⟩]
  have hz : ((0 : Nat) : Int).toNat = 0 := rfl
  rw [hz, show ((0 : Nat) : Int) = 0 from rfl, hm, hx]
  refine ⟨?_, ?_⟩
  · unfold raiseE
    rcases hl with rfl | rfl | rfl <;> simp <;> omega
  · have : raiseL v 0 level = if v < level then level else v := by
      unfold raiseL
      rcases hl with rfl | rfl | rfl <;> simp <;> omega
    rw [this]
    exact h.upd _
theorem LK.lower {x : Nat → Int} {v : Int} (h : LK x v) (hv : 0 ≤ v) : LK (lX x (0 : Nat) 0) 0 := by
  unfold lX
  rw [if_pos ⟨by omega, .inl rfl⟩]
  have hx : x 0 = v := h.1
  have hz : ((0 : Nat) : Int).toNat = 0 := rfl
  rw [hz, hx]
  have : (if (0 : Int) < v then (0 : Int) else v) = 0 := by split <;> omega
  rw [this]
  exact h.upd _

/-- a pager alone: its blocks, its disk, its locks, apart -/
def Sys (w : World) (X : PG) (M : DM) (ok : Nat → Prop) : Prop :=
  ∃ (okP okD : Nat → Prop) (x : Nat → Int) (v : Int), PgAt w X okP ∧ DiskAt w X.d M okD ∧ Tab 190 w X.l x ∧ LK x v ∧ (∀ k, okP k → ok k ∧ k ≠ X.l ∧ ¬ okD k ∧ k < w.heap.size) ∧ (∀ k, okD k → ok k ∧ k ≠ X.l ∧ k < w.heap.size) ∧ ok X.l ∧ X.c = 0 ∧
    (X.inn = false → v = 0) ∧ (X.inn = true → v = 1 ∨ v = 2) ∧ (X.wrote = true → v = 2)
abbrev Grow (w : World) (ok : Nat → Prop) (w' : World) : Nat → Prop := fun k => ok k ∨ (w.heap.size ≤ k ∧ k < w'.heap.size)
def SLeft (w : World) (X : PG) (M : DM) (ok : Nat → Prop) (w' : World) : Prop := Sys w' X M (Grow w ok w') ∧ Fr ok w w'

section
variable {w w' : World} {X : PG} {M : DM} {ok ok' : Nat → Prop}
theorem Sys.move (h : Sys w X M ok) (hs : w.heap.size ≤ w'.heap.size) (hm : ∀ k, ok k → k < w.heap.size → w'.heap[k]? = w.heap[k]?) : Sys w' X M ok := by
  obtain ⟨okP, okD, x, v, h1, h2, h3, h4, h5, h6, h7, h8⟩ := h
  exact ⟨okP, okD, x, v, h1.move (fun k hk hl => hm k (h5 k hk).1 hl), h2.move (fun k hk hl => hm k (h6 k hk).1 hl), (hm _ h7 h3.lt).trans h3, h4, fun k hk => ⟨(h5 k hk).1, (h5 k hk).2.1, (h5 k hk).2.2.1, Nat.lt_of_lt_of_le (h5 k hk).2.2.2 hs⟩, fun k hk => ⟨(h6 k hk).1, (h6 k hk).2.1, Nat.lt_of_lt_of_le (h6 k hk).2.2 hs⟩, h7, h8⟩
theorem Sys.mono (h : Sys w X M ok) (hk : ∀ k, ok k → ok' k) : Sys w X M ok' := by
  obtain ⟨okP, okD, x, v, h1, h2, h3, h4, h5, h6, h7, h8⟩ := h
  exact ⟨okP, okD, x, v, h1, h2, h3, h4, fun k h => ⟨hk k (h5 k h).1, (h5 k h).2⟩, fun k h => ⟨hk k (h6 k h).1, (h6 k h).2⟩, hk _ h7, h8⟩
theorem Sys.pg (h : Sys w X M ok) : PgAt w X ok := by
  obtain ⟨okP, okD, x, v, h1, h2, h3, h4, h5, h6, h7, h8⟩ := h
  exact h1.mono (fun k hk => (h5 k hk).1)
theorem Sys.below (h : Sys w X M ok) (hb : Below w.heap.size w w') : Sys w' X M ok := h.move hb.size (fun k _ hk => hb.block k hk)
end

/-- a page is written -/
theorem s_write {w : World} {X : PG} {M : DM} {ok : Nat → Prop} (h : Sys w X M ok) (n : Int) (hd : X.dead = false) (hi : X.inn = true) (h0 : 0 ≤ n) (h1 : n < 4096)
    {A : Option Addr} {cb : Nat} {bs : Bytes} (hC : U8.C w A 512 bs) (hA : ∀ ad, A = some ad → ¬ ok ad.block ∧ ad.block < w.heap.size) :
    Calls Tryz.prog 77 #[dp X.p, .int .i64 n, .slice A 512 cb] w fun e w' => e = .returned (.int .i64 0) ∧ SLeft w (X.put n bs) M ok w' := by
  obtain ⟨okP, okD, x, v, hP, hD, hT, hL, h5, h6, h7, hc, hv0, hv1, hv2⟩ := h
  have hv := hv1 hi
  have hR := hL.raise (level := 2) (by omega) (by omega)
  rw [← hc] at hR
  refine (pwrite_in hP hT (fun hk => (h5 _ hk).2.1 rfl) n hd hi h0 h1 hR.1 hC (fun ad e => ⟨fun hk => (hA ad e).1 (h5 _ hk).1, fun e2 => (hA ad e).1 (e2 ▸ h7), (hA ad e).2⟩)).mono ?_
  rintro e w' ⟨rfl, hP', hT', hF⟩
  refine ⟨rfl, ⟨_, okD, _, _, hP', hD.move (fun k hk hlt => hF.block k hlt (fun h => h.elim (fun h => (h5 k h).2.2.1 hk) (fun h => (h6 k hk).2.1 h))), hT', hR.2, fun k hk => ?_, fun k hk => ⟨.inl (h6 k hk).1, (h6 k hk).2.1, Nat.lt_of_lt_of_le (h6 k hk).2.2 hF.size⟩, .inl h7, hc, fun h => ?_, fun _ => ?_, fun _ => ?_⟩, hF.wide (fun k _ hk => hk.elim (fun h => (h5 k h).1) (fun h => h ▸ h7))⟩
  · rcases hk with hk | hk
    · exact ⟨.inl (h5 k hk).1, (h5 k hk).2.1, (h5 k hk).2.2.1, Nat.lt_of_lt_of_le (h5 k hk).2.2.2 hF.size⟩
    · refine ⟨.inr hk, fun e => ?_, fun hk2 => ?_, hk.2⟩
      · have := hT.lt
        rw [e] at hk
        exact absurd this (by have := hk.1; show ¬ X.l < _; exact Nat.not_lt.2 this)
      · have := (h6 k hk2).2.2
        omega
  · exact absurd (show X.inn = false from h) (by rw [hi]; decide)
  · right; split <;> omega
  · split <;> omega

/-- a transaction begins -/
theorem s_begin {w : World} {X : PG} {M : DM} {ok : Nat → Prop} (h : Sys w X M ok) (hq : JQ M) (hmode : X.mode = 1) (hd : X.dead = false) (hi : X.inn = false) (hwr : X.wrote = false) :
    Calls Tryz.prog 37 #[dp X.p] w fun e w' => e = .returned (.int .i64 0) ∧ SLeft w (X.begun M) M ok w' := by
  obtain ⟨okP, okD, x, v, hP, hD, hT, hL, h5, h6, h7, hc, hv0, hv1, hv2⟩ := h
  have hv := hv0 hi
  have hR := hL.raise (level := 1) (by omega) (by omega)
  rw [← hc] at hR
  refine (begin_jour hP hD hq hT (fun hk => (h5 _ hk).2.1 rfl) (fun hk => (h6 _ hk).2.1 rfl) hmode hd hi hR.1).mono ?_
  rintro e w' ⟨rfl, hP', hT', hF⟩
  refine ⟨rfl, ⟨_, okD, _, _, hP', hD.move (fun k hk hlt => hF.block k hlt (fun h => h.elim (fun h => (h5 k h).2.2.1 hk) (fun h => (h6 k hk).2.1 h))), hT', hR.2, fun k hk => ?_, fun k hk => ⟨.inl (h6 k hk).1, (h6 k hk).2.1, Nat.lt_of_lt_of_le (h6 k hk).2.2 hF.size⟩, .inl h7, hc, fun h => ?_, fun _ => ?_, fun h => ?_⟩, hF.wide (fun k _ hk => hk.elim (fun h => (h5 k h).1) (fun h => h ▸ h7))⟩
  · rcases hk with hk | hk
    · exact ⟨.inl (h5 k hk).1, (h5 k hk).2.1, (h5 k hk).2.2.1, Nat.lt_of_lt_of_le (h5 k hk).2.2.2 hF.size⟩
    · refine ⟨.inr hk, fun e => ?_, fun hk2 => ?_, hk.2⟩
      · have := hT.lt
        rw [e] at hk
        exact absurd this (by have := hk.1; show ¬ X.l < _; exact Nat.not_lt.2 this)
      · have := (h6 k hk2).2.2
        omega
  · cases h
  · left; rw [hv]; rfl
  · exact absurd (show X.wrote = true from h) (by rw [hwr]; decide)

theorem num12_any (e0 : Int) (w : World) : Calls Tryz.prog 126 #[.int .i64 e0] w fun e w' => e = .returned (.int .i64 e0) ∧ w = w' := by
  go_enter Tryz.func126, Tryz.ntmps126
  go_wp2
  go_ret
  exact ⟨rfl, rfl⟩
theorem num13_any (e0 : Int) (w : World) : Calls Tryz.prog 17 #[.int .i64 e0] w fun e w' => e = .returned (.int .i64 e0) ∧ w = w' := by
  go_enter Tryz.func17, Tryz.ntmps17
  go_wp2
  go_ret
  exact ⟨rfl, rfl⟩

set_option maxRecDepth 100000 in
theorem lopen_jour {w : World} {d : Nat} {M : DM} {okd : Nat → Prop} (h : DiskAt w d M okd) (hq : JQ M) (hk : ∀ k, okd k → k < w.heap.size) :
    Calls Tryz.prog 68 #[dp d, .int .i64 1] w fun e w' => e = .returned (dp (w.heap.size + 1)) ∧ Sys w' (newPG (w.heap.size + 1) d w.heap.size 1 0) M (fun k => okd k ∨ w.heap.size ≤ k) ∧ Below w.heap.size w w' := by
  have HN := Aside0.mk (new_any w)
  have HO := popen_jour (w := w.alloc (.cells #[.int .i64 0, .int .i64 0, .int .i64 0, .int .i64 0] 190)) (l := w.heap.size) (h.alloc _) hq 0 (by omega)
  rw [show (w.alloc (.cells #[.int .i64 0, .int .i64 0, .int .i64 0, .int .i64 0] 190)).heap.size = w.heap.size + 1 from by simp] at HO
  replace HO := Aside0.mk HO
  have HD := Aside0.mk h
  clear h
  go_enter Tryz.func68, Tryz.ntmps68
  go_wp2_with (first
    | (go_at_call 124; refine (HN.out).mono ?_; rintro e w' ⟨rfl, rfl⟩)
    | (go_at_call 125; refine (HO.out).mono ?_; rintro e w2 ⟨rfl, hP, hb⟩; have H := Aside0.mk (And.intro hP hb); clear hP hb)
    | (go_at_call 126; refine (num12_any _ _).mono ?_; rintro e w' ⟨rfl, rfl⟩))
  go_ret
  obtain ⟨hP, hb⟩ := H.out
  have hT : Tab 190 (w.alloc (.cells #[.int .i64 0, .int .i64 0, .int .i64 0, .int .i64 0] 190)) w.heap.size (fun _ => 0) := Tab.new w
  have hs : w.heap.size + 1 < w2.heap.size := hP.lt
  refine ⟨rfl, ⟨fun k => k = w.heap.size + 1, okd, fun _ => 0, 0, hP, (HD.out.alloc _).move (fun k hk' hl => hb.block k (by have := hk k hk'; omega)), (hb.block w.heap.size (by omega)).trans hT, ⟨rfl, rfl, rfl, rfl⟩, ?_, fun k h => ⟨.inl h, fun e => ?_, ?_⟩, .inr (Nat.le_refl _), rfl, fun _ => rfl, (fun h => by cases h), (fun h => by cases h)⟩, ((Below.refl w.heap.size w).alloc (Nat.le_refl _) _).trans (hb.mono (by omega))⟩
  · rintro k rfl
    exact ⟨.inr (by omega), by show _ ≠ w.heap.size; omega, fun h => by have := hk _ h; omega, hs⟩
  · have := hk k h
    have e' : k = w.heap.size := e
    omega
  · have := hk k h
    omega

theorem gnew_any (p : Nat) (w : World) : Calls Tryz.prog 33 #[dp p] w fun e w' => e = .returned (dp w.heap.size) ∧ w' = w.alloc (.cells #[dp p] 114) := by
  go_enter Tryz.func33, Tryz.ntmps33
  go_wp2
  go_ret
  exact ⟨rfl, rfl⟩
theorem gnew_nil (w : World) : Calls Tryz.prog 33 #[.pointer none] w fun e w' => e = .returned (.pointer none) ∧ w = w' := by
  go_enter Tryz.func33, Tryz.ntmps33
  go_wp2
  go_ret
  exact ⟨rfl, rfl⟩

/-- what a transaction's writes leave alone -/
def PG.core (X : PG) : PG := { X with own := fun _ => none, count := 0, wrote := false }
/-- a file of pages: what stands on each page -/
def FAt (w : World) (g : Nat) (B : PG) (M : DM) (V : Int → Bytes) (cnt : Int) (ok : Nat → Prop) : Prop :=
  ∃ (X : PG) (ok1 : Nat → Prop), X.core = B ∧ X.view = V ∧ X.count = cnt ∧ X.inn = true ∧ X.dead = false ∧ X.was.length ≤ 4194304 ∧ Sys w X M ok1 ∧ w.heap[g]? = some (.cells #[dp B.p] 114 (0, 0)) ∧ (∀ k, ok1 k → ok k ∧ k ≠ g) ∧ ok g
def FLeft (w : World) (g : Nat) (B : PG) (M : DM) (V : Int → Bytes) (cnt : Int) (ok : Nat → Prop) (w' : World) : Prop := FAt w' g B M V cnt (Grow w ok w') ∧ Fr ok w w'
section
variable {w w' w'' : World} {g : Nat} {B : PG} {M : DM} {V : Int → Bytes} {cnt : Int} {ok ok' : Nat → Prop}
theorem FAt.move (h : FAt w g B M V cnt ok) (hs : w.heap.size ≤ w'.heap.size) (hm : ∀ k, ok k → k < w.heap.size → w'.heap[k]? = w.heap[k]?) : FAt w' g B M V cnt ok := by
  obtain ⟨X, ok1, h1, h2, h3, h4, h5, h6, h7, h8, h9, h10⟩ := h
  exact ⟨X, ok1, h1, h2, h3, h4, h5, h6, h7.move hs (fun k hk hl => hm k (h9 k hk).1 hl), (hm g h10 (heap_lt h8)).trans h8, h9, h10⟩
theorem FAt.mono (h : FAt w g B M V cnt ok) (hk : ∀ k, ok k → ok' k) : FAt w g B M V cnt ok' := by
  obtain ⟨X, ok1, h1, h2, h3, h4, h5, h6, h7, h8, h9, h10⟩ := h
  exact ⟨X, ok1, h1, h2, h3, h4, h5, h6, h7, h8, fun k h => ⟨hk k (h9 k h).1, (h9 k h).2⟩, hk _ h10⟩
theorem FAt.below (h : FAt w g B M V cnt ok) (hb : Below w.heap.size w w') : FAt w' g B M V cnt ok := h.move hb.size (fun k _ hk => hb.block k hk)
theorem FAt.drewN (h : FAt w g B M V cnt ok) (n : Nat) : FAt (w.drewN n) g B M V cnt ok := h.move (Nat.le_refl _) (fun _ _ _ => rfl)
theorem FAt.lt (h : FAt w g B M V cnt ok) : g < w.heap.size := by
  obtain ⟨X, ok1, h1, h2, h3, h4, h5, h6, h7, h8, h9, h10⟩ := h
  exact heap_lt h8
theorem FAt.cell (h : FAt w g B M V cnt ok) : w.cell? ⟨g, 0, none⟩ = some (dp B.p) := by
  obtain ⟨X, ok1, h1, h2, h3, h4, h5, h6, h7, h8, h9, h10⟩ := h
  exact cell_of_row w g 0 _ _ (0, 0) h8
theorem FLeft.same (h : FAt w g B M V cnt ok) : FLeft w g B M V cnt ok w := ⟨h.mono (fun _ hk => .inl hk), Fr.refl _ _⟩
theorem FLeft.trans {V' : Int → Bytes} {cnt' : Int} (h : FLeft w g B M V cnt ok w') (k : FLeft w' g B M V' cnt' (Grow w ok w') w'') : FLeft w g B M V' cnt' ok w'' := by
  refine ⟨k.1.mono (fun j hj => ?_), h.2.trans k.2 (fun j hj => hj.imp id (fun h => h.1))⟩
  have h1 := h.2.size
  have h2 := k.2.size
  rcases hj with (hj | hj) | hj
  · exact .inl hj
  · exact .inr ⟨hj.1, by omega⟩
  · exact .inr ⟨by omega, hj.2⟩
theorem FLeft.then_below (h : FLeft w g B M V cnt ok w') (hb : Below w'.heap.size w' w'') : FLeft w g B M V cnt ok w'' :=
  ⟨(h.1.below hb).mono (fun k hk => hk.imp id (fun h => ⟨h.1, Nat.lt_of_lt_of_le h.2 hb.size⟩)), h.2.trans (Fr.of_below (ok := fun _ => False) hb) (fun _ h => h.elim)⟩
end
theorem view_put (X : PG) (n : Int) (bs : Bytes) : (X.put n bs).view = fun y => if y = n then bs else X.view y := by
  funext y
  show (if y = n then some bs else X.own y).getD (X.page y) = _
  by_cases e : y = n
  · rw [if_pos e, if_pos e]; rfl
  · rw [if_neg e, if_neg e]; rfl

/-- a page is read -/
theorem f_read {w : World} {g : Nat} {B : PG} {M : DM} {V : Int → Bytes} {cnt : Int} {ok : Nat → Prop} (h : FAt w g B M V cnt ok) (n : Int) (h0 : 0 ≤ n) (h1 : n < 4096) :
    Calls Tryz.prog 72 #[dp B.p, .int .i64 n] w fun e w' => ∃ v, e = .returned (.tuple #[v, .int .i64 0]) ∧ U8.R 5 w' w.heap.size (fun k => w.heap.size ≤ k) v (V n) ∧ Below w.heap.size w w' := by
  obtain ⟨X, ok1, rfl, rfl, rfl, h4, h5, h6, h7, h8, h9, h10⟩ := h
  exact pread_in h7.pg n h5 h4 h0 h1 h6
/-- a page is written -/
theorem f_write {w : World} {g : Nat} {B : PG} {M : DM} {V : Int → Bytes} {cnt : Int} {ok : Nat → Prop} (h : FAt w g B M V cnt ok) (n : Int) (h0 : 0 ≤ n) (h1 : n < 4096)
    {A : Option Addr} {cb : Nat} {bs : Bytes} (hC : U8.C w A 512 bs) (hA : ∀ ad, A = some ad → ¬ ok ad.block ∧ ad.block < w.heap.size) :
    Calls Tryz.prog 77 #[dp B.p, .int .i64 n, .slice A 512 cb] w fun e w' => e = .returned (.int .i64 0) ∧ FLeft w g B M (fun y => if y = n then bs else V y) (max cnt (n + 1)) ok w' := by
  obtain ⟨X, ok1, rfl, rfl, rfl, h4, h5, h6, h7, h8, h9, h10⟩ := h
  refine (s_write h7 n h5 h4 h0 h1 hC (fun ad e => ⟨fun hk => (hA ad e).1 (h9 _ hk).1, (hA ad e).2⟩)).mono ?_
  rintro e w' ⟨rfl, hS, hF⟩
  have hlt := heap_lt h8
  refine ⟨rfl, ⟨X.put n bs, _, rfl, view_put X n bs, rfl, h4, h5, h6, hS, (hF.block g hlt (fun hk => (h9 _ hk).2 rfl)).trans h8, fun k hk => ?_, .inl h10⟩, hF.wide (fun k _ hk => (h9 k hk).1)⟩
  rcases hk with hk | hk
  · exact ⟨.inl (h9 k hk).1, (h9 k hk).2⟩
  · exact ⟨.inr hk, by omega⟩

theorem Sys.tight {w : World} {X : PG} {M : DM} {ok : Nat → Prop} (h : Sys w X M ok) : Sys w X M (fun k => ok k ∧ k < w.heap.size) := by
  obtain ⟨okP, okD, x, v, h1, h2, h3, h4, h5, h6, h7, h8⟩ := h
  exact ⟨okP, okD, x, v, h1, h2, h3, h4, fun k hk => ⟨⟨(h5 k hk).1, (h5 k hk).2.2.2⟩, (h5 k hk).2⟩, fun k hk => ⟨⟨(h6 k hk).1, (h6 k hk).2.2⟩, (h6 k hk).2⟩, ⟨h7, h3.lt⟩, h8⟩
theorem DiskAt.tight' {w : World} {d : Nat} {M : DM} {ok : Nat → Prop} (h : DiskAt w d M ok) : DiskAt w d M (fun k => ok k ∧ k < w.heap.size) := by
  obtain ⟨bf, bt, blk, sv, ev, sz, h⟩ := h
  exact ⟨bf, bt, blk, sv, ev, sz, h.hd, h.hf, h.ht, h.dom, fun x g f h1 h2 => ⟨(h.file x g f h1 h2).1, ((h.file x g f h1 h2).2.1).same (fun _ _ => rfl) (fun k hk => ⟨(h.file x g f h1 h2).2.1.1 k hk, (h.file x g f h1 h2).2.1.lt hk⟩), ((h.file x g f h1 h2).2.2).same (fun _ _ => rfl) (fun k hk => ⟨(h.file x g f h1 h2).2.2.1 k hk, (h.file x g f h1 h2).2.2.lt hk⟩)⟩, h.inj, h.apart, h.ne, ⟨h.okd, h.lt⟩, ⟨h.okf, h.hf.lt⟩, ⟨h.okt, h.ht.lt⟩, fun x g hx => ⟨h.okb x g hx, by
    obtain ⟨f, hf⟩ := Option.isSome_iff_exists.1 (show (M.fs x).isSome = true from by rw [← h.dom x, hx]; rfl)
    exact heap_lt (h.file x g f hx hf).1⟩⟩
/-- nothing was written yet -/
def V0 : Int → Bytes := fun n => if (n + 1) * 512 ≤ 0 then [] else List.replicate 512 0
theorem V0_at {n : Int} (h : 0 ≤ n) : V0 n = List.replicate 512 0 := by unfold V0; rw [if_neg (by omega)]
def B0 (p d l : Nat) : PG := ((newPG p d l 1 0).begun M0).core
theorem view_begun (p d l : Nat) : ((newPG p d l 1 0).begun M0).view = V0 := by
  funext n
  show (none : Option Bytes).getD (PG.page _ n) = V0 n
  show PG.page _ n = V0 n
  have e : ((newPG p d l 1 0).begun M0).was = [] := rfl
  unfold PG.page V0
  rw [e, List.drop_nil, List.take_nil]
  rfl

set_option maxHeartbeats 1000000 in
set_option maxRecDepth 100000 in
theorem start_any (w : World) : Calls Tryz.prog 14 #[] w fun e w' => ∃ g p d l, e = .returned (.tuple #[dp p, dp g]) ∧ FAt w' g (B0 p d l) M0 V0 0 (fun k => w.heap.size ≤ k ∧ k < w'.heap.size) ∧ Below w.heap.size w w' := by
  have HD := Aside0.mk (dnew_nil w)
  go_enter Tryz.func14, Tryz.ntmps14
  go_wp2_with (first
    | (go_at_call 67; refine (HD.out).mono ?_; rintro e w1 ⟨rfl, hD, hb⟩
       have HO := lopen_jour (hD.tight') JQ.zero (fun k hk => hk.2)
       replace HO := Aside0.mk HO
       have H1 := Aside0.mk (And.intro hD hb)
       clear hD hb)
    | (go_at_call 68; refine (HO.out).mono ?_; rintro e w2 ⟨rfl, hS, hb2⟩
       have HBg := Aside0.mk (s_begin hS JQ.zero rfl rfl rfl rfl)
       have H2 := Aside0.mk (And.intro hS hb2)
       clear hS hb2)
    | (go_at_call 37; refine (HBg.out).mono ?_; rintro e w3 ⟨rfl, hS3⟩; have H3 := Aside0.mk hS3; clear hS3)
    | (go_at_call 33; refine (gnew_any _ _).mono ?_; rintro e w4 ⟨rfl, hw4⟩; have H4 := Aside0.mk hw4; clear hw4)
    | (go_at_call 17; refine (num13_any _ _).mono ?_; rintro e w' ⟨rfl, rfl⟩))
  go_ret2
  obtain ⟨hD, hb1⟩ := H1.out
  obtain ⟨hS, hb2⟩ := H2.out
  obtain ⟨hS3, hF3⟩ := H3.out
  have hw4 := H4.out
  have s1 : w.heap.size ≤ w1.heap.size := hb1.size
  have s2 : w1.heap.size ≤ w2.heap.size := hb2.size
  have s3 : w2.heap.size ≤ w3.heap.size := hF3.size
  have s4 : w4.heap.size = w3.heap.size + 1 := by rw [hw4]; simp
  have hb4 : Below w3.heap.size w3 w4 := by rw [hw4]; exact (Below.refl _ _).alloc (Nat.le_refl _) _
  have hb3 : Below w.heap.size w w3 := (hb1.trans (hb2.mono s1)).trans (hF3.below (fun k hk => hk.elim (fun h => h.1) (fun h => by omega)) (by omega))
  refine ⟨w3.heap.size, w1.heap.size + 1, w.heap.size + 2, w1.heap.size, rfl, ⟨(newPG (w1.heap.size + 1) (w.heap.size + 2) w1.heap.size 1 0).begun M0, _, rfl, view_begun _ _ _, rfl, rfl, rfl, by simp [PG.begun, baseB, M0], hS3.tight.below hb4, by rw [hw4]; exact heap_alloc_new w3 _, fun k hk => ⟨⟨?_, by have := hk.2; omega⟩, fun e => ?_⟩, ⟨by omega, by omega⟩⟩, hb3.trans (hb4.mono (by omega))⟩
  · rcases hk.1 with (h | h) | h
    · exact h.1
    · omega
    · omega
  · have := hk.2
    omega
end Go.Proofs.YtpaiadidgokjlaaGreat

/-
  A disk whose strokes may be refused: what its calls answer and leave; lay over it.
-/
import Derived.Test.YtmdpgjdepflbmaaGreatCI
import Derived.Test.YtmdpgjdepflbmaaGreatCJ
import Derived.Test.YtmdpgjdepflbmaaGreatCM
import Derived.Test.YtmdpgjdepflbmaaGreatCT
import Derived.Test.YtmdpgjdepflbmaaGreatCS
namespace Go.Proofs.YtmdpgjdepflbmaaGreat
open Go.RowKit Go.Maps Go.Proofs.YtmdpgjdepflbmaaGreatW.PrintWords Go.Proofs.YtmdpgjdepflbmaaGreatW.PrintLast Go.Proofs.YtmdpgjdepflbmaaGreatW.PrintMore
open Go.Proofs.YtmdpgjdepflbmaaGreat.PPagerFolds
set_option linter.unusedVariables false
set_option linter.unusedSimpArgs false

/-- a disk of the pager's three files, whatever its troubles -/
structure Calm (M : DM) (c : Int) : Prop where
  st0 : 0 ≤ M.st
  st1 : M.st ≤ c
  three : ∀ x, (M.fs x).isSome = true → x = nm sB ∨ x = nm sJ ∨ x = nm sL
  len : ∀ x f, M.fs x = some f → f.1.length ≤ 4194304 ∧ f.2.length ≤ 4194304
theorem Calm.more {M : DM} {c c' : Int} (h : Calm M c) (hc : c ≤ c') : Calm M c' := ⟨h.st0, by have := h.st1; omega, h.three, h.len⟩
theorem Calm.card3 {M : DM} {c : Int} (h : Calm M c) {L : List Name} (hL : IsL M.fs L) : L.length ≤ 3 :=
  len3 _ _ _ L (hL.1.imp (fun {a b} hab e => by subst e; exact List.lt_irrefl _ hab)) (fun x hx => h.three x ((hL.2 x).1 hx))
theorem Calm.fit {w : World} {d : Nat} {M : DM} {ok : Nat → Prop} {c : Int} (h : Calm M c) (hc : c < 1000000) (hD : DiskAt w d M ok) : Fit M := by
  obtain ⟨L, hL⟩ := hD.isL
  exact ⟨h.len, h.st0, by have := h.st1; omega, by rw [card_eq hL]; have := h.card3 hL; omega⟩
/-- files of the three names, of lengths that may be -/
structure FsOk (fs : Files) : Prop where
  three : ∀ x, (fs x).isSome = true → x = nm sB ∨ x = nm sJ ∨ x = nm sL
  len : ∀ x f, fs x = some f → f.1.length ≤ 4194304 ∧ f.2.length ≤ 4194304
theorem Calm.fs {M : DM} {c : Int} (h : Calm M c) : FsOk M.fs := ⟨h.three, h.len⟩
theorem FsOk.set {fs : Files} (h : FsOk fs) {x : Name} (hx : x = nm sB ∨ x = nm sJ ∨ x = nm sL) (v : Option (Bytes × Bytes)) (hv : ∀ f, v = some f → f.1.length ≤ 4194304 ∧ f.2.length ≤ 4194304) : FsOk (setF fs x v) :=
  ⟨fun y hy => by
    by_cases e : y = x
    · rw [e]; exact hx
    · exact h.three y (by simpa [setF, e] using hy), fun y f hy => by
    by_cases e : y = x
    · exact hv f (by simpa [setF, e] using hy)
    · exact h.len y f (by simpa [setF, e] using hy)⟩
theorem Calm.stroke {M : DM} {c : Int} (h : Calm M c) {e0 : Int} {fs1 fs2 : Files} (h1 : FsOk fs1) (h2 : FsOk fs2) : Calm (strokeR M e0 fs1 fs2).2 (c + 1) := by
  have a := h.st0
  have b := h.st1
  unfold strokeR
  split
  · exact ⟨by show 0 ≤ M.st + 1; omega, by show M.st + 1 ≤ c + 1; omega, h.three, h.len⟩
  split
  · exact ⟨by show 0 ≤ M.st + 1; omega, by show M.st + 1 ≤ c + 1; omega, h.three, h.len⟩
  split
  · exact ⟨by show 0 ≤ M.st + 1; omega, by show M.st + 1 ≤ c + 1; omega, h.three, h.len⟩
  split
  · exact ⟨by show 0 ≤ M.st + 1; omega, by show M.st + 1 ≤ c + 1; omega, h1.three, h1.len⟩
  split
  · exact ⟨by show 0 ≤ M.st + 1; omega, by show M.st + 1 ≤ c + 1; omega, h2.three, h2.len⟩
  · exact ⟨by show 0 ≤ M.st + 1; omega, by show M.st + 1 ≤ c + 1; omega, h1.three, h1.len⟩
theorem Calm.write {M : DM} {c : Int} (h : Calm M c) {x : Name} (hx : x = nm sB ∨ x = nm sJ ∨ x = nm sL) {a : Nat} {b : Bytes} (ha : a + b.length ≤ 4194304) : Calm (writeM M x a b).2 (c + 1) := by
  unfold writeM
  cases e : M.fs x with
  | some f =>
    have hl := h.len x f e
    have := h.fs.set hx (some (f.1, writeB f.2 a b)) (fun g hg => by obtain rfl := Option.some.inj hg; exact ⟨hl.1, by simp only [writeB_len]; omega⟩)
    exact h.stroke this this
  | none =>
    have := h.fs.set hx (some ([], writeB [] a b)) (fun g hg => by obtain rfl := Option.some.inj hg; exact ⟨by simp, by simp only [writeB_len]; simp; omega⟩)
    simp only
    split
    · exact h.stroke this this
    · exact h.stroke h.fs h.fs
theorem Calm.sync {M : DM} {c : Int} (h : Calm M c) {x : Name} (hx : x = nm sB ∨ x = nm sJ ∨ x = nm sL) : Calm (syncM M x).2 (c + 1) := by
  unfold syncM
  cases e : M.fs x with
  | some f =>
    have hl := h.len x f e
    exact h.stroke h.fs (h.fs.set hx (some (f.2, f.2)) (fun g hg => by obtain rfl := Option.some.inj hg; exact ⟨hl.2, hl.2⟩))
  | none => exact h.stroke h.fs h.fs
theorem Calm.del {M : DM} {c : Int} (h : Calm M c) {x : Name} (hx : x = nm sB ∨ x = nm sJ ∨ x = nm sL) : Calm (delM M x).2 (c + 1) :=
  h.stroke (h.fs.set hx none (fun f hf => by cases hf)) (h.fs.set hx none (fun f hf => by cases hf))
/-- what lay answers and leaves -/
noncomputable def layT (M : DM) (x : Name) (a : Nat) (b : Bytes) : Nat → Int × DM
  | 0 => (0, M)
  | 1 => writeM M x a b
  | 2 => syncM (writeM M x a b).2 x
  | 3 => writeM (syncM (writeM M x a b).2 x).2 x a [1]
  | _ => syncM (writeM (syncM (writeM M x a b).2 x).2 x a [1]).2 x
noncomputable def layR (M : DM) (x : Name) (a : Nat) (b : Bytes) : Int × DM :=
  if (layT M x a b 1).1 ≠ 0 then layT M x a b 1 else if (layT M x a b 2).1 ≠ 0 then layT M x a b 2 else if (layT M x a b 3).1 ≠ 0 then layT M x a b 3 else layT M x a b 4

section
variable {w : World} {d p : Nat} {M : DM} {ok : Nat → Prop} {c : Int} {s : ByteArray} {bp bn ba bb : Nat}
set_option maxRecDepth 100000 in
theorem lay1_t (h : DiskAt w d M ok) (hq : Calm M c) (hc : c < 1000000) {a nb cb : Nat} {Ab : Option Addr} {b : Bytes} (hg : GoodN s) (hnb : 0 < nb) (ha : a + nb ≤ 4194304) (hsrc : Src w ok Ab nb b) (hsl : ∀ ad, Ab = some ad → ad.block < w.heap.size)
    (hp : w.cell? ⟨p, 0, none⟩ = some (dptr d)) (h1 : w.cell? ⟨bp, 0, none⟩ = some (dp p)) (h2 : w.cell? ⟨bn, 0, none⟩ = some (.string s)) (h3 : w.cell? ⟨ba, 0, none⟩ = some (.int .i64 a)) (h4 : w.cell? ⟨bb, 0, none⟩ = some (.slice Ab nb cb)) :
    Calls Tryz.prog 115 #[bptr bp, bptr bn, bptr ba, bptr bb] w fun e w' => e = .returned (.int .i64 (writeM M (nm s) a b).1) ∧ Left w d (writeM M (nm s) a b).2 ok w' := by
  have HW := Aside0.mk (write_any (w := w.drew) (cb := cb) h.drew (hq.fit hc h) hg hnb ha hsrc.drew hsl)
  clear h hq hc hg hnb ha hsrc hsl
  go_enter Tryz.func115, Tryz.ntmps115
  go_wp2
  go_still_tail 7, (by kernel_rfl)
  go_wp2_with (go_at_call 116; refine (HW.out).mono ?_; rintro e w1 ⟨rfl, hL⟩; have H1 := Aside0.mk hL; clear hL)
  go_ret
  exact ⟨rfl, H1.out.undrew⟩
set_option maxRecDepth 100000 in
theorem lay2_t (h : DiskAt w d M ok) (hq : Calm M c) (hc : c < 1000000) (hg : GoodN s) 
    (hp : w.cell? ⟨p, 0, none⟩ = some (dptr d)) (h1 : w.cell? ⟨bp, 0, none⟩ = some (dp p)) (h2 : w.cell? ⟨bn, 0, none⟩ = some (.string s)) :
    Calls Tryz.prog 117 #[bptr bp, bptr bn] w fun e w' => e = .returned (.int .i64 (syncM M (nm s)).1) ∧ Left w d (syncM M (nm s)).2 ok w' := by
  have HW := Aside0.mk (sync_any (w := w.drew) h.drew (hq.fit hc h) hg)
  clear h hq hc hg
  go_enter Tryz.func117, Tryz.ntmps117
  go_wp2
  go_still_tail 5, (by kernel_rfl)
  go_wp2_with (go_at_call 88; refine (HW.out).mono ?_; rintro e w1 ⟨rfl, hL⟩; have H1 := Aside0.mk hL; clear hL)
  go_ret
  exact ⟨rfl, H1.out.undrew⟩
set_option maxRecDepth 100000 in
theorem lay4_t (h : DiskAt w d M ok) (hq : Calm M c) (hc : c < 1000000) (hg : GoodN s) 
    (hp : w.cell? ⟨p, 0, none⟩ = some (dptr d)) (h1 : w.cell? ⟨bp, 0, none⟩ = some (dp p)) (h2 : w.cell? ⟨bn, 0, none⟩ = some (.string s)) :
    Calls Tryz.prog 119 #[bptr bp, bptr bn] w fun e w' => e = .returned (.int .i64 (syncM M (nm s)).1) ∧ Left w d (syncM M (nm s)).2 ok w' := by
  have HW := Aside0.mk (sync_any (w := w.drew) h.drew (hq.fit hc h) hg)
  clear h hq hc hg
  go_enter Tryz.func119, Tryz.ntmps119
  go_wp2
  go_still_tail 5, (by kernel_rfl)
  go_wp2_with (go_at_call 88; refine (HW.out).mono ?_; rintro e w1 ⟨rfl, hL⟩; have H1 := Aside0.mk hL; clear hL)
  go_ret
  exact ⟨rfl, H1.out.undrew⟩
set_option maxRecDepth 100000 in
theorem lay3_t (h : DiskAt w d M ok) (hk : ∀ k, ok k → k < w.heap.size) (hq : Calm M c) (hc : c < 1000000) {a : Nat} (hg : GoodN s) (ha : a + 1 ≤ 4194304)
    (hp : w.cell? ⟨p, 0, none⟩ = some (dptr d)) (h1 : w.cell? ⟨bp, 0, none⟩ = some (dp p)) (h2 : w.cell? ⟨bn, 0, none⟩ = some (.string s)) (h3 : w.cell? ⟨ba, 0, none⟩ = some (.int .i64 a)) (kp : ¬ ok p) (k1 : ¬ ok bp) (k2 : ¬ ok bn) (k3 : ¬ ok ba) :
    Calls Tryz.prog 118 #[bptr bp, bptr bn, bptr ba] w fun e w' => e = .returned (.int .i64 (writeM M (nm s) a [1]).1) ∧ Left w d (writeM M (nm s) a [1]).2 ok w' := by
  have HW := Aside0.mk (fun W (hW : Below w.heap.size w W) => write_any (w := W.alloc (.cells #[.int .u8 1] 5)) (cb := 1) (Ab := some ⟨W.heap.size, 0, none⟩) (b := [1]) ((h.below hW).alloc _) (hq.fit hc h) hg (by omega) ha ⟨one_B W 1, fun ad e hk' => by cases e; exact Nat.lt_irrefl _ (Nat.lt_of_lt_of_le (hk _ hk') hW.size)⟩ (fun ad e => by cases e; simp))
  have HF := Aside0.mk (fun W w1 (hW : Below w.heap.size w W) (hL : Left (W.alloc (.cells #[.int .u8 1] 5)) d (writeM M (nm s) a [1]).2 ok w1) => by
    obtain ⟨ok', g1, g2, g3⟩ := hL
    have hs := hW.size
    have key : ∀ b v, w.cell? ⟨b, 0, none⟩ = some v → ¬ ok b → w1.cell? ⟨b, 0, none⟩ = some v := fun b v hv hb => by
      have hl : b < w.heap.size := World.block_lt_of_cell? _ _ hv
      rw [World.cell?_of_block (w := W.alloc (.cells #[.int .u8 1] 5)) (a := ⟨b, 0, none⟩) (g3.block b (Nat.lt_of_lt_of_le hl (Nat.le_trans hs (by simp))) hb), World.cell?_of_block (w := W) (a := ⟨b, 0, none⟩) (Below.heap_alloc W _ b (Nat.lt_of_lt_of_le hl hs))]
      exact (hW.cell (p := ⟨b, 0, none⟩) hl).trans hv
    exact And.intro (key p _ hp kp) (And.intro (key bp _ h1 k1) (And.intro (key bn _ h2 k2) (key ba _ h3 k3))))
  clear h hq hc hg ha hk
  go_enter Tryz.func118, Tryz.ntmps118
  go_wp2
  go_region_held3 (fun w' => w'.cell? ⟨p, 0, none⟩ = some (dptr d) ∧ w'.cell? ⟨bp, 0, none⟩ = some (dp p) ∧ w'.cell? ⟨bn, 0, none⟩ = some (.string s) ∧ w'.cell? ⟨ba, 0, none⟩ = some (.int .i64 a)) (first | go_keep | assumption)
    ((go_at_call 116; refine (HW.out _ (by first | exact pw_below_drewN (Below.refl _ _) _ | exact below_drew (Below.refl _ _) | exact Below.refl _ _)).mono ?_; rintro e w1 ⟨rfl, hL⟩; obtain ⟨x1, x2, x3, x4⟩ := HF.out _ _ (by first | exact pw_below_drewN (Below.refl _ _) _ | exact below_drew (Below.refl _ _) | exact Below.refl _ _) hL; have H1 := Aside0.mk hL; clear hL))
  go_wp2
  go_ret
  refine ⟨rfl, ?_⟩
  obtain ⟨ok', g1, g2, g3⟩ := H1.out
  exact ⟨ok', g1, fun k hk => (g2 k hk).imp id (fun h => by simp at h; omega), ((Fr.refl ok w).drew.alloc _).trans g3 (fun k hk => .inl hk)⟩
end

set_option maxHeartbeats 1000000 in
set_option maxRecDepth 100000 in
theorem lay_t {w : World} {d p : Nat} {M : DM} {ok : Nat → Prop} {c : Int} {s : ByteArray} (h : DiskAt w d M ok) (hq : Calm M c) (hc : c + 10 < 1000000) (hx : nm s = nm sB ∨ nm s = nm sJ ∨ nm s = nm sL) (hg : GoodN s) (hp : w.cell? ⟨p, 0, none⟩ = some (dptr d)) (hpk : ¬ ok p) {a nb cb : Nat} {Ab : Option Addr} {b : Bytes} (hsrc : Src w ok Ab nb b) (hsl : ∀ ad, Ab = some ad → ad.block < w.heap.size) (hnb : 0 < nb) (ha : a + nb ≤ 4194304) :
    Calls Tryz.prog 91 #[dp p, .string s, .int .i64 (a : Int), .slice Ab nb cb] w fun e w' => e = .returned (.int .i64 (layR M (nm s) a b).1) ∧ Left w d (layR M (nm s) a b).2 ok w' := by
  have hbl : b.length = nb := hsrc.1.1
  obtain ⟨k0, hk0⟩ : ∃ k, k = w.heap.size := ⟨_, rfl⟩
  obtain ⟨k1, hk1⟩ : ∃ k, k = k0 + 1 := ⟨_, rfl⟩
  obtain ⟨k2, hk2⟩ : ∃ k, k = k1 + 1 := ⟨_, rfl⟩
  obtain ⟨k3, hk3⟩ : ∃ k, k = k2 + 1 := ⟨_, rfl⟩
  obtain ⟨k4, hk4⟩ : ∃ k, k = k3 + 1 := ⟨_, rfl⟩
  obtain ⟨W, hW⟩ : ∃ W, W = ((((w.alloc (.cells #[dp p] 34)).alloc (.cells #[.string s] 9)).alloc (.cells #[.int .i64 a] 3)).alloc (.cells #[.slice Ab nb cb] 48)).alloc (.cells #[.func (.func 115) #[] #[.pointer (some ⟨k0, 0, none⟩), .pointer (some ⟨k1, 0, none⟩), .pointer (some ⟨k2, 0, none⟩), .pointer (some ⟨k3, 0, none⟩)], .func (.func 117) #[] #[.pointer (some ⟨k0, 0, none⟩), .pointer (some ⟨k1, 0, none⟩)], .func (.func 118) #[] #[.pointer (some ⟨k0, 0, none⟩), .pointer (some ⟨k1, 0, none⟩), .pointer (some ⟨k2, 0, none⟩)], .func (.func 119) #[] #[.pointer (some ⟨k0, 0, none⟩), .pointer (some ⟨k1, 0, none⟩)]] 46) := ⟨_, rfl⟩
  obtain ⟨ok1, hok1⟩ : ∃ ok1 : Nat → Prop, ok1 = fun k => ok k ∧ k < w.heap.size := ⟨_, rfl⟩
  have hbW : Below w.heap.size w W := by
    rw [hW]
    exact (((((Below.refl _ _).alloc (Nat.le_refl _) _).alloc (by simp) _).alloc (by simp; omega) _).alloc (by simp; omega) _).alloc (by simp; omega) _
  have hsW : W.heap.size = w.heap.size + 5 := by rw [hW]; simp
  have hD : DiskAt W d M ok1 := by rw [hok1]; exact h.tight.move (fun k hk _ => hbW.block k hk.2)
  have hpl : p < w.heap.size := World.block_lt_of_cell? _ _ hp
  have HB : LyB w W ok1 p d k0 k1 k2 k3 k4 s a nb cb Ab b := by
    refine ⟨?_, ?_, ?_, ?_, ?_, fun k hk hk' => ?_, by omega, fun hk => ?_, (hbW.cell (p := ⟨p, 0, none⟩) hpl).trans hp, ⟨Kd.C_below hsrc.1 hbW, fun ad e hk => hsrc.2 ad e (by rw [hok1] at hk; exact hk.1)⟩, fun ad e => by have := hsl ad e; omega⟩
    · rw [hW]; exact lies (lies (lies (lies (fresh w.heap _ hk0) _) _) _) _
    · rw [hW]; exact lies (lies (lies (fresh _ _ (by simp; omega)) _) _) _
    · rw [hW]; exact lies (lies (fresh _ _ (by simp; omega)) _) _
    · rw [hW]; exact lies (fresh _ _ (by simp; omega)) _
    · rw [hW]; exact fresh _ _ (by simp; omega)
    · rw [hok1] at hk'; have := hk'.2; omega
    · rw [hok1] at hk; exact hpk hk.1
  have q1 := hq.write (x := nm s) hx (a := a) (b := b) (by rw [hbl]; exact ha)
  have q2 := q1.sync hx
  have q3 := q2.write (x := nm s) hx (a := a) (b := [1]) (by simp; omega)
  have H0 : Aside0 (Left W d (layT M (nm s) a b 0).2 ok1 W) := ⟨Left.same hD⟩
  have HB := Aside0.mk HB
  have HQ := Aside0.mk (And.intro hq (And.intro q1 (And.intro q2 q3)))
  have HK := Aside0.mk (And.intro hok1 (And.intro hbW hsW))
  have HG := Aside0.mk (And.intro hg (And.intro hnb (And.intro ha (And.intro hc hx))))
  clear h hq hc hx hg hp hpk hsrc hsl hnb ha hbl hD hok1 hbW hsW q1 q2 q3 hpl
  go_enter Tryz.func91, Tryz.ntmps91
  go_wp2
  rw [← hk0, ← hk1, ← hk2, ← hk3, ← hk4, ← hW]
  clear hk0 hk1 hk2 hk3 hk4 hW
  go_loopw [18] (fun v18 wr => (v18 = .int .i64 0 ∧ Aside0 (Left W d (layT M (nm s) a b 0).2 ok1 wr)) ∨ (v18 = .int .i64 1 ∧ Aside0 ((layT M (nm s) a b 1).1 = 0 ∧ Left W d (layT M (nm s) a b 1).2 ok1 wr)) ∨ (v18 = .int .i64 2 ∧ Aside0 (((layT M (nm s) a b 1).1 = 0 ∧ (layT M (nm s) a b 2).1 = 0) ∧ Left W d (layT M (nm s) a b 2).2 ok1 wr)) ∨ (v18 = .int .i64 3 ∧ Aside0 (((layT M (nm s) a b 1).1 = 0 ∧ (layT M (nm s) a b 2).1 = 0 ∧ (layT M (nm s) a b 3).1 = 0) ∧ Left W d (layT M (nm s) a b 3).2 ok1 wr)) ∨ (v18 = .int .i64 4 ∧ Aside0 (((layT M (nm s) a b 1).1 = 0 ∧ (layT M (nm s) a b 2).1 = 0 ∧ (layT M (nm s) a b 3).1 = 0 ∧ (layT M (nm s) a b 4).1 = 0) ∧ Left W d (layT M (nm s) a b 4).2 ok1 wr))) (fun v18 _ => 4 - (intOf v18).toNat)
  case atStart => exact .inl ⟨rfl, H0⟩
  case round =>
    clear H0
    have HT := Aside0.mk (fun {Mx : DM} (h : Left W d Mx ok1 wr) => by
      obtain ⟨okx, hD, hkx, hF⟩ := h
      have hs := hF.size
      exact (And.intro (⟨okx, hD.tight, hkx, hF⟩ : ∃ okx, DiskAt wr d Mx (fun k => okx k ∧ k < wr.heap.size) ∧ (∀ k, okx k → ok1 k ∨ W.heap.size ≤ k) ∧ Fr ok1 W wr) (And.intro (HB.out.cells hF) hF)))
    rcases hrel with ⟨rfl, HI⟩ | ⟨rfl, HI⟩ | ⟨rfl, HI⟩ | ⟨rfl, HI⟩ | ⟨rfl, HI⟩
    · obtain ⟨⟨okx, hD, hkx, hF⟩, ⟨c0, d0, d1, d2, d3, hb4⟩, _⟩ := HT.out HI.out
      have e4 := cell_of_row wr k4 0 _ _ (0, 0) (hb4.trans HB.out.b4)
      have HC := Aside0.mk (lay1_t (cb := cb) hD HQ.out.1 (by have := HG.out.2.2.2.1; omega) HG.out.1 HG.out.2.1 HG.out.2.2.1 (Src.fr' HB.out.src HB.out.sl hF (fun k hk => hkx k hk.1)) (fun ad e => Nat.lt_of_lt_of_le (HB.out.sl ad e) hF.size) c0 d0 d1 d2 d3)
      have HX := Aside0.mk (And.intro hkx hF)
      clear hD hkx hF c0 d0 d1 d2 d3 hb4 HT
      by_cases hz : (layT M (nm s) a b 1).1 = 0
      · have hC : Calls Tryz.prog 115 _ wr _ := HC.out
        have HC0 := Aside0.mk (hC.mono (fun e w' (h : e = .returned (.int .i64 (layT M (nm s) a b 1).1) ∧ _) => And.intro (h.1.trans (by rw [hz])) h.2))
        have HZ := Aside0.mk hz
        clear hz hC
        go_wp2_with (go_at_call 115; refine HC0.out.mono ?_; rintro e w2 ⟨rfl, hL⟩; have H2 := Aside0.mk hL; clear hL)
        go_roundw
        case rel => have hz := HZ.out; exact .inr (.inl ⟨rfl, ⟨⟨hz, Left.trans (M := M) (fun k hk => HX.out.1 k hk.1) HX.out.2 H2.out⟩⟩⟩)
        case measure => simp [intOf]
      · obtain ⟨er, her⟩ : ∃ er, er = (layT M (nm s) a b 1).1 := ⟨_, rfl⟩
        have hC : Calls Tryz.prog 115 _ wr _ := HC.out
        have HC0 := Aside0.mk (hC.mono (fun e w' (h : e = .returned (.int .i64 (layT M (nm s) a b 1).1) ∧ _) => And.intro (h.1.trans (by rw [← her])) h.2))
        have q : (er != 0) = true := by rw [her]; simpa using hz
        have HZ := Aside0.mk (And.intro hz her)
        clear hz her hC
        go_wp2_with (go_at_call 115; refine HC0.out.mono ?_; rintro e w2 ⟨rfl, hL⟩; have H2 := Aside0.mk hL; clear hL)
        go_ret
        have hz := HZ.out.1
        have hR : layR M (nm s) a b = layT M (nm s) a b 1 := by unfold layR; rw [if_pos hz]
        rw [hR, ← HZ.out.2]
        refine ⟨rfl, ?_⟩
        have hL := Left.trans (M := M) (fun k hk => HX.out.1 k hk.1) HX.out.2 H2.out
        rw [HK.out.1] at hL
        exact Left.loose (W := W) (Fr.of_below HK.out.2.1) hL
    · obtain ⟨⟨okx, hD, hkx, hF⟩, ⟨c0, d0, d1, d2, d3, hb4⟩, _⟩ := HT.out HI.out.2
      have e4 := cell_of_row wr k4 1 _ _ (0, 0) (hb4.trans HB.out.b4)
      have HC := Aside0.mk (lay2_t hD HQ.out.2.1 (by have := HG.out.2.2.2.1; omega) HG.out.1 c0 d0 d1)
      have HX := Aside0.mk (And.intro hkx hF)
      clear hD hkx hF c0 d0 d1 d2 d3 hb4 HT
      by_cases hz : (layT M (nm s) a b 2).1 = 0
      · have hC : Calls Tryz.prog 117 _ wr _ := HC.out
        have HC0 := Aside0.mk (hC.mono (fun e w' (h : e = .returned (.int .i64 (layT M (nm s) a b 2).1) ∧ _) => And.intro (h.1.trans (by rw [hz])) h.2))
        have HZ := Aside0.mk hz
        clear hz hC
        go_wp2_with (go_at_call 117; refine HC0.out.mono ?_; rintro e w2 ⟨rfl, hL⟩; have H2 := Aside0.mk hL; clear hL)
        go_roundw
        case rel => have hz := HZ.out; exact .inr (.inr (.inl ⟨rfl, ⟨⟨⟨HI.out.1, hz⟩, Left.trans (M := M) (fun k hk => HX.out.1 k hk.1) HX.out.2 H2.out⟩⟩⟩))
        case measure => simp [intOf]
      · obtain ⟨er, her⟩ : ∃ er, er = (layT M (nm s) a b 2).1 := ⟨_, rfl⟩
        have hC : Calls Tryz.prog 117 _ wr _ := HC.out
        have HC0 := Aside0.mk (hC.mono (fun e w' (h : e = .returned (.int .i64 (layT M (nm s) a b 2).1) ∧ _) => And.intro (h.1.trans (by rw [← her])) h.2))
        have q : (er != 0) = true := by rw [her]; simpa using hz
        have HZ := Aside0.mk (And.intro hz her)
        clear hz her hC
        go_wp2_with (go_at_call 117; refine HC0.out.mono ?_; rintro e w2 ⟨rfl, hL⟩; have H2 := Aside0.mk hL; clear hL)
        go_ret
        have hz := HZ.out.1
        have hR : layR M (nm s) a b = layT M (nm s) a b 2 := by unfold layR; rw [if_neg (fun h => h HI.out.1), if_pos hz]
        rw [hR, ← HZ.out.2]
        refine ⟨rfl, ?_⟩
        have hL := Left.trans (M := M) (fun k hk => HX.out.1 k hk.1) HX.out.2 H2.out
        rw [HK.out.1] at hL
        exact Left.loose (W := W) (Fr.of_below HK.out.2.1) hL
    · obtain ⟨⟨okx, hD, hkx, hF⟩, ⟨c0, d0, d1, d2, d3, hb4⟩, _⟩ := HT.out HI.out.2
      have e4 := cell_of_row wr k4 2 _ _ (0, 0) (hb4.trans HB.out.b4)
      have hnk : ∀ k, ¬ ok1 k → k < W.heap.size → ¬ (okx k ∧ k < wr.heap.size) := fun k hk hl h => (hkx k h.1).elim hk (fun h' => by omega)
      have HC := Aside0.mk (lay3_t hD (fun k hk => hk.2) HQ.out.2.2.1 (by have := HG.out.2.2.2.1; omega) HG.out.1 (by have := HG.out.2.2.1; have := HG.out.2.1; omega) c0 d0 d1 d2 (hnk p HB.out.np (World.block_lt_of_cell? _ _ HB.out.hp)) (hnk k0 (HB.out.nk _ (Nat.le_refl _)) (heap_lt HB.out.b0)) (hnk k1 (HB.out.nk _ HB.out.k.1) (heap_lt HB.out.b1)) (hnk k2 (HB.out.nk _ HB.out.k.2.1) (heap_lt HB.out.b2)))
      have HX := Aside0.mk (And.intro hkx hF)
      clear hD hkx hF c0 d0 d1 d2 d3 hb4 HT hnk
      by_cases hz : (layT M (nm s) a b 3).1 = 0
      · have hC : Calls Tryz.prog 118 _ wr _ := HC.out
        have HC0 := Aside0.mk (hC.mono (fun e w' (h : e = .returned (.int .i64 (layT M (nm s) a b 3).1) ∧ _) => And.intro (h.1.trans (by rw [hz])) h.2))
        have HZ := Aside0.mk hz
        clear hz hC
        go_wp2_with (go_at_call 118; refine HC0.out.mono ?_; rintro e w2 ⟨rfl, hL⟩; have H2 := Aside0.mk hL; clear hL)
        go_roundw
        case rel => have hz := HZ.out; exact .inr (.inr (.inr (.inl ⟨rfl, ⟨⟨⟨HI.out.1.1, HI.out.1.2, hz⟩, Left.trans (M := M) (fun k hk => HX.out.1 k hk.1) HX.out.2 H2.out⟩⟩⟩)))
        case measure => simp [intOf]
      · obtain ⟨er, her⟩ : ∃ er, er = (layT M (nm s) a b 3).1 := ⟨_, rfl⟩
        have hC : Calls Tryz.prog 118 _ wr _ := HC.out
        have HC0 := Aside0.mk (hC.mono (fun e w' (h : e = .returned (.int .i64 (layT M (nm s) a b 3).1) ∧ _) => And.intro (h.1.trans (by rw [← her])) h.2))
        have q : (er != 0) = true := by rw [her]; simpa using hz
        have HZ := Aside0.mk (And.intro hz her)
        clear hz her hC
        go_wp2_with (go_at_call 118; refine HC0.out.mono ?_; rintro e w2 ⟨rfl, hL⟩; have H2 := Aside0.mk hL; clear hL)
        go_ret
        have hz := HZ.out.1
        have hR : layR M (nm s) a b = layT M (nm s) a b 3 := by unfold layR; rw [if_neg (fun h => h HI.out.1.1), if_neg (fun h => h HI.out.1.2), if_pos hz]
        rw [hR, ← HZ.out.2]
        refine ⟨rfl, ?_⟩
        have hL := Left.trans (M := M) (fun k hk => HX.out.1 k hk.1) HX.out.2 H2.out
        rw [HK.out.1] at hL
        exact Left.loose (W := W) (Fr.of_below HK.out.2.1) hL
    · obtain ⟨⟨okx, hD, hkx, hF⟩, ⟨c0, d0, d1, d2, d3, hb4⟩, _⟩ := HT.out HI.out.2
      have e4 := cell_of_row wr k4 3 _ _ (0, 0) (hb4.trans HB.out.b4)
      have HC := Aside0.mk (lay4_t hD HQ.out.2.2.2 (by have := HG.out.2.2.2.1; omega) HG.out.1 c0 d0 d1)
      have HX := Aside0.mk (And.intro hkx hF)
      clear hD hkx hF c0 d0 d1 d2 d3 hb4 HT
      by_cases hz : (layT M (nm s) a b 4).1 = 0
      · have hC : Calls Tryz.prog 119 _ wr _ := HC.out
        have HC0 := Aside0.mk (hC.mono (fun e w' (h : e = .returned (.int .i64 (layT M (nm s) a b 4).1) ∧ _) => And.intro (h.1.trans (by rw [hz])) h.2))
        have HZ := Aside0.mk hz
        clear hz hC
        go_wp2_with (go_at_call 119; refine HC0.out.mono ?_; rintro e w2 ⟨rfl, hL⟩; have H2 := Aside0.mk hL; clear hL)
        go_roundw
        case rel => have hz := HZ.out; exact .inr (.inr (.inr (.inr ⟨rfl, ⟨⟨⟨HI.out.1.1, HI.out.1.2.1, HI.out.1.2.2, hz⟩, Left.trans (M := M) (fun k hk => HX.out.1 k hk.1) HX.out.2 H2.out⟩⟩⟩)))
        case measure => simp [intOf]
      · obtain ⟨er, her⟩ : ∃ er, er = (layT M (nm s) a b 4).1 := ⟨_, rfl⟩
        have hC : Calls Tryz.prog 119 _ wr _ := HC.out
        have HC0 := Aside0.mk (hC.mono (fun e w' (h : e = .returned (.int .i64 (layT M (nm s) a b 4).1) ∧ _) => And.intro (h.1.trans (by rw [← her])) h.2))
        have q : (er != 0) = true := by rw [her]; simpa using hz
        have HZ := Aside0.mk (And.intro hz her)
        clear hz her hC
        go_wp2_with (go_at_call 119; refine HC0.out.mono ?_; rintro e w2 ⟨rfl, hL⟩; have H2 := Aside0.mk hL; clear hL)
        go_ret
        have hz := HZ.out.1
        have hR : layR M (nm s) a b = layT M (nm s) a b 4 := by unfold layR; rw [if_neg (fun h => h HI.out.1.1), if_neg (fun h => h HI.out.1.2.1), if_neg (fun h => h HI.out.1.2.2)]
        rw [hR, ← HZ.out.2]
        refine ⟨rfl, ?_⟩
        have hL := Left.trans (M := M) (fun k hk => HX.out.1 k hk.1) HX.out.2 H2.out
        rw [HK.out.1] at hL
        exact Left.loose (W := W) (Fr.of_below HK.out.2.1) hL
    · clear HT
      go_wp2
      go_ret
      have hL := HI.out.2
      rw [HK.out.1] at hL
      have hR : layR M (nm s) a b = layT M (nm s) a b 4 := by unfold layR; rw [if_neg (fun h => h HI.out.1.1), if_neg (fun h => h HI.out.1.2.1), if_neg (fun h => h HI.out.1.2.2.1)]
      rw [hR, HI.out.1.2.2.2]
      exact ⟨rfl, Left.loose (W := W) (Fr.of_below HK.out.2.1) hL⟩
end Go.Proofs.YtmdpgjdepflbmaaGreat
namespace Go.Proofs.YtmdpgjdepflbmaaGreat
open Go.RowKit Go.Maps Go.Proofs.YtmdpgjdepflbmaaGreatW.PrintWords Go.Proofs.YtmdpgjdepflbmaaGreatW.PrintLast Go.Proofs.YtmdpgjdepflbmaaGreatW.PrintMore
open Go.Proofs.YtmdpgjdepflbmaaGreat.PPagerFolds
set_option linter.unusedVariables false
set_option linter.unusedSimpArgs false

/-- pages written one behind the other, as long as none is refused -/
noncomputable def wrR (pg : Own) : DM → List Int → Int × DM
  | M, [] => (0, M)
  | M, n :: L => if (writeM M (nm sB) (n.toNat * 512) ((pg n).getD [])).1 ≠ 0 then writeM M (nm sB) (n.toNat * 512) ((pg n).getD []) else wrR pg (writeM M (nm sB) (n.toNat * 512) ((pg n).getD [])).2 L
noncomputable def wsR (pg : Own) (M : DM) (L : List Int) : Int × DM := if L = [] then (0, M) else if (wrR pg M L).1 ≠ 0 then wrR pg M L else syncM (wrR pg M L).2 (nm sB)
theorem wrR_snoc (pg : Own) (n : Int) : ∀ (L : List Int) (M : DM), (wrR pg M L).1 = 0 → wrR pg M (L ++ [n]) = writeM (wrR pg M L).2 (nm sB) (n.toNat * 512) ((pg n).getD [])
  | [], M, _ => by
    simp only [List.nil_append, wrR]
    split
    · rfl
    · rename_i h
      have h' : (writeM M (nm sB) (n.toNat * 512) ((pg n).getD [])).1 = 0 := Decidable.of_not_not h
      exact Prod.ext h'.symm rfl
  | m :: L, M, h => by
    simp only [List.cons_append, wrR] at h ⊢
    by_cases e : (writeM M (nm sB) (m.toNat * 512) ((pg m).getD [])).1 ≠ 0
    · rw [if_pos e] at h
      exact absurd h e
    · rw [if_neg e] at h ⊢
      rw [if_neg e]
      exact wrR_snoc pg n L _ h
theorem wrR_stop (pg : Own) : ∀ (L1 L2 : List Int) (M : DM), (wrR pg M L1).1 ≠ 0 → wrR pg M (L1 ++ L2) = wrR pg M L1
  | [], _, M, h => absurd rfl h
  | m :: L, L2, M, h => by
    simp only [List.cons_append, wrR] at h ⊢
    by_cases e : (writeM M (nm sB) (m.toNat * 512) ((pg m).getD [])).1 ≠ 0
    · rw [if_pos e]
      rw [if_pos e]
    · rw [if_neg e] at h ⊢
      rw [if_neg e]
      exact wrR_stop pg L L2 _ h
theorem wrR_calm (pg : Own) : ∀ (L : List Int) (M : DM) (c : Int), Calm M c → (∀ n ∈ L, 0 ≤ n ∧ n < 4096 ∧ ((pg n).getD []).length = 512) → Calm (wrR pg M L).2 (c + L.length)
  | [], M, c, h, _ => by simpa [wrR] using h
  | m :: L, M, c, h, hL => by
    obtain ⟨h0, h1, h2⟩ := hL m (by simp)
    have hw := h.write (x := nm sB) (.inl rfl) (a := m.toNat * 512) (b := (pg m).getD []) (by rw [h2]; omega)
    simp only [wrR, List.length_cons]
    split
    · exact hw.more (by omega)
    · have := wrR_calm pg L _ (c + 1) hw (fun n hn => hL n (by simp [hn]))
      rw [show c + ((L.length + 1 : Nat) : Int) = c + 1 + L.length by omega]
      exact this

set_option maxHeartbeats 2000000 in
set_option maxRecDepth 100000 in
theorem writes_t {w : World} {d p b sz : Nat} {M : DM} {ok Q : Nat → Prop} {c : Int} {f : Int → Option Value} {pg : Own} (h : DiskAt w d M ok) (hq : Calm M c) (hc : c + 5000 < 1000000) (hM : PgM w b f sz pg Q) (hQ : ∀ k, Q k → ¬ ok k) (hb : ¬ ok b) (hp : w.cell? ⟨p, 0, none⟩ = some (dptr d)) (hpk : ¬ ok p) {L : List Int} (hL : IsInts f L) :
    Calls Tryz.prog 93 #[dp p, .map (some b)] w fun e w' => e = .returned (.int .i64 (wsR pg M L).1) ∧ Left w d (wsR pg M L).2 ok w' := by
  obtain ⟨ok1, hok1⟩ : ∃ ok1 : Nat → Prop, ok1 = fun k => ok k ∧ k < w.heap.size := ⟨_, rfl⟩
  have hlen := hM.map.size_keys Tryz.underlying3 hL
  have hfew := hM.few
  have HKy := Aside0.mk (callsIn_wide.1 (Tryz.maps_Keys_I (some b) w))
  have HSo := Aside0.mk (sorted_pages hM.map (by omega) hL)
  have hmem : ∀ n ∈ L, 0 ≤ n ∧ n < 4096 ∧ ((pg n).getD []).length = 512 := fun n hn => by
    obtain ⟨v, hv⟩ := Option.isSome_iff_exists.1 ((hL.2 n).1 hn)
    obtain ⟨ad, c', bs, _, _, _, _, _, hbs, hl, h0, h1⟩ := hM.some_ n v hv
    exact ⟨h0, h1, by rw [hbs]; exact hl⟩
  obtain ⟨l, hl⟩ : ∃ l, l = L.length := ⟨_, rfl⟩
  have HI := Aside0.mk (And.intro hM (And.intro hL (And.intro hmem (And.intro hok1 (And.intro hl (And.intro hQ (And.intro hb hpk)))))))
  have HD := Aside0.mk (And.intro h (And.intro hq hc))
  have HP := Aside0.mk hp
  have hl4 : l ≤ 4096 := by omega
  clear h hq hc hM hQ hb hpk hL hmem hlen hfew hok1 hp hl
  go_enter Tryz.func93, Tryz.ntmps93
  go_wp2_with (first
    | (go_at_call 122; refine HKy.out.mono ?_; rintro e w' ⟨rfl, rfl⟩)
    | (go_at_call 121; refine HSo.out.mono ?_; rintro e W ⟨v1, rfl, hR1, hbW⟩
       obtain ⟨A1, c1, rfl, hC1, hc1⟩ := R_row hR1
       rw [← HI.out.2.2.2.2.1] at hC1 hc1 ⊢
       have HW := Aside0.mk (And.intro hC1 (And.intro hbW hR1))
       clear hC1 hbW hR1))
  go_loopw [12] (fun v12 wr => ∃ i : Nat, v12 = .int .i64 i ∧ i ≤ l ∧ Aside0 ((wrR pg M (L.take i)).1 = 0 ∧ Left W d (wrR pg M (L.take i)).2 ok1 wr)) (fun v12 _ => l - (intOf v12).toNat)
  case atStart =>
    refine ⟨0, rfl, by omega, ⟨?_⟩⟩
    rw [List.take_zero]
    obtain ⟨hM, hL, hmem, hok1, hl, hQ, hb, hpk⟩ := HI.out
    have hbW := HW.out.2.1
    exact ⟨rfl, Left.same (by rw [hok1]; exact HD.out.1.tight.move (fun k hk _ => hbW.block k hk.2))⟩
  case round =>
    obtain ⟨i, rfl, hi, HL⟩ := hrel
    obtain ⟨hM, hL, hmem, hok1, hl, hQ, hb, hpk⟩ := HI.out
    obtain ⟨hC1, hbW, hR1⟩ := HW.out
    obtain ⟨hz0, okx, hD, hkx, hF⟩ := HL.out
    have HZ0 := Aside0.mk hz0
    clear hz0
    have hsW := hbW.size
    have hsr := hF.size
    have hold : ∀ k, ¬ ok k → k < w.heap.size → wr.heap[k]? = w.heap[k]? := fun k hk hlt => (hF.block k (by omega) (fun h => hk (by rw [hok1] at h; exact h.1))).trans (hbW.block k hlt)
    have hpl : p < w.heap.size := World.block_lt_of_cell? _ _ HP.out
    have c0 : wr.cell? ⟨p, 0, none⟩ = some (dptr d) := (World.cell?_of_block (w := w) (a := ⟨p, 0, none⟩) (hold p hpk hpl)).trans HP.out
    have hMr : PgM wr b f sz pg Q := hM.move (hold b hb hM.map.lt) (fun k hk hlt => hold k (hQ k hk) hlt) (by omega) (fun _ h _ => h)
    have hqi : Calm (wrR pg M (L.take i)).2 (c + i) := by
      have := wrR_calm pg (L.take i) M c HD.out.2.1 (fun n hn => hmem n (List.mem_of_mem_take hn))
      rwa [List.length_take, Nat.min_eq_left (by omega)] at this
    by_cases hlt : i < l
    · have hil : i < L.length := by omega
      obtain ⟨x, hx⟩ : ∃ x, L[i]? = some x := ⟨_, List.getElem?_eq_getElem hil⟩
      have hxL := List.mem_of_getElem? hx
      obtain ⟨hx0, hx1, _⟩ := hmem x hxL
      obtain ⟨y, rfl⟩ : ∃ y : Nat, x = (y : Int) := ⟨x.toNat, by omega⟩
      obtain ⟨v, hv⟩ := Option.isSome_iff_exists.1 ((hL.2 _).1 hxL)
      obtain ⟨ad, cx, bs, rfl, hcx, _, hQx, hadw, hbs, hbl, _, _⟩ := hM.some_ _ v hv
      obtain ⟨ad', cx', bs', e', _, hCx, _, _, hbs', _⟩ := hMr.some_ _ _ hv
      injection e' with e1 _ e2
      injection e1 with e1
      subst e1; subst e2
      obtain rfl : bs = bs' := by rw [hbs] at hbs'; exact Option.some.inj hbs'
      have hadl : ad.block < wr.heap.size := by omega
      clear hbs'
      have hRr := Kd.R_step hR1 (fun k hk hkl => hF.block k hkl (fun h => by rw [hok1] at h; have := h.2; omega))
      obtain ⟨A2, c2, he, hCr, hcr⟩ := R_row hRr
      rw [← hl] at he hCr
      injection he with he1 _ he2
      subst he1; subst he2
      obtain ⟨ad1, e1, hcell⟩ := Kd.at_int hCr (i : Int) (by omega) (by omega)
      subst e1
      have hrx : rd L (i : Int) = (y : Int) := by simp [rd, List.getD_eq_getElem?_getD, hx]
      rw [hrx, Int.toNat_natCast] at hcell
      have hsli : Lit.wf (.int .i64 (y : Int)) = true := (hM.map.2 _ _ hv).1
      have hlk : ∀ n, (Instr.lookup 110 (.map (some b)) (.int .i64 (y : Int)) false).run Tryz.prog (wr.drewN n) = .ok (.slice (some ad) 512 cx) (wr.drewN n) := fun n => by
        have := (hMr.map.move (w' := wr.drewN n) rfl).look (T := 110) Tryz.underlying3 Tryz.underlying110 (fun w => zero35 w) hsli
        rw [hv] at this
        exact this
      have hlk1 : (Instr.lookup 110 (.map (some b)) (.int .i64 (y : Int)) false).run Tryz.prog wr.drew = .ok (.slice (some ad) 512 cx) wr.drew := hlk 1
      have hWr := write_any (s := sB) (w := wr.drew) (cb := cx) (a := y * 512) (nb := 512) hD.drew (hqi.fit (by have := HD.out.2.2; omega) hD) good_B (by omega) (by omega) (b := bs) ⟨C_drewN hCx 1, fun ad' e hk => by cases e; exact (hkx _ hk).elim (fun h => hQ _ hQx (by rw [hok1] at h; exact h.1)) (fun h => by omega)⟩ (fun ad' e => by cases e; exact hadl)
      rw [show ((y * 512 : Nat) : Int) = (y : Int) * 512 by simp] at hWr
      obtain ⟨R, hR⟩ : ∃ R, R = writeM (wrR pg M (L.take i)).2 (nm sB) (y * 512) bs := ⟨_, rfl⟩
      rw [← hR] at hWr
      have e1 : wrR pg M (L.take (i + 1)) = R := by
        rw [hR, List.take_add_one, hx, Option.toList_some, wrR_snoc _ _ _ _ HZ0.out, hbs, Int.toNat_natCast, Option.getD_some]
      have e2 : R.1 ≠ 0 → wrR pg M L = R := fun hz => by
        have h3 := wrR_stop pg (L.take (i + 1)) (L.drop (i + 1)) M (by rw [e1]; exact hz)
        rw [List.take_append_drop] at h3
        rw [h3, e1]
      have hL0 : L ≠ [] := fun h => by rw [h] at hil; exact absurd hil (Nat.not_lt_zero _)
      have HX := Aside0.mk (And.intro hkx (And.intro hF (And.intro e1 (And.intro e2 hL0))))
      have y0 : (0 : Int) ≤ y := by omega
      have y1 : (y : Int) < 4096 := hx1
      have q0 : decide ((i : Int) < l) = true := by simp; omega
      by_cases hz : R.1 = 0
      · rw [hz] at hWr
        have HWr := Aside0.mk hWr
        have HZ := Aside0.mk hz
        clear hM hL hmem hok1 hl hQ hb hpk hC1 hbW hR1 hD hkx hF hsW hsr hold hpl hMr hqi hil hx hxL hv hCx hQx hadl hadw hbs hbl hRr hCr hcr hrx hWr hsli hx0 hx1 HL hR e1 e2 hL0 hz
        go_wp2
        go_still_tail 9, (by kernel_rfl)
        go_wp2_with (go_at_call 116; refine HWr.out.mono ?_; rintro e w2 ⟨rfl, hL2⟩; have H2 := Aside0.mk hL2; clear hL2)
        go_roundw
        case rel =>
          obtain ⟨hkx, hF, e1, e2, hL0⟩ := HX.out
          refine ⟨i + 1, by go_num, by omega, ⟨?_⟩⟩
          rw [e1]
          exact ⟨HZ.out, Left.trans (M := M) hkx hF H2.out.undrew⟩
        case measure => simp [intOf]; omega
      · obtain ⟨er, her⟩ : ∃ er, er = R.1 := ⟨_, rfl⟩
        rw [← her] at hWr
        have HWr := Aside0.mk hWr
        have q : (er != 0) = true := by rw [her]; simpa using hz
        have HZ := Aside0.mk (And.intro hz her)
        clear hM hL hmem hok1 hl hQ hb hpk hC1 hbW hR1 hD hkx hF hsW hsr hold hpl hMr hqi hil hx hxL hv hCx hQx hadl hadw hbs hbl hRr hCr hcr hrx hWr hsli hx0 hx1 HL hR e1 e2 hL0 hz her
        go_wp2
        go_still_tail 9, (by kernel_rfl)
        go_wp2_with (go_at_call 116; refine HWr.out.mono ?_; rintro e w2 ⟨rfl, hL2⟩; have H2 := Aside0.mk hL2; clear hL2)
        go_ret
        obtain ⟨hkx, hF, e1, e2, hL0⟩ := HX.out
        have e3 : wsR pg M L = R := by
          unfold wsR
          rw [if_neg hL0, e2 HZ.out.1, if_pos HZ.out.1]
        rw [e3, ← HZ.out.2]
        refine ⟨rfl, ?_⟩
        have h1 : Left W d R.2 ok1 w2 := Left.trans (M := M) hkx hF H2.out.undrew
        rw [HI.out.2.2.2.1] at h1
        exact Left.loose (Fr.of_below HW.out.2.1) h1
    · have hil : i = l := by omega
      subst hil
      have hz0 := HZ0.out
      rw [List.take_of_length_le (by omega)] at hqi hD hz0
      have HZ1 := Aside0.mk hz0
      clear hz0
      have hlen := hMr.map.len Tryz.underlying110 3
      have hsz := hMr.map.size_keys Tryz.underlying3 hL
      rw [← hsz, ← hl] at hlen
      by_cases hL0 : L = []
      · have q1 : ((i : Int) == 0) = true := by rw [hl, hL0]; rfl
        have HE := Aside0.mk (And.intro hL0 (And.intro hD (And.intro hkx hF)))
        clear hM hL hmem hok1 hl hQ hb hpk hC1 hbW hR1 hD hkx hF hsW hsr hold hpl hMr hqi hsz hL0 HL
        go_wp2
        go_ret
        obtain ⟨hL0, hD, hkx, hF⟩ := HE.out
        have h1 : Left W d M ok1 wr := by rw [hL0] at hD; exact ⟨okx, hD, hkx, hF⟩
        rw [HI.out.2.2.2.1] at h1
        unfold wsR
        rw [if_pos hL0]
        exact ⟨rfl, Left.loose (Fr.of_below HW.out.2.1) h1⟩
      · have q1 : ((i : Int) == 0) = false := by
          have : L.length ≠ 0 := fun h => hL0 (List.eq_nil_of_length_eq_zero h)
          simp; omega
        have hSy := sync_any (s := sB) hD (hqi.fit (by have := HD.out.2.2; omega) hD) good_B
        obtain ⟨er, her⟩ : ∃ er, er = (syncM (wrR pg M L).2 (nm sB)).1 := ⟨_, rfl⟩
        rw [← her] at hSy
        have HSy := Aside0.mk hSy
        have HER := Aside0.mk her
        clear hSy her
        have HE := Aside0.mk (And.intro hL0 (And.intro hD (And.intro hkx hF)))
        clear hM hL hmem hok1 hl hQ hb hpk hC1 hbW hR1 hD hkx hF hsW hsr hold hpl hMr hqi hsz hL0 HL
        go_wp2_with (go_at_call 88; refine HSy.out.mono ?_; rintro e w2 ⟨rfl, hL2⟩; have H2 := Aside0.mk hL2; clear hL2)
        go_ret
        obtain ⟨hL0, hD, hkx, hF⟩ := HE.out
        have h1 : Left W d (syncM (wrR pg M L).2 (nm sB)).2 ok1 w2 := Left.trans (M := M) hkx hF H2.out
        unfold wsR
        rw [if_neg hL0, if_neg (fun h => h HZ1.out), ← HER.out]
        refine ⟨rfl, ?_⟩
        rw [HI.out.2.2.2.1] at h1
        exact Left.loose (Fr.of_below HW.out.2.1) h1
end Go.Proofs.YtmdpgjdepflbmaaGreat
namespace Go.Proofs.YtmdpgjdepflbmaaGreat
open Go.RowKit Go.Maps Go.Proofs.YtmdpgjdepflbmaaGreatW.PrintWords Go.Proofs.YtmdpgjdepflbmaaGreatW.PrintLast Go.Proofs.YtmdpgjdepflbmaaGreatW.PrintMore
open Go.Proofs.YtmdpgjdepflbmaaGreat.PPagerFolds
set_option linter.unusedVariables false
set_option linter.unusedSimpArgs false

/-- what byJournal answers and leaves -/
noncomputable def bjR (pg : Own) (M : DM) (blk : Bytes) (L : List Int) : Int × DM :=
  if (layR M (nm sJ) 0 blk).1 ≠ 0 then layR M (nm sJ) 0 blk
  else if (wsR pg (layR M (nm sJ) 0 blk).2 L).1 ≠ 0 then wsR pg (layR M (nm sJ) 0 blk).2 L
  else delM (wsR pg (layR M (nm sJ) 0 blk).2 L).2 (nm sJ)
/-- the pages that are written, as they were -/
def oldK (X : PG) (pg : Own) : Own := fun x => if (pg x).isSome = true ∧ x < ((X.was.length / 512 : Nat) : Int) then some (X.page x) else none
theorem layR_calm {M : DM} {c : Int} {x : Name} (h : Calm M c) (hx : x = nm sB ∨ x = nm sJ ∨ x = nm sL) {a : Nat} {b : Bytes} (hb : 0 < b.length) (ha : a + b.length ≤ 4194304) : Calm (layR M x a b).2 (c + 4) := by
  have h1 := h.write hx (a := a) (b := b) ha
  have h2 := h1.sync hx
  have h3 := h2.write hx (a := a) (b := [1]) (by simp; omega)
  have h4 := h3.sync hx
  unfold layR
  split
  · exact h1.more (by omega)
  split
  · exact h2.more (by omega)
  split
  · exact h3.more (by omega)
  · exact h4.more (by omega)
theorem wsR_calm {pg : Own} {L : List Int} {M : DM} {c : Int} (h : Calm M c) (hL : ∀ n ∈ L, 0 ≤ n ∧ n < 4096 ∧ ((pg n).getD []).length = 512) : Calm (wsR pg M L).2 (c + L.length + 1) := by
  have h1 := wrR_calm pg L M c h hL
  unfold wsR
  split
  · exact h.more (by omega)
  split
  · exact h1.more (by omega)
  · exact h1.sync (.inl rfl)
theorem bjR_calm {pg : Own} {M : DM} {blk : Bytes} {L : List Int} {c : Int} (h : Calm M c) (hb : 0 < blk.length) (hbl : blk.length ≤ 4194304) (hL : ∀ n ∈ L, 0 ≤ n ∧ n < 4096 ∧ ((pg n).getD []).length = 512) : Calm (bjR pg M blk L).2 (c + 6 + L.length) := by
  have h1 := layR_calm h (x := nm sJ) (.inr (.inl rfl)) (a := 0) hb (by omega)
  have h2 := wsR_calm h1 hL
  unfold bjR
  split
  · exact h1.more (by omega)
  split
  · exact h2.more (by omega)
  · exact (h2.del (.inr (.inl rfl))).more (by omega)
set_option maxHeartbeats 4000000 in
set_option maxRecDepth 100000 in
theorem byJournal_t {w : World} {X : PG} {M : DM} {okP okD : Nat → Prop} {c : Int} {bl sz : Nat} {f : Int → Option Value} {pg : Own} {Q : Nat → Prop} (hP : PgAt w X okP) (hD : DiskAt w X.d M okD) (hq : Calm M c) (hc : c + 10000 < 1000000) (hPD : ∀ k, okP k → ¬ okD k) (hM : PgM w bl f sz pg Q) (hQ : ∀ k, Q k → ¬ okD k) (hbl : ¬ okD bl) (hw : X.was.length ≤ 2097152) {L : List Int} (hL : IsInts f L) (hL0 : L ≠ []) :
    Calls Tryz.prog 57 #[dp X.p, .map (some bl)] w fun e w' => ∃ blk Lg, KeysOf (oldK X pg) Lg ∧ blk = blockB ((X.was.length : Int) / 512) (oldK X pg) Lg ∧ blk.length = 9 + Lg.length * 516 ∧ Lg.length ≤ 4096 ∧ e = .returned (.int .i64 (bjR pg M blk L).1) ∧ Left w X.d (bjR pg M blk L).2 okD w' := by
  have hLK := hM.isInts.1 hL
  obtain ⟨bo, vw, vm, h⟩ := hP
  have hplt := h.lt
  have c7 := h.cell 7
  have c0 := h.cell 0
  obtain ⟨A7, k7, hv7⟩ := h.was.slice
  subst hv7
  have hokp := h.okp
  have hPP : PgAt w X okP := ⟨bo, _, vm, h⟩
  obtain ⟨p, hp⟩ : ∃ p, p = X.p := ⟨_, rfl⟩
  obtain ⟨d, hd⟩ : ∃ d, d = X.d := ⟨_, rfl⟩
  rw [← hp] at hplt c7 c0 hokp ⊢
  rw [← hd] at c0 hD ⊢
  obtain ⟨n7, hn7⟩ : ∃ n7, n7 = X.was.length := ⟨_, rfl⟩
  rw [← hn7] at c7 hw
  have hmA : SMap Tryz.prog 3 (w.alloc (.map #[] 0)) bl f sz := hM.map.move (Below.heap_alloc w _ bl hM.map.lt)
  have HMA := Aside0.mk hmA
  have HM := Aside0.mk (And.intro hM (And.intro hL (And.intro hL0 (And.intro hbl hQ))))
  have HP := Aside0.mk (And.intro hPP (And.intro hp (And.intro hn7 (And.intro hplt (And.intro c7 (And.intro c0 (And.intro hokp (And.intro hPD hd))))))))
  have HD := Aside0.mk (And.intro hD (And.intro hq hc))
  have hmm := @run_makeMap Tryz.prog
  have e1 : (w.alloc (.map #[] 0)).heap.size = w.heap.size + 1 := by simp
  clear h hp hd hn7 c7 c0 hokp hPD hmA hM hL hL0 hbl hQ hD hq hc hPP hplt
  go_enter Tryz.func57, Tryz.ntmps57
  go_wp2_with (first
    | (at_range; refine wpList_range_S _ rfl _ 110 rfl Tryz.underlying3 Tryz.underlying110 rfl HMA.out ?_; intro w0 hrg0 hg0 hs0)
    | go_in)
  go_frame
  rw [e1] at hrg0 hs0 ⊢
  have H0 := Aside0.mk (And.intro hrg0 (And.intro hg0 hs0))
  clear hrg0 hg0 hs0 hmm e1
  go_loopw [6] (fun _ wr => Aside0 (JJ w bl X f sz wr)) (fun _ wr => wr.rangeLeft bl (w.heap.size + 1))
  case atStart =>
    obtain ⟨hrg0, hg0, hs0⟩ := H0.out
    refine ⟨⟨_, _, fun _ => none, 0, hrg0, ?_⟩, ((Below.refl w.heap.size w).alloc (Nat.le_refl _) _).grown hg0 (by simp) (fun j hj => by cases hj)⟩
    have h1 := (PgM.made w (fun k => w.heap.size + 2 ≤ k)).grown hg0 (by simp) (fun k e => by cases e)
    refine ⟨h1.map, fun x _ => ?_, fun x v hx => by cases hx⟩
    unfold oldP
    rw [if_neg]
    rintro ⟨e1, e2, _⟩
    have e1' : (f x).isSome = false := e1
    rw [e1'] at e2
    cases e2
  case round =>
    clear H0
    have HI := hrel
    clear hrel
    obtain ⟨⟨left, cnt, g, gs, hrg, hmg⟩, hb⟩ := HI.out
    have HR := Aside0.mk (And.intro hrg (And.intro hmg hb))
    clear hrg hmg hb
    go_wp2_with (first
      | (at_next; refine wpList_next_S _ rfl _ rfl Tryz.underlying3 rfl HR.out.1 ?_ ?_)
      | go_in)
    · intro hc0 hl0
      obtain ⟨hrg, hmg, hb⟩ := HR.out
      obtain ⟨hM, hL, hL0, hbl, hQ⟩ := HM.out
      obtain ⟨hPP, hp, hn7, hplt, hc7, hc0', hokp, hPD, hd⟩ := HP.out
      obtain ⟨hD, hq, hc⟩ := HD.out
      have c7 : wr.cell? ⟨p, 7, none⟩ = some (.slice A7 n7 k7) := (hb.cell (p := ⟨p, 7, none⟩) hplt).trans hc7
      obtain ⟨Lg, hLg⟩ := hmg.map.keys Tryz.underlying3
      have hlg : Lg.length ≤ 4096 := by rw [hmg.map.size_keys Tryz.underlying3 hLg]; exact hmg.few
      have hmemg : ∀ n ∈ Lg, ((oldP X f left n).getD []).length = 512 := fun n hn => by
        obtain ⟨v, hv⟩ := Option.isSome_iff_exists.1 ((hLg.2 n).1 hn)
        obtain ⟨_, _, bs, _, _, _, _, _, hbs, hl, _⟩ := hmg.some_ n v hv
        rw [hbs]; exact hl
      have hBl := block_any hmg hLg ((n7 : Int) / 512)
      have hlen := blockB_length ((n7 : Int) / 512) hmemg
      have hold : oldP X f left = oldK X pg := by
        funext x
        unfold oldP oldK
        have e : (f x).isSome = (pg x).isSome := by
          cases hx : f x with
          | none => rw [hM.none_ x hx]; rfl
          | some v => obtain ⟨_, _, bs, _, _, _, _, _, hb, _⟩ := hM.some_ x v hx; rw [hb]; rfl
        rw [e]
        by_cases hs : (pg x).isSome = true
        · have : left x = false := by
            obtain ⟨v, hv⟩ := Option.isSome_iff_exists.1 (e.trans hs)
            exact hl0 x v hv
          simp [this, hs]
        · simp [hs]
      have hLgK : KeysOf (oldK X pg) Lg := by rw [← hold]; exact hmg.isInts.1 hLg
      obtain ⟨blk, hblk⟩ : ∃ blk, blk = blockB ((n7 : Int) / 512) (oldP X f left) Lg := ⟨_, rfl⟩
      rw [← hblk] at hBl hlen
      have HBl := Aside0.mk hBl
      have hblk' : blk = blockB ((X.was.length : Int) / 512) (oldK X pg) Lg := by rw [hblk, hold, hn7]
      have HBk := Aside0.mk (And.intro hlen (And.intro hlg (And.intro hLgK hblk')))
      have HB := Aside0.mk hb
      obtain ⟨R1, hR1⟩ : ∃ R1, R1 = layR M (nm sJ) 0 blk := ⟨_, rfl⟩
      obtain ⟨R2, hR2⟩ : ∃ R2, R2 = wsR pg R1.2 L := ⟨_, rfl⟩
      have HRR := Aside0.mk (And.intro hR1 hR2)
      clear hrg hmg hM hL hL0 hbl hQ hPP hp hn7 hc7 hc0' hokp hPD hd hD hq hc hLg hmemg hBl hlen hblk hlg hb hl0 hc0 hplt HR hold hLgK hblk' hR1 hR2
      go_wp2_with (go_at_call 92; refine HBl.out.mono ?_; rintro e w3 ⟨v3, rfl, hv3, hb3⟩
                   obtain ⟨A3, c3, rfl⟩ := Kd.R_slice hv3
                   obtain ⟨hC3, hc3, _⟩ := C_of_row hv3
                   have hb03 := HB.out.trans (hb3.mono HB.out.size)
                   have hLy := lay_t (s := sJ) (a := 0) (cb := c3) (ok := fun k => okD k ∧ k < w.heap.size) (HD.out.1.tight.move (fun k hk _ => hb03.block k hk.2)) HD.out.2.1 (by have := HD.out.2.2; omega) (.inr (.inl rfl)) good_J ((hb03.cell (p := ⟨p, 0, none⟩) HP.out.2.2.2.1).trans HP.out.2.2.2.2.2.1) (fun h => HP.out.2.2.2.2.2.2.2.1 p HP.out.2.2.2.2.2.2.1 h.1) (Ab := A3) (nb := blk.length) (b := blk) ⟨hC3, fun ad e hk => by subst e; have h1 := hv3.1 ad.block rfl; have h2 := hk.2; have h3 := HB.out.size; omega⟩ (fun ad e => by subst e; exact Kd.R_lt hv3 ad.block rfl) (by have := HBk.out.1; omega) (by have := HBk.out.1; have := HBk.out.2.1; omega)
                   rw [show ((0 : Nat) : Int) = 0 from rfl, ← HRR.out.1] at hLy
                   have HLy := Aside0.mk hLy
                   have H3 := Aside0.mk hb03
                   clear hv3 hb3 hC3 hc3 hb03 hLy)
      have HC1 := Aside0.mk (show Calm R1.2 (c + 4) from by rw [HRR.out.1]; exact layR_calm HD.out.2.1 (.inr (.inl rfl)) (by have := HBk.out.1; omega) (by have := HBk.out.1; have := HBk.out.2.1; omega))
      have HmL := Aside0.mk (show ∀ n ∈ L, 0 ≤ n ∧ n < 4096 ∧ ((pg n).getD []).length = 512 from fun n hn => by
              obtain ⟨v, hv⟩ := Option.isSome_iff_exists.1 ((HM.out.2.1.2 n).1 hn)
              obtain ⟨_, _, bs, _, _, _, _, _, hbs, hl, h0, h1⟩ := HM.out.1.some_ n v hv
              exact ⟨h0, h1, by rw [hbs]; exact hl⟩)
      by_cases z1 : R1.1 = 0
      · have hLy := HLy.out
        rw [z1] at hLy
        have HLy := Aside0.mk hLy
        have HZ1 := Aside0.mk z1
        clear hLy z1
        refine HLy.out.mono ?_
        rintro e w4 ⟨rfl, hL4⟩
        have h4 : Left w d R1.2 (fun k => okD k ∧ k < w.heap.size) w4 := Left.trans (M := M) (fun k hk => .inl hk) (Fr.of_below H3.out) hL4
        obtain ⟨okx, hD4, hk4, hF4⟩ := h4
        have hs4 := hF4.size
        have hold : ∀ k, ¬ okD k → k < w.heap.size → w4.heap[k]? = w.heap[k]? := fun k hk hlt => hF4.block k hlt (fun h => hk h.1)
        have hnx : ∀ k, ¬ okD k → k < w.heap.size → ¬ okx k := fun k hk hlt h => (hk4 k h).elim (fun h => hk h.1) (fun h => by omega)
        have hp4 : w4.cell? ⟨p, 0, none⟩ = some (dptr d) := (World.cell?_of_block (w := w) (a := ⟨p, 0, none⟩) (hold p (HP.out.2.2.2.2.2.2.2.1 p HP.out.2.2.2.2.2.2.1) HP.out.2.2.2.1)).trans HP.out.2.2.2.2.2.1
        have hM4 : PgM w4 bl f sz pg (fun k => Q k ∧ k < w.heap.size) := HM.out.1.move (hold bl HM.out.2.2.2.1 HM.out.1.map.lt) (fun k hk hlt => hold k (HM.out.2.2.2.2 k hk) hlt) hs4 (fun k hk hlt => ⟨hk, hlt⟩)
        have hWs := writes_t hD4 HC1.out (by have := HD.out.2.2; omega) hM4 (fun k hk => hnx k (HM.out.2.2.2.2 k hk.1) hk.2) (hnx bl HM.out.2.2.2.1 HM.out.1.map.lt) hp4 (hnx p (HP.out.2.2.2.2.2.2.2.1 p HP.out.2.2.2.2.2.2.1) HP.out.2.2.2.1) HM.out.2.1
        rw [← HRR.out.2] at hWs
        have H4 := Aside0.mk (And.intro hk4 hF4)
        by_cases z2 : R2.1 = 0
        · rw [z2] at hWs
          have HWs := Aside0.mk hWs
          have HZ2 := Aside0.mk z2
          clear hL4 hD4 hk4 hF4 hs4 hold hnx hp4 hM4 hWs z2
          go_wp2_with fail
          refine HWs.out.mono ?_
          rintro e w5 ⟨rfl, hL5⟩
          have h5 : Left w d R2.2 (fun k => okD k ∧ k < w.heap.size) w5 := Left.trans (M := M) H4.out.1 H4.out.2 hL5
          obtain ⟨oky, hD5, hk5, hF5⟩ := h5
          have c50 : w5.cell? ⟨p, 0, none⟩ = some (dptr d) := (World.cell?_of_block (w := w) (a := ⟨p, 0, none⟩) (hF5.block p HP.out.2.2.2.1 (fun h => HP.out.2.2.2.2.2.2.2.1 p HP.out.2.2.2.2.2.2.1 h.1))).trans HP.out.2.2.2.2.2.1
          have hC2 : Calm R2.2 (c + 4 + L.length + 1) := by rw [HRR.out.2]; exact wsR_calm HC1.out HmL.out
          have hDl := del_any (s := sJ) hD5 (hC2.fit (by have := HD.out.2.2; have := HM.out.1.few; have := HM.out.1.map.size_keys Tryz.underlying3 HM.out.2.1; omega) hD5) good_J
          obtain ⟨er, her⟩ : ∃ er, er = (delM R2.2 (nm sJ)).1 := ⟨_, rfl⟩
          rw [← her] at hDl
          have HDl := Aside0.mk hDl
          have H5 := Aside0.mk (And.intro hk5 (And.intro hF5 her))
          clear hL5 hD5 hk5 hF5 hDl hC2 her
          go_wp2_with (go_at_call 94; refine HDl.out.mono ?_; rintro e w6 ⟨rfl, hL6⟩; have H6 := Aside0.mk hL6; clear hL6)
          go_ret
          have hR : bjR pg M blk L = delM R2.2 (nm sJ) := by
            unfold bjR
            rw [← HRR.out.1, if_neg (fun h => h HZ1.out), ← HRR.out.2, if_neg (fun h => h HZ2.out)]
          refine ⟨blk, _, HBk.out.2.2.1, HBk.out.2.2.2, HBk.out.1, HBk.out.2.1, by rw [hR, H5.out.2.2]; rfl, ?_⟩
          rw [hR]
          exact Left.loose (Fr.refl _ _) (Left.trans (M := M) H5.out.1 H5.out.2.1 H6.out)
        · obtain ⟨er, her⟩ : ∃ er, er = R2.1 := ⟨_, rfl⟩
          rw [← her] at hWs
          have HWs := Aside0.mk hWs
          have q : (er != 0) = true := by rw [her]; simpa using z2
          have HZ2 := Aside0.mk (And.intro z2 her)
          clear hL4 hD4 hk4 hF4 hs4 hold hnx hp4 hM4 hWs z2 her
          go_wp2_with fail
          refine HWs.out.mono ?_
          rintro e w5 ⟨rfl, hL5⟩
          have H5 := Aside0.mk hL5
          clear hL5
          go_wp2_with fail
          go_ret
          have hR : bjR pg M blk L = R2 := by
            unfold bjR
            rw [← HRR.out.1, if_neg (fun h => h HZ1.out), ← HRR.out.2, if_pos HZ2.out.1]
          refine ⟨blk, _, HBk.out.2.2.1, HBk.out.2.2.2, HBk.out.1, HBk.out.2.1, by rw [hR, HZ2.out.2]; rfl, ?_⟩
          rw [hR]
          exact Left.loose (Fr.refl _ _) (Left.trans (M := M) H4.out.1 H4.out.2 H5.out)
      · obtain ⟨er, her⟩ : ∃ er, er = R1.1 := ⟨_, rfl⟩
        have hLy := HLy.out
        rw [← her] at hLy
        have HLy := Aside0.mk hLy
        have q : (er != 0) = true := by rw [her]; simpa using z1
        have HZ1 := Aside0.mk (And.intro z1 her)
        clear hLy z1 her
        refine HLy.out.mono ?_
        rintro e w4 ⟨rfl, hL4⟩
        have H4 := Aside0.mk hL4
        clear hL4
        go_wp2_with fail
        go_ret
        have hR : bjR pg M blk L = R1 := by
          unfold bjR
          rw [← HRR.out.1, if_pos HZ1.out.1]
        refine ⟨blk, _, HBk.out.2.2.1, HBk.out.2.2.2, HBk.out.1, HBk.out.2.1, by rw [hR, HZ1.out.2]; rfl, ?_⟩
        rw [hR]
        exact Left.loose (Fr.refl _ _) (Left.trans (M := M) (fun k hk => .inl hk) (Fr.of_below H3.out) H4.out)
    · intro x v w1 cnt1 hfx hlx hrg1 hlt1 hg1 hs1 hen
      obtain ⟨hrg, hmg, hb⟩ := HR.out
      obtain ⟨hM, hL, hL0, hbl, hQ⟩ := HM.out
      obtain ⟨hPP, hp, hn7, hplt, hc7, hc0, hokp, hPD, hd⟩ := HP.out
      have hb1 : Below w.heap.size w w1 := hb.grown hg1 hb.size (fun j hj => by cases hj; exact Nat.le_succ _)
      have hx01 : 0 ≤ x ∧ x < 4096 := by
        obtain ⟨_, _, _, _, _, _, _, _, _, _, h0, h1⟩ := hM.some_ x v hfx
        exact ⟨h0, h1⟩
      obtain ⟨hx0, hx1⟩ := hx01
      have c7 : w1.cell? ⟨p, 7, none⟩ = some (.slice A7 n7 k7) := (hb1.cell (p := ⟨p, 7, none⟩) hplt).trans hc7
      have hmg1 := hmg.grown hg1 (by simp) (fun k e => by cases e; simp)
      have HMs := Aside0.mk (show cnt1 < wr.rangeLeft bl (w.heap.size + 1) from by rw [hrg.left_eq]; exact hlt1)
      obtain ⟨sh, hsh⟩ := (show ∃ y, sliE v = some y from Option.isSome_iff_exists.1 (hM.map.2 x v hfx).2)
      obtain ⟨Av, nv, cv, rfl⟩ : ∃ A n c, v = .slice A n c := by
        rcases (sliE_shape hsh).2 with ⟨n, c, rfl⟩ | ⟨b', o', n, c, rfl⟩
        · exact ⟨_, _, _, rfl⟩
        · exact ⟨_, _, _, rfl⟩
      by_cases hk : x < (n7 : Int) / 512
      · have q1 : decide (x < (n7 : Int) / 512) = true := decide_eq_true hk
        have hPA := page_any (w := w1) (X := X) (ok := okP) (hPP.move (fun k _ hk => hb1.block k hk)) x hx0 hx1 (by rw [← hn7]; omega)
        rw [← hp] at hPA
        have HPA := Aside0.mk hPA
        have H1 := Aside0.mk (And.intro hfx (And.intro hlx (And.intro hrg1 (And.intro hmg1 (And.intro hb1 (And.intro hs1 hk))))))
        clear hfx hlx hrg1 hlt1 hg1 hs1 hb1 hmg1 hM hL hL0 hbl hQ hPP hp hn7 hplt hc7 hc0 hokp hPD hd hrg hmg hb hPA hsh hk
        go_wp2_with (go_at_call 55; refine HPA.out.mono ?_; rintro e w2 ⟨v2, rfl, hv2, hb2⟩
                     have hl2 := pg_length X hx0
                     obtain ⟨g2, c2, rfl, _, _, _⟩ := Kd.R_form hv2 (by omega)
                     rw [hl2] at hv2 ⊢
                     obtain ⟨hC2, hc2, _⟩ := C_of_row hv2
                     obtain ⟨hfx, hlx, hrg1, hmg1, hb1, hs1, hk⟩ := H1.out
                     have hsr := HR.out.1.lt
                     obtain ⟨w3, hrun, ⟨gs', hm3⟩, hg3⟩ := (hmg1.below hb2).put hx0 hx1 hc2 hC2 hl2 (by have := hv2.1 g2 rfl; omega) (Kd.R_lt hv2 g2 rfl)
                     have H3 := Aside0.mk (And.intro hm3 (And.intro hg3 (And.intro hb2 (And.intro hv2 hl2))))
                     clear hv2 hb2 hl2 hC2 hc2 hfx hlx hrg1 hmg1 hb1 hs1 hk hm3 hg3 hsr)
        have hend : JJ w bl X f sz w3 ∧ w3.rangeLeft bl (w.heap.size + 1) = cnt1 := by
          obtain ⟨hm3, hg3, hb2, hv2, hl2⟩ := H3.out
          obtain ⟨hfx, hlx, hrg1, hmg1, hb1, hs1, hk⟩ := H1.out
          have hrg2 := hrg1.kept (below_grown hb2) (by simp) (by simp)
          have hrg3 := hrg2.kept hg3 (fun e => by have := Option.some.inj e; have := HM.out.1.map.lt; omega) (fun e => by have := Option.some.inj e; omega)
          refine ⟨⟨⟨_, cnt1, _, _, hrg3, hm3.map, fun y hy => ?_, fun y u hy => ?_⟩, ((hb1.trans (hb2.mono hb1.size)).grown hg3 (by have := hb1.size; have := hb2.size; omega) (fun j hj => by cases hj; exact Nat.le_refl _))⟩, hrg3.left_eq⟩
          · by_cases e : y = x
            · simp [e] at hy
            · have := hm3.none_ y hy
              simp only [if_neg e] at this
              unfold oldP at this ⊢
              simpa [e] using this
          · obtain ⟨ad, c, bs, e1, e2, e3, e4, e5, e6, e7⟩ := hm3.some_ y u hy
            refine ⟨ad, c, bs, e1, e2, e3, e4, e5, ?_, e7⟩
            by_cases e : y = x
            · subst e
              simp only [if_pos] at e6
              unfold oldP
              rw [if_pos ⟨by simp, by rw [hfx]; rfl, by rw [← HP.out.2.2.1]; omega⟩]
              exact e6
            · simp only [if_neg e] at e6
              unfold oldP at e6 ⊢
              simpa [e] using e6
        have HE := Aside0.mk hend
        clear hend
        go_roundw
        case rel => exact ⟨HE.out.1⟩
        case measure => rw [HE.out.2]; exact HMs.out
      · have q1 : decide (x < (n7 : Int) / 512) = false := decide_eq_false hk
        have hend : JJ w bl X f sz w1 ∧ w1.rangeLeft bl (w.heap.size + 1) = cnt1 := by
          refine ⟨⟨⟨_, cnt1, _, _, hrg1, hmg1.map, fun y hy => ?_, fun y u hy => ?_⟩, hb1⟩, hrg1.left_eq⟩
          · have := hmg1.none_ y hy
            unfold oldP at this ⊢
            by_cases e : y = x
            · subst e
              rw [if_neg]
              rintro ⟨_, _, h3⟩
              rw [← hn7] at h3
              omega
            · simpa [e] using this
          · obtain ⟨ad, c, bs, e1, e2, e3, e4, e5, e6, e7⟩ := hmg1.some_ y u hy
            refine ⟨ad, c, bs, e1, e2, e3, e4, e5, ?_, e7⟩
            unfold oldP at e6 ⊢
            by_cases e : y = x
            · subst e
              rw [if_neg] at e6
              · cases e6
              · rintro ⟨_, _, h3⟩
                rw [← hn7] at h3
                omega
            · simpa [e] using e6
        have HE := Aside0.mk hend
        clear hend hfx hlx hrg1 hlt1 hg1 hs1 hb1 hmg1 hM hL hL0 hbl hQ hPP hp hn7 hplt hc7 hc0 hokp hPD hd hrg hmg hb hsh hk
        go_wp2
        go_roundw
        case rel => exact ⟨HE.out.1⟩
        case measure => rw [HE.out.2]; exact HMs.out
end Go.Proofs.YtmdpgjdepflbmaaGreat
namespace Go.Proofs.YtmdpgjdepflbmaaGreat
open Go.RowKit Go.Maps Go.Proofs.YtmdpgjdepflbmaaGreatW.PrintWords Go.Proofs.YtmdpgjdepflbmaaGreatW.PrintLast Go.Proofs.YtmdpgjdepflbmaaGreatW.PrintMore
open Go.Proofs.YtmdpgjdepflbmaaGreat.PPagerFolds
set_option linter.unusedVariables false
set_option linter.unusedSimpArgs false

/-- a pager that is put out -/
def PG.put_out (X : PG) : PG := { X with dead := true }
theorem PRep.deadd {w w' : World} {X : PG} {ok : Nat → Prop} {bo : Nat} {vw vm : Value} (h : PRep w X ok bo vw vm) (hp : w'.heap[X.p]? = some (.cells #[dp X.d, .int .i64 X.mode, dp X.l, .int .i64 X.c, .bool true, .bool X.inn, .bool X.wrote, vw, .map (if X.inn then some bo else none), .int .i64 X.count, vm, .int .i64 X.next, .int .i64 X.sure] 113 (0, 0)))
    (hm : ∀ k, ok k → k < w.heap.size → k ≠ X.p → w'.heap[k]? = w.heap[k]?) : PgAt w' X.put_out ok := by
  obtain ⟨h1, bs, h2, h3, h4⟩ := h.marks
  refine ⟨bo, vw, vm, hp, h.okp, h.was.same (fun k hk => hm k (h.was.1 k hk) (h.was.lt hk) (h.was.ne h.hp (fun cs e => by injection e with _ e2; cases e2) hk)) h.was.1, fun hi => (h.own hi).other h.hp hm (fun _ h => h), h1, bs, h2, own_at_heap h3 (fun k hk => hm k (h1 k hk) (own_lt h3 k hk) (own_ne h3 h.hp (fun cs e => by injection e with _ e2; cases e2) hk)), fun i b m hb hmm => ?_⟩
  obtain ⟨h5, h6⟩ := h4 i b m hb hmm
  exact ⟨h5.other h.hp hm (fun _ h => h), h6⟩
set_option maxRecDepth 100000 in
theorem out_any {w : World} {X : PG} {ok : Nat → Prop} {x : Nat → Int} (er : Int) (h : PgAt w X ok) (ht : Tab 108 w X.l x) (hl : ¬ ok X.l) :
    Calls Tryz.prog 52 #[dp X.p, .int .i64 er] w fun e w' => e = .returned (.int .i64 er) ∧ PLeft w X.put_out.ended (lX x X.c 0) ok w' := by
  obtain ⟨bo, vw, vm, h⟩ := h
  have hlp : X.l ≠ X.p := fun e => hl (by rw [e]; exact h.okp)
  have hO : Only X.p w (w.setCell ⟨X.p, 4, none⟩ (.bool true)) := (Only.refl X.p w).set_ 4 _
  have hP2 := h.deadd (w' := w.setCell ⟨X.p, 4, none⟩ (.bool true)) (md_set (cs := [_, _, _, _, _, _, _, _, _, _, _, _, _]) h.hp 4 (.bool true)).1 (fun k _ _ hk => hO.block k hk)
  have hEn := end_any (X := X.put_out) hP2 ((hO.block X.l hlp).trans ht) hl
  have c4 := h.cell 4
  have z4 := h.frozen 4
  have HO := Aside0.mk (And.intro hO h.okp)
  have hpe : X.put_out.p = X.p := rfl
  have hpc : X.put_out.c = X.c := rfl
  rw [hpe, hpc] at hEn
  have HEn := Aside0.mk hEn
  obtain ⟨p, hp⟩ : ∃ p, p = X.p := ⟨_, rfl⟩
  rw [← hp] at c4 z4 HEn HO ⊢
  clear h hP2 hEn hO hp hpe hpc ht hl hlp
  go_enter Tryz.func52, Tryz.ntmps52
  go_wp2_with (go_at_call 59; refine HEn.out.mono ?_; rintro e w2 ⟨rfl, hL⟩; have H2 := Aside0.mk hL; clear hL)
  go_ret
  obtain ⟨g1, g2, g3⟩ := H2.out
  have hO := HO.out.1
  have hs : (w.setCell ⟨p, 4, none⟩ (.bool true)).heap.size = w.heap.size := by simp [World.setCell]
  refine ⟨rfl, ?_, g2, ?_⟩
  · rw [← hs]; exact g1
  · exact ⟨g3.os.trans hO.os, g3.tape.trans hO.tape, g3.output.trans hO.output, by rw [← hs]; exact g3.size, fun k hk hn => (g3.block k (by rw [hs]; exact hk) hn).trans (hO.block k (fun e => hn (.inl (e ▸ HO.out.2))))⟩

set_option maxHeartbeats 2000000 in
set_option maxRecDepth 100000 in
theorem byLog_t {w : World} {X : PG} {M : DM} {okP okD : Nat → Prop} {cc : Int} {bl sz bo : Nat} {vw vm : Value} {f : Int → Option Value} {pg : Own} {Q : Nat → Prop} {bs : List BK} (hP : PRep w X okP bo vw vm) (hPl : ∀ k, okP k → k < w.heap.size) (hD : DiskAt w X.d M okD) (hq : Calm M cc) (ho : M.off = false) (hc : cc + 100 < 1000000) (hPD : ∀ k, okP k → ¬ okD k) (hM : PgM w bl f sz pg Q) {L : List Int} (hL : IsInts f L)
    (hlog : LogIs M bs) (hB : ∀ B ∈ bs, BKok B) (hlen : (logB bs).length + (9 + L.length * 516) ≤ 4194304) :
    Calls Tryz.prog 58 #[dp X.p, .map (some bl)] w fun e w' => ∃ R okx, R = layR M (nm sL) (logB bs).length (blockB X.count pg L) ∧ e = .returned (.int .i64 R.1) ∧ DiskAt w' X.d R.2 okx ∧ (∀ k, okx k → okD k ∨ w.heap.size ≤ k) ∧ Fr (fun k => okD k ∨ k = X.p) w w' ∧ (R.1 = 0 ∧ PgAt w' (X.sured (((logB bs).length + (9 + L.length * 516) : Nat) : Int)) okP ∨ R.1 ≠ 0 ∧ PgAt w' X okP) := by
  have hmem : ∀ n ∈ L, ((pg n).getD []).length = 512 := fun n hn => by
    obtain ⟨v, hv⟩ := Option.isSome_iff_exists.1 ((hL.2 n).1 hn)
    obtain ⟨_, _, bs', _, _, _, _, _, hbs, hl, _⟩ := hM.some_ n v hv
    rw [hbs]; exact hl
  have hplt := hP.lt
  have c0 := hP.cell 0
  have c9 := hP.cell 9
  have hBl := block_any hM hL X.count
  obtain ⟨blk, hblk⟩ : ∃ blk, blk = blockB X.count pg L := ⟨_, rfl⟩
  have hbl := blockB_length X.count hmem
  rw [← hblk] at hBl hbl ⊢
  obtain ⟨nb, hnb⟩ : ∃ nb, nb = 9 + L.length * 516 := ⟨_, rfl⟩
  obtain ⟨le, hle⟩ : ∃ le, le = (logB bs).length := ⟨_, rfl⟩
  rw [← hnb, ← hle] at hlen ⊢
  rw [← hnb] at hbl
  have q1 : decide ((4194304 : Int) < (le : Int) + (nb : Int)) = false := decide_eq_false (by omega)
  have q2 : decide ((le : Int) < (le : Int)) = false := decide_eq_false (by omega)
  obtain ⟨p, hp⟩ : ∃ p, p = X.p := ⟨_, rfl⟩
  rw [← hp] at hplt c0 c9 ⊢
  obtain ⟨R, hR⟩ : ∃ R, R = layR M (nm sL) le blk := ⟨_, rfl⟩
  rw [← hR]
  have HRR := Aside0.mk hR
  have HO := Aside0.mk ho
  have HBl := Aside0.mk hBl
  have HX := Aside0.mk (And.intro hP (And.intro hPl (And.intro hD (And.intro hq (And.intro hc (And.intro hPD (And.intro hlog (And.intro hB (And.intro hbl (And.intro hle (And.intro hp (And.intro hplt c0))))))))))))
  have HN := Aside0.mk hnb
  have hlen2 : le ≤ 4194304 := by omega
  have hlen3 : nb ≤ 4194304 := by omega
  clear hP hPl hD hq hc hPD hM hL hlog hB hmem hblk hbl hnb hle hp hBl hR ho
  go_enter Tryz.func58, Tryz.ntmps58
  go_wp2_with (first
    | (go_at_call 92; refine HBl.out.mono ?_; rintro e w1 ⟨v3, rfl, hv3, hb1⟩
       obtain ⟨A3, c3, rfl⟩ := Kd.R_slice hv3
       rw [HX.out.2.2.2.2.2.2.2.2.1]
       have hBs := blocks_q (HX.out.2.2.1.below hb1) ((hb1.cell (p := ⟨p, 0, none⟩) hplt).trans c0) HO.out HX.out.2.2.2.2.2.2.1 HX.out.2.2.2.2.2.2.2.1 (by rw [← HX.out.2.2.2.2.2.2.2.2.2.1]; exact hlen2)
       rw [← HX.out.2.2.2.2.2.2.2.2.2.1] at hBs
       have HBs := Aside0.mk hBs
       have H1 := Aside0.mk (And.intro hv3 hb1)
       clear hv3 hb1 hBs)
    | (go_at_call 87; refine HBs.out.mono ?_; rintro e w2 ⟨m, cnt, rfl, hb2⟩
       obtain ⟨hv3, hb1⟩ := H1.out
       have hb02 := hb1.trans (hb2.mono hb1.size)
       have hv4 := Kd.R_below hv3 hb2
       obtain ⟨hC4, hc4, _⟩ := C_of_row hv4
       rw [HX.out.2.2.2.2.2.2.2.2.1] at hC4 hc4
       have hLy := lay_t (s := sL) (a := le) (cb := c3) (ok := fun k => okD k ∧ k < w.heap.size) (HX.out.2.2.1.tight.below hb02) HX.out.2.2.2.1 (by have := HX.out.2.2.2.2.1; omega) (.inr (.inr rfl)) good_L ((hb02.cell (p := ⟨p, 0, none⟩) hplt).trans c0) (fun h => HX.out.2.2.2.2.2.1 p (by rw [HX.out.2.2.2.2.2.2.2.2.2.2.1]; exact HX.out.1.okp) h.1) (Ab := A3) (nb := nb) (b := blk) ⟨hC4, fun ad e hk => by subst e; have h1 := hv3.1 ad.block rfl; have h2 := hk.2; omega⟩ (fun ad e => by subst e; exact Kd.R_lt hv4 ad.block rfl) (by have := HN.out; omega) hlen
       rw [← HRR.out] at hLy
       have HLy := Aside0.mk hLy
       have H2 := Aside0.mk hb02
       clear hb2 hv3 hb1 hb02 hv4 hC4 hc4 hLy))
  by_cases hz : R.1 = 0
  · have hLy := HLy.out
    rw [hz] at hLy
    have HLy := Aside0.mk hLy
    have HZ := Aside0.mk hz
    clear hLy hz
    refine HLy.out.mono ?_
    rintro e w3 ⟨rfl, okx, hD3, hk3, hF3⟩
    have hrow3 : w3.heap[p]? = _ := (hF3.block p (Nat.lt_of_lt_of_le hplt H2.out.size) (fun h => HX.out.2.2.2.2.2.1 p (by rw [HX.out.2.2.2.2.2.2.2.2.2.2.1]; exact HX.out.1.okp) h.1)).trans ((H2.out.block p hplt).trans (HX.out.2.2.2.2.2.2.2.2.2.2.1 ▸ HX.out.1.hp))
    have d12 := cell_of_row w3 p 12 _ _ (0, 0) hrow3
    have e12 := frozen_of_cells hrow3 12
    have H3 := Aside0.mk (And.intro hD3 (And.intro hk3 (And.intro hF3 hrow3)))
    clear hD3 hk3 hF3 hrow3
    go_wp2_with fail
    go_ret
    obtain ⟨hP, hPl, hD, hq, hc, hPD, hlog, hB, hbl, hle, hp, _, _⟩ := HX.out
    obtain ⟨hD3, hk3, hF3, hrow3⟩ := H3.out
    have hb := H2.out
    have hs2 := hb.size
    have hs3 := hF3.size
    have hpP : okP p := by rw [hp]; exact hP.okp
    have hr5 := row13_set12 hrow3 (.int .i64 ((le : Int) + (nb : Int)))
    have hO : Only p w3 (w3.setCell ⟨p, 12, none⟩ (.int .i64 ((le : Int) + (nb : Int)))) := (Only.refl p w3).set_ 12 _
    generalize w3.setCell ⟨p, 12, none⟩ (.int .i64 ((le : Int) + (nb : Int))) = w5 at hO hr5 ⊢
    have s5 : w5.heap.size = w3.heap.size := hO.size
    have hold : ∀ j, ¬ okD j → j ≠ p → j < w.heap.size → w5.heap[j]? = w.heap[j]? := fun j hj hjp hjl => (hO.block j hjp).trans ((hF3.block j (by omega) (fun h => hj h.1)).trans (hb.block j hjl))
    refine ⟨R, okx, rfl, by rw [HZ.out]; rfl, hD3.move (fun j hj hjl => hO.block j (fun e => ?_)), fun j hj => (hk3 j hj).imp (fun h => h.1) (fun h => by omega), ⟨hO.os.trans (hF3.os.trans hb.os), hO.tape.trans (hF3.tape.trans hb.tape), hO.output.trans (hF3.output.trans hb.output), by omega, fun j hj hn' => hold j (fun h => hn' (.inl h)) (fun h => hn' (.inr (by rw [h, hp]))) hj⟩, .inl ⟨HZ.out, ?_⟩⟩
    · subst e
      rcases hk3 _ hj with h | h
      · exact hPD _ hpP h.1
      · omega
    · show PgAt w5 { X with sure := _ } okP
      refine hP.sure _ ?_ (fun j hj hjl hjp => hold j (hPD j hj) (by rw [hp]; exact hjp) hjl)
      rw [← hp, show (((le + nb : Nat)) : Int) = (le : Int) + (nb : Int) by omega]
      exact hr5
  · obtain ⟨er, her⟩ : ∃ er, er = R.1 := ⟨_, rfl⟩
    have hLy := HLy.out
    rw [← her] at hLy
    have HLy := Aside0.mk hLy
    have q : (er != 0) = true := by rw [her]; simpa using hz
    have HZ := Aside0.mk (And.intro hz her)
    clear hLy hz her
    refine HLy.out.mono ?_
    rintro e w3 ⟨rfl, okx, hD3, hk3, hF3⟩
    have H3 := Aside0.mk (And.intro hD3 (And.intro hk3 hF3))
    clear hD3 hk3 hF3
    go_wp2_with fail
    go_ret
    obtain ⟨hP, hPl, hD, hq, hc, hPD, hlog, hB, hbl, hle, hp, _, _⟩ := HX.out
    obtain ⟨hD3, hk3, hF3⟩ := H3.out
    have hb := H2.out
    have hs2 := hb.size
    have hs3 := hF3.size
    have hold : ∀ j, ¬ okD j → j < w.heap.size → w3.heap[j]? = w.heap[j]? := fun j hj hjl => (hF3.block j (by omega) (fun h => hj h.1)).trans (hb.block j hjl)
    refine ⟨R, okx, rfl, by rw [← HZ.out.2]; rfl, hD3, fun j hj => (hk3 j hj).imp (fun h => h.1) (fun h => by omega), ⟨hF3.os.trans hb.os, hF3.tape.trans hb.tape, hF3.output.trans hb.output, by omega, fun j hj hn' => hold j (fun h => hn' (.inl h)) hj⟩, .inr ⟨HZ.out.1, PgAt.move ⟨bo, vw, vm, hP⟩ (fun j hj hjl => hold j (hPD j hj) hjl)⟩⟩
end Go.Proofs.YtmdpgjdepflbmaaGreat
namespace Go.Proofs.YtmdpgjdepflbmaaGreat
open Go.RowKit Go.Maps Go.Proofs.YtmdpgjdepflbmaaGreatW.PrintWords Go.Proofs.YtmdpgjdepflbmaaGreatW.PrintLast Go.Proofs.YtmdpgjdepflbmaaGreatW.PrintMore
open Go.Proofs.YtmdpgjdepflbmaaGreat.PPagerFolds
set_option linter.unusedVariables false
set_option linter.unusedSimpArgs false

/-- what a commit by the journal answers and leaves of the disk -/
def JRes (X : PG) (M : DM) (r : Int × DM) : Prop := (r = (0, M) ∧ ∀ n, newsP X n = none) ∨ ∃ L blk Lg, L ≠ [] ∧ KeysOf (newsP X) L ∧ KeysOf (oldK X (newsP X)) Lg ∧ blk = blockB ((X.was.length : Int) / 512) (oldK X (newsP X)) Lg ∧ blk.length = 9 + Lg.length * 516 ∧ Lg.length ≤ 4096 ∧ r = bjR (newsP X) M blk L
/-- what a commit by the log answers and leaves of the disk -/
def LRes (X : PG) (M : DM) (bs : List BK) (r : Int × DM) : Prop := (r = (0, M) ∧ ∀ n, newsP X n = none) ∨ ∃ L, L ≠ [] ∧ KeysOf (newsP X) L ∧ L.length ≤ 4096 ∧ (blockB X.count (newsP X) L).length = 9 + L.length * 516 ∧ r = layR M (nm sL) (logB bs).length (blockB X.count (newsP X) L)
theorem keys_none {X : PG} (h : KeysOf (newsP X) []) (n : Int) : newsP X n = none := by
  cases e : newsP X n with
  | none => rfl
  | some b => have := (h.2 n).2 (by rw [e]; rfl); cases this
set_option maxHeartbeats 4000000 in
set_option maxRecDepth 100000 in
theorem s_commit_t {w : World} {X : PG} {M : DM} {ok : Nat → Prop} {c : Int} (h : Sys w X M ok) (hq : Calm M c) (hc : c + 20000 < 1000000) (hmode : X.mode = 1) (hd : X.dead = false) (hi : X.inn = true) (hT : TI X) :
    Calls Tryz.prog 26 #[dp X.p] w fun e w' => ∃ r, JRes X M r ∧ e = .returned (.int .i64 r.1) ∧ Calm r.2 (c + 5000) ∧ (r.1 = 0 ∧ (SLeft w X.ended r.2 ok w') ∨ r.1 ≠ 0 ∧ SLeft w X.put_out.ended r.2 ok w') := by
  obtain ⟨okP, okD, x, v, hP, hD, hTb, hL, h5, h6, h7, hcc, hv0, hv1, hv2⟩ := h
  have hv := hv1 hi
  have HA := ask_any hP
  have hE : askE X = 0 := by unfold askE; rw [hd, hi]; rfl
  rw [hE] at HA
  obtain ⟨bo, vw, vm, hPr⟩ := hP
  have HN := news_any hPr hi hT.was
  have c6 := hPr.cell 6
  have c1 := hPr.cell 1
  have c2 := hPr.cell 2
  have c3 := hPr.cell 3
  have hplt := hPr.lt
  obtain ⟨p, hp⟩ : ∃ p, p = X.p := ⟨_, rfl⟩
  obtain ⟨l, hl⟩ : ∃ l, l = X.l := ⟨_, rfl⟩
  rw [← hp] at HA HN c6 c1 c2 c3 hplt ⊢
  rw [← hl] at c2
  rw [hmode] at c1
  rw [hcc] at c3
  have HA := Aside0.mk HA
  have HN := Aside0.mk HN
  have HX := Aside0.mk (And.intro hPr (And.intro hD (And.intro hTb (And.intro hL (And.intro h5 (And.intro h6 (And.intro h7 (And.intro hcc (And.intro hv0 (And.intro hv1 hv2))))))))))
  have HY := Aside0.mk (And.intro hp (And.intro hl (And.intro hq (And.intro hc (And.intro hmode (And.intro hd (And.intro hi (And.intro hT hv))))))))
  have HC := Aside0.mk (And.intro c6 (And.intro c1 (And.intro c2 c3)))
  by_cases hwr : X.wrote = true
  · rw [hwr] at c6
    have hR := hL.raise (level := 4) (by omega) (by have := hv2 hwr; omega)
    have HRL := Aside0.mk (show rE x 0 4 = 0 ∧ LK (rX x 0 4) (if v < 4 then 4 else v) from hR)
    clear hPr hD hTb hL h5 h6 h7 hcc hv0 hv1 hv2 hv hp hl hq hc hmode hd hi hT hE hwr hR
    go_enter Tryz.func26, Tryz.ntmps26
    go_wp2_with (first
      | (go_at_call 53; refine HA.out.mono ?_; rintro e w' ⟨rfl, rfl⟩)
      | (go_at_call 56; refine HN.out.mono ?_; rintro e w1 ⟨rfl, hM1, hb1⟩
         have d6 : w1.cell? ⟨p, 6, none⟩ = some (.bool true) := (hb1.cell (p := ⟨p, 6, none⟩) hplt).trans c6
         have d2 : w1.cell? ⟨p, 2, none⟩ = some (dp l) := (hb1.cell (p := ⟨p, 2, none⟩) hplt).trans c2
         have d3 : w1.cell? ⟨p, 3, none⟩ = some (.int .i64 0) := (hb1.cell (p := ⟨p, 3, none⟩) hplt).trans c3
         have H1 := Aside0.mk (And.intro hM1 hb1)
         clear hM1 hb1))
    obtain ⟨⟨f, sz, hM⟩, hb1⟩ := H1.out
    obtain ⟨hPr, hD, hTb, hL, h5, h6, h7, hcc, hv0, hv1, hv2⟩ := HX.out
    obtain ⟨hp, hl, hq, hc, hmode, hd, hi, hT, hv⟩ := HY.out
    have d1 : w1.cell? ⟨p, 1, none⟩ = some (.int .i64 1) := (hb1.cell (p := ⟨p, 1, none⟩) hplt).trans c1
    have s1 := hb1.size
    have hll : l < w.heap.size := by rw [hl]; exact hTb.lt
    have hpl : p ≠ l := fun e => (h5 p (by rw [hp]; exact hPr.okp)).2.1 (by rw [e, hl])
    have hRa := raise_all l x 0 4 w1.drew (show Tab 108 w1.drew l x from by rw [hl]; exact (hb1.block X.l hTb.lt).trans hTb)
    rw [HRL.out.1] at hRa
    have HRa := Aside0.mk hRa
    obtain ⟨L, hLk⟩ := hM.map.keys Tryz.underlying3
    have hsz := hM.map.size_keys Tryz.underlying3 hLk
    have hfew := hM.few
    have HM := Aside0.mk (And.intro hM (And.intro hLk (And.intro hsz hfew)))
    have HLL := Aside0.mk (And.intro hll hpl)
    by_cases hL0 : L = []
    · have hq0 : ((sz : Int) == 0) = true := by rw [← hsz, hL0]; rfl
      have HL0 := Aside0.mk hL0
      have HQ0 := Aside0.mk hq0
      clear hPr hD hTb hL h5 h6 h7 hcc hv0 hv1 hv2 hv hp hl hq hc hmode hd hi hT hM hb1 s1 hll hpl hRa hLk hsz hfew hL0 hq0
      go_still_tail 8, (by kernel_rfl)
      go_wp2_with (first
        | (go_at_call 51; refine HRa.out.mono ?_; rintro e w2 ⟨rfl, ht2, ho2⟩
           have e1 : w2.cell? ⟨p, 1, none⟩ = some (.int .i64 1) := (World.cell?_of_block (w := w1) (a := ⟨p, 1, none⟩) (ho2.block p HLL.out.2)).trans d1
           have hM2 : SMap Tryz.prog 3 w2 w.heap.size f sz := HM.out.1.map.move (ho2.block w.heap.size (by have := HLL.out.1; omega))
           have hlen : (Builtin.len_ #[110] 3 #[.map (some w.heap.size)]).run Tryz.prog w2 = .ok (.int .i64 (sz : Int)) w2 := hM2.len Tryz.underlying110 3
           have hq0 := HQ0.out
           have hPm : PgAt w2 X okP := ⟨bo, vw, vm, (HX.out.1.move (fun k _ hk => H1.out.2.block k hk)).move (fun k hk _ => ho2.block k (fun e => (HX.out.2.2.2.2.1 k hk).2.1 (by rw [e, ← HY.out.2.1])))⟩
           have hEn := end_any (X := X) (ok := okP) hPm (show Tab 108 w2 X.l (rX x 0 4) from by rw [← HY.out.2.1]; exact ht2) (fun hk => (HX.out.2.2.2.2.1 _ hk).2.1 rfl)
           rw [← HY.out.1] at hEn
           have HEn := Aside0.mk hEn
           have H2 := Aside0.mk (And.intro ht2 ho2)
           clear ht2 ho2 hM2 hPm hEn)
        | (go_at_call 59; refine HEn.out.mono ?_; rintro e w4 ⟨rfl, hl4⟩; have H4 := Aside0.mk hl4; clear hl4))
      go_ret
      obtain ⟨hPr, hD, hTb, hL, h5, h6, h7, hcc, hv0, hv1, hv2⟩ := HX.out
      obtain ⟨hp, hl, hq, hc, hmode, hd, hi, hT, hv⟩ := HY.out
      obtain ⟨ht2, ho2⟩ := H2.out
      have hb1 := H1.out.2
      have s1 := hb1.size
      have s2 : w2.heap.size = w1.heap.size := ho2.size
      have hF2 : Fr (fun k => okD k ∨ k = X.l) w w2 := ⟨ho2.os.trans hb1.os, ho2.tape.trans hb1.tape, ho2.output.trans hb1.output, by omega, fun k hk hn => (ho2.block k (fun e => hn (.inr (by rw [e, hl])))).trans (hb1.block k hk)⟩
      refine ⟨(0, M), .inl ⟨rfl, fun n => keys_none (by have := (HM.out.1.isInts).1 HM.out.2.1; rwa [HL0.out] at this) n⟩, rfl, hq.more (by omega), .inl ⟨rfl, sys_end h5 h6 h7 hcc hTb.lt hF2 ((hD.below hb1).move (fun k hk _ => ho2.block k (fun e => (h6 k hk).2.1 (by rw [e, hl])))) (fun k hk => .inl hk) (fun k hk => by have := (h6 k hk).2.2; omega) HRL.out.2 (by split <;> omega) (by rw [show (X.c : Int) = 0 by rw [hcc]; rfl]; have := H4.out; rw [show (X.c : Int) = 0 by rw [hcc]; rfl] at this; exact this)⟩⟩
    · have hq0 : ((sz : Int) == 0) = false := by
        have : L.length ≠ 0 := fun h => hL0 (List.eq_nil_of_length_eq_zero h)
        simp; omega
      have HL0 := Aside0.mk hL0
      have HQ0 := Aside0.mk hq0
      clear hPr hD hTb hL h5 h6 h7 hcc hv0 hv1 hv2 hv hp hl hq hc hmode hd hi hT hM hb1 s1 hll hpl hRa hLk hsz hfew hL0 hq0
      go_still_tail 8, (by kernel_rfl)
      go_wp2_with (first
        | (go_at_call 51; refine HRa.out.mono ?_; rintro e w2 ⟨rfl, ht2, ho2⟩
           have e1 : w2.cell? ⟨p, 1, none⟩ = some (.int .i64 1) := (World.cell?_of_block (w := w1) (a := ⟨p, 1, none⟩) (ho2.block p HLL.out.2)).trans d1
           have hM2 : PgM w2 w.heap.size f sz (newsP X) okP := HM.out.1.move (ho2.block w.heap.size (by have := HLL.out.1; omega)) (fun k hk _ => ho2.block k (fun e => (HX.out.2.2.2.2.1 k hk).2.1 (by rw [e, ← HY.out.2.1]))) (by rw [ho2.size]; exact Nat.le_refl _) (fun _ h _ => h)
           have hlen : (Builtin.len_ #[110] 3 #[.map (some w.heap.size)]).run Tryz.prog w2 = .ok (.int .i64 (sz : Int)) w2 := hM2.map.len Tryz.underlying110 3
           have hq0 := HQ0.out
           have hPm : PgAt w2 X okP := ⟨bo, vw, vm, (HX.out.1.move (fun k _ hk => H1.out.2.block k hk)).move (fun k hk _ => ho2.block k (fun e => (HX.out.2.2.2.2.1 k hk).2.1 (by rw [e, ← HY.out.2.1])))⟩
           have hDm : DiskAt w2 X.d M okD := (HX.out.2.1.below H1.out.2).move (fun k hk _ => ho2.block k (fun e => (HX.out.2.2.2.2.2.1 k hk).2.1 (by rw [e, ← HY.out.2.1])))
           have hBj := byJournal_t hPm hDm HY.out.2.2.1 (by have := HY.out.2.2.2.1; omega) (fun k hk => (HX.out.2.2.2.2.1 k hk).2.2.1) hM2 (fun k hk => (HX.out.2.2.2.2.1 k hk).2.2.1) (fun hk => Nat.lt_irrefl _ (HX.out.2.2.2.2.2.1 _ hk).2.2) HY.out.2.2.2.2.2.2.2.1.was HM.out.2.1 HL0.out
           rw [← HY.out.1] at hBj
           have HBj := Aside0.mk hBj
           have H2 := Aside0.mk (And.intro ht2 (And.intro ho2 hPm))
           clear ht2 ho2 hM2 hPm hDm hBj))
      refine HBj.out.mono ?_
      rintro e w3 ⟨blk, Lg, hK1, hK2, hK3, hK4, rfl, okx, hD3, hk3, hF3⟩
      obtain ⟨R, hR⟩ : ∃ R, R = bjR (newsP X) M blk L := ⟨_, rfl⟩
      rw [← hR] at hD3 ⊢
      have hcalm : Calm R.2 (c + 5000) := by
        rw [hR]
        have hlen : L.length ≤ 4096 := by rw [HM.out.2.2.1]; exact HM.out.2.2.2
        refine (bjR_calm HY.out.2.2.1 (by omega) (by omega) (fun n hn => ?_)).more (by omega)
        obtain ⟨u, hu⟩ := Option.isSome_iff_exists.1 ((HM.out.2.1.2 n).1 hn)
        obtain ⟨_, _, bs, _, _, _, _, _, hbs, hbl, h0, h1⟩ := HM.out.1.some_ n u hu
        exact ⟨h0, h1, by rw [hbs]; exact hbl⟩
      have HRes := Aside0.mk (show JRes X M R from .inr ⟨L, blk, Lg, HL0.out, (HM.out.1.isInts).1 HM.out.2.1, hK1, hK2, hK3, hK4, hR⟩)
      obtain ⟨ht2, ho2, hPm⟩ := H2.out
      have hPm3 := hPm.move (fun k hk hlt => hF3.block k hlt (HX.out.2.2.2.2.1 k hk).2.2.1)
      have hTb3 : Tab 108 w3 X.l (rX x 0 4) := by
        rw [← HY.out.2.1]
        exact (hF3.block l ht2.lt (fun h => (HX.out.2.2.2.2.2.1 l h).2.1 HY.out.2.1)).trans ht2
      have hnl : ¬ okP X.l := fun hk => (HX.out.2.2.2.2.1 _ hk).2.1 rfl
      have hEn := end_any hPm3 hTb3 hnl
      have hOu := out_any R.1 hPm3 hTb3 hnl
      rw [← HY.out.1] at hEn hOu
      have hF : Fr (fun k => okD k ∨ k = X.l) w w3 := by
        have hb1 := H1.out.2
        have s1 := hb1.size
        have s2 : w2.heap.size = w1.heap.size := ho2.size
        have s3 := hF3.size
        have hF2 : Fr (fun k => okD k ∨ k = X.l) w w2 := ⟨ho2.os.trans hb1.os, ho2.tape.trans hb1.tape, ho2.output.trans hb1.output, by omega, fun k hk hn => (ho2.block k (fun e => hn (.inr (by rw [e, HY.out.2.1])))).trans (hb1.block k hk)⟩
        exact hF2.trans hF3 (fun k hk => .inl (.inl hk))
      have s2 : w.heap.size ≤ w2.heap.size := by have := H1.out.2.size; rw [ho2.size]; exact this
      have HS := Aside0.mk (fun (Y : PG) (w4 : World) (h1 : Y.l = X.l) (h2 : Y.c = X.c) (h3 : Y.d = X.d) (hE : PLeft w3 Y.ended (lX (rX x 0 4) Y.c 0) okP w4) => show SLeft w Y.ended R.2 ok w4 from by
        obtain ⟨hPr, hD, hTb, hL, h5, h6, h7, hcc, hv0, hv1, hv2⟩ := HX.out
        obtain ⟨hp, hl, hq, hc, hmode, hd, hi, hT, hv⟩ := HY.out
        exact sys_end (X := Y) (okD3 := fun k => okx k ∧ k < w3.heap.size) (by rw [h1]; exact h5) (by rw [h1]; exact h6) (by rw [h1]; exact h7) (by rw [h2]; exact hcc) (by rw [h1]; exact hTb.lt) (by rw [h1]; exact hF) (by rw [h3]; exact hD3.tight) (fun k hk => (hk3 k hk.1).imp id (fun h => by omega)) (fun k hk => hk.2) HRL.out.2 (by split <;> omega) hE)
      have HCa := Aside0.mk hcalm
      have HPm3 := Aside0.mk (And.intro hEn hOu)
      have HRe := Aside0.mk hR
      clear hK1 hK2 hK3 hK4 hD3 hk3 hF3 hR hcalm ht2 ho2 hPm hPm3 hTb3 hnl hEn hOu hF s2
      by_cases hz : R.1 = 0
      · rw [hz]
        have HZr := Aside0.mk hz
        clear hz
        go_wp2_with (go_at_call 59; refine HPm3.out.1.mono ?_; rintro e w4 ⟨rfl, hl4⟩; have H4 := Aside0.mk hl4; clear hl4)
        go_ret
        exact ⟨R, HRes.out, by rw [HZr.out]; rfl, HCa.out, .inl ⟨HZr.out, HS.out X _ rfl rfl rfl H4.out⟩⟩
      · have hOu := HPm3.out.2
        obtain ⟨er, her⟩ : ∃ er, er = R.1 := ⟨_, rfl⟩
        rw [← her] at hOu ⊢
        have q : (er != 0) = true := by rw [her]; simpa using hz
        have HOu := Aside0.mk hOu
        have HZr := Aside0.mk (And.intro hz her)
        clear hz her hOu
        go_wp2_with (go_at_call 52; refine HOu.out.mono ?_; rintro e w4 ⟨rfl, hl4⟩; have H4 := Aside0.mk hl4; clear hl4)
        go_ret
        exact ⟨R, HRes.out, by rw [← HZr.out.2]; rfl, HCa.out, .inr ⟨HZr.out.1, HS.out X.put_out _ rfl rfl rfl H4.out⟩⟩
  · have hwr' : X.wrote = false := by simpa using hwr
    rw [hwr'] at c6
    have HWr := Aside0.mk hwr'
    clear hPr hD hTb hL h5 h6 h7 hcc hv0 hv1 hv2 hv hp hl hq hc hmode hd hi hT hE hwr hwr'
    go_enter Tryz.func26, Tryz.ntmps26
    go_wp2_with (first
      | (go_at_call 53; refine HA.out.mono ?_; rintro e w' ⟨rfl, rfl⟩)
      | (go_at_call 56; refine HN.out.mono ?_; rintro e w1 ⟨rfl, hM1, hb1⟩
         have d6 : w1.cell? ⟨p, 6, none⟩ = some (.bool false) := (hb1.cell (p := ⟨p, 6, none⟩) hplt).trans c6
         have hEn := end_any (w := w1) (X := X) (ok := okP) ⟨bo, vw, vm, HX.out.1.move (fun k _ hk => hb1.block k hk)⟩ ((hb1.block X.l HX.out.2.2.1.lt).trans HX.out.2.2.1) (fun hk => (HX.out.2.2.2.2.1 _ hk).2.1 rfl)
         rw [← HY.out.1] at hEn
         have HEn := Aside0.mk hEn
         have H1 := Aside0.mk (And.intro hM1 hb1)
         clear hM1 hb1 hEn)
      | (go_at_call 59; refine HEn.out.mono ?_; rintro e w2 ⟨rfl, hl2⟩; have H2 := Aside0.mk hl2; clear hl2))
    go_ret
    obtain ⟨hPr, hD, hTb, hL, h5, h6, h7, hcc, hv0, hv1, hv2⟩ := HX.out
    obtain ⟨hp, hl, hq, hc, hmode, hd, hi, hT, hv⟩ := HY.out
    obtain ⟨hM1, hb1⟩ := H1.out
    exact ⟨(0, M), .inl ⟨rfl, fun n => newsP_empty (hT.wr HWr.out) n⟩, rfl, hq.more (by omega), .inl ⟨rfl, sys_end h5 h6 h7 hcc hTb.lt (Fr.of_below hb1) (hD.below hb1) (fun k hk => .inl hk) (fun k hk => by have := (h6 k hk).2.2; have := hb1.size; omega) hL (by omega) H2.out⟩⟩
set_option maxHeartbeats 4000000 in
set_option maxRecDepth 100000 in
theorem s_commit_log_t {w : World} {X : PG} {M : DM} {ok : Nat → Prop} {c : Int} (h : Sys w X M ok) (hq : Calm M c) (hoff : M.off = false) (hc : c + 20000 < 1000000) (hmode : X.mode = 2) {bs : List BK} (hlog : LogIs M bs) (hBs : ∀ B ∈ bs, BKok B) (hll0 : (logB bs).length + 9 + 516 * 4096 ≤ 4194304) (hd : X.dead = false) (hi : X.inn = true) (hT : TI X) :
    Calls Tryz.prog 26 #[dp X.p] w fun e w' => ∃ r, LRes X M bs r ∧ e = .returned (.int .i64 r.1) ∧ Calm r.2 (c + 5000) ∧ (r.1 = 0 ∧ (∃ s, ((r.2 = M ∧ s = X.sure) ∨ ∃ L, KeysOf (newsP X) L ∧ s = (((logB bs).length + (9 + L.length * 516) : Nat) : Int)) ∧ SLeft w (X.sured s).ended r.2 ok w') ∨ r.1 ≠ 0 ∧ SLeft w X.put_out.ended r.2 ok w') := by
  have HZ := Aside0.mk (And.intro hlog (And.intro hBs hll0))
  have HOf := Aside0.mk hoff
  clear hlog hBs hll0 hoff
  obtain ⟨okP, okD, x, v, hP, hD, hTb, hL, h5, h6, h7, hcc, hv0, hv1, hv2⟩ := h
  have hv := hv1 hi
  have HA := ask_any hP
  have hE : askE X = 0 := by unfold askE; rw [hd, hi]; rfl
  rw [hE] at HA
  obtain ⟨bo, vw, vm, hPr⟩ := hP
  have HN := news_any hPr hi hT.was
  have c6 := hPr.cell 6
  have c1 := hPr.cell 1
  have c2 := hPr.cell 2
  have c3 := hPr.cell 3
  have hplt := hPr.lt
  obtain ⟨p, hp⟩ : ∃ p, p = X.p := ⟨_, rfl⟩
  obtain ⟨l, hl⟩ : ∃ l, l = X.l := ⟨_, rfl⟩
  rw [← hp] at HA HN c6 c1 c2 c3 hplt ⊢
  rw [← hl] at c2
  rw [hmode] at c1
  rw [hcc] at c3
  have HA := Aside0.mk HA
  have HN := Aside0.mk HN
  have HX := Aside0.mk (And.intro hPr (And.intro hD (And.intro hTb (And.intro hL (And.intro h5 (And.intro h6 (And.intro h7 (And.intro hcc (And.intro hv0 (And.intro hv1 hv2))))))))))
  have HY := Aside0.mk (And.intro hp (And.intro hl (And.intro hq (And.intro hc (And.intro hmode (And.intro hd (And.intro hi (And.intro hT hv))))))))
  have HC := Aside0.mk (And.intro c6 (And.intro c1 (And.intro c2 c3)))
  by_cases hwr : X.wrote = true
  · rw [hwr] at c6
    have hR := hL.raise (level := 4) (by omega) (by have := hv2 hwr; omega)
    have HRL := Aside0.mk (show rE x 0 4 = 0 ∧ LK (rX x 0 4) (if v < 4 then 4 else v) from hR)
    clear hPr hD hTb hL h5 h6 h7 hcc hv0 hv1 hv2 hv hp hl hq hc hmode hd hi hT hE hwr hR
    go_enter Tryz.func26, Tryz.ntmps26
    go_wp2_with (first
      | (go_at_call 53; refine HA.out.mono ?_; rintro e w' ⟨rfl, rfl⟩)
      | (go_at_call 56; refine HN.out.mono ?_; rintro e w1 ⟨rfl, hM1, hb1⟩
         have d6 : w1.cell? ⟨p, 6, none⟩ = some (.bool true) := (hb1.cell (p := ⟨p, 6, none⟩) hplt).trans c6
         have d2 : w1.cell? ⟨p, 2, none⟩ = some (dp l) := (hb1.cell (p := ⟨p, 2, none⟩) hplt).trans c2
         have d3 : w1.cell? ⟨p, 3, none⟩ = some (.int .i64 0) := (hb1.cell (p := ⟨p, 3, none⟩) hplt).trans c3
         have H1 := Aside0.mk (And.intro hM1 hb1)
         clear hM1 hb1))
    obtain ⟨⟨f, sz, hM⟩, hb1⟩ := H1.out
    obtain ⟨hPr, hD, hTb, hL, h5, h6, h7, hcc, hv0, hv1, hv2⟩ := HX.out
    obtain ⟨hp, hl, hq, hc, hmode, hd, hi, hT, hv⟩ := HY.out
    have d1 : w1.cell? ⟨p, 1, none⟩ = some (.int .i64 2) := (hb1.cell (p := ⟨p, 1, none⟩) hplt).trans c1
    have s1 := hb1.size
    have hll : l < w.heap.size := by rw [hl]; exact hTb.lt
    have hpl : p ≠ l := fun e => (h5 p (by rw [hp]; exact hPr.okp)).2.1 (by rw [e, hl])
    have hRa := raise_all l x 0 4 w1.drew (show Tab 108 w1.drew l x from by rw [hl]; exact (hb1.block X.l hTb.lt).trans hTb)
    rw [HRL.out.1] at hRa
    have HRa := Aside0.mk hRa
    obtain ⟨L, hLk⟩ := hM.map.keys Tryz.underlying3
    have hsz := hM.map.size_keys Tryz.underlying3 hLk
    have hfew := hM.few
    have HM := Aside0.mk (And.intro hM (And.intro hLk (And.intro hsz hfew)))
    have HLL := Aside0.mk (And.intro hll hpl)
    by_cases hL0 : L = []
    · have hq0 : ((sz : Int) == 0) = true := by rw [← hsz, hL0]; rfl
      have HL0 := Aside0.mk hL0
      have HQ0 := Aside0.mk hq0
      clear hPr hD hTb hL h5 h6 h7 hcc hv0 hv1 hv2 hv hp hl hq hc hmode hd hi hT hM hb1 s1 hll hpl hRa hLk hsz hfew hL0 hq0
      go_still_tail 8, (by kernel_rfl)
      go_wp2_with (first
        | (go_at_call 51; refine HRa.out.mono ?_; rintro e w2 ⟨rfl, ht2, ho2⟩
           have e1 : w2.cell? ⟨p, 1, none⟩ = some (.int .i64 2) := (World.cell?_of_block (w := w1) (a := ⟨p, 1, none⟩) (ho2.block p HLL.out.2)).trans d1
           have hM2 : SMap Tryz.prog 3 w2 w.heap.size f sz := HM.out.1.map.move (ho2.block w.heap.size (by have := HLL.out.1; omega))
           have hlen : (Builtin.len_ #[110] 3 #[.map (some w.heap.size)]).run Tryz.prog w2 = .ok (.int .i64 (sz : Int)) w2 := hM2.len Tryz.underlying110 3
           have hq0 := HQ0.out
           have hPm : PgAt w2 X okP := ⟨bo, vw, vm, (HX.out.1.move (fun k _ hk => H1.out.2.block k hk)).move (fun k hk _ => ho2.block k (fun e => (HX.out.2.2.2.2.1 k hk).2.1 (by rw [e, ← HY.out.2.1])))⟩
           have hEn := end_any (X := X) (ok := okP) hPm (show Tab 108 w2 X.l (rX x 0 4) from by rw [← HY.out.2.1]; exact ht2) (fun hk => (HX.out.2.2.2.2.1 _ hk).2.1 rfl)
           rw [← HY.out.1] at hEn
           have HEn := Aside0.mk hEn
           have H2 := Aside0.mk (And.intro ht2 ho2)
           clear ht2 ho2 hM2 hPm hEn)
        | (go_at_call 59; refine HEn.out.mono ?_; rintro e w4 ⟨rfl, hl4⟩; have H4 := Aside0.mk hl4; clear hl4))
      go_ret
      obtain ⟨hPr, hD, hTb, hL, h5, h6, h7, hcc, hv0, hv1, hv2⟩ := HX.out
      obtain ⟨hp, hl, hq, hc, hmode, hd, hi, hT, hv⟩ := HY.out
      obtain ⟨ht2, ho2⟩ := H2.out
      have hb1 := H1.out.2
      have s1 := hb1.size
      have s2 : w2.heap.size = w1.heap.size := ho2.size
      have hF2 : Fr (fun k => okD k ∨ k = X.l) w w2 := ⟨ho2.os.trans hb1.os, ho2.tape.trans hb1.tape, ho2.output.trans hb1.output, by omega, fun k hk hn => (ho2.block k (fun e => hn (.inr (by rw [e, hl])))).trans (hb1.block k hk)⟩
      refine ⟨(0, M), .inl ⟨rfl, fun n => keys_none (by have := (HM.out.1.isInts).1 HM.out.2.1; rwa [HL0.out] at this) n⟩, rfl, hq.more (by omega), .inl ⟨rfl, X.sure, .inl ⟨rfl, rfl⟩, sys_end (X := X) h5 h6 h7 hcc hTb.lt hF2 ((hD.below hb1).move (fun k hk _ => ho2.block k (fun e => (h6 k hk).2.1 (by rw [e, hl])))) (fun k hk => .inl hk) (fun k hk => by have := (h6 k hk).2.2; omega) HRL.out.2 (by split <;> omega) (by rw [show (X.c : Int) = 0 by rw [hcc]; rfl]; have := H4.out; rw [show (X.c : Int) = 0 by rw [hcc]; rfl] at this; exact this)⟩⟩
    · have hq0 : ((sz : Int) == 0) = false := by
        have : L.length ≠ 0 := fun h => hL0 (List.eq_nil_of_length_eq_zero h)
        simp; omega
      have HL0 := Aside0.mk hL0
      have HQ0 := Aside0.mk hq0
      clear hPr hD hTb hL h5 h6 h7 hcc hv0 hv1 hv2 hv hp hl hq hc hmode hd hi hT hM hb1 s1 hll hpl hRa hLk hsz hfew hL0 hq0
      go_still_tail 8, (by kernel_rfl)
      go_wp2_with (first
        | (go_at_call 51; refine HRa.out.mono ?_; rintro e w2 ⟨rfl, ht2, ho2⟩
           have e1 : w2.cell? ⟨p, 1, none⟩ = some (.int .i64 2) := (World.cell?_of_block (w := w1) (a := ⟨p, 1, none⟩) (ho2.block p HLL.out.2)).trans d1
           have hM2 : PgM w2 w.heap.size f sz (newsP X) okP := HM.out.1.move (ho2.block w.heap.size (by have := HLL.out.1; omega)) (fun k hk _ => ho2.block k (fun e => (HX.out.2.2.2.2.1 k hk).2.1 (by rw [e, ← HY.out.2.1]))) (by rw [ho2.size]; exact Nat.le_refl _) (fun _ h _ => h)
           have hlen : (Builtin.len_ #[110] 3 #[.map (some w.heap.size)]).run Tryz.prog w2 = .ok (.int .i64 (sz : Int)) w2 := hM2.map.len Tryz.underlying110 3
           have hq0 := HQ0.out
           have hPm : PRep w2 X okP bo vw vm := (HX.out.1.move (fun k _ hk => H1.out.2.block k hk)).move (fun k hk _ => ho2.block k (fun e => (HX.out.2.2.2.2.1 k hk).2.1 (by rw [e, ← HY.out.2.1])))
           have hDm : DiskAt w2 X.d M okD := (HX.out.2.1.below H1.out.2).move (fun k hk _ => ho2.block k (fun e => (HX.out.2.2.2.2.2.1 k hk).2.1 (by rw [e, ← HY.out.2.1])))
           have sw2 : w.heap.size ≤ w2.heap.size := by rw [ho2.size]; exact H1.out.2.size
           have hBj := byLog_t hPm (fun k hk => Nat.lt_of_lt_of_le (HX.out.2.2.2.2.1 k hk).2.2.2 sw2) hDm HY.out.2.2.1 HOf.out (by have := HY.out.2.2.2.1; omega) (fun k hk => (HX.out.2.2.2.2.1 k hk).2.2.1) hM2 HM.out.2.1 HZ.out.1 HZ.out.2.1 (by have := HZ.out.2.2; have := HM.out.2.2.1; have := HM.out.2.2.2; omega)
           rw [← HY.out.1] at hBj
           have HBj := Aside0.mk hBj
           have H2 := Aside0.mk (And.intro ht2 (And.intro ho2 sw2))
           clear ht2 ho2 hM2 hPm hDm hBj sw2))
      refine HBj.out.mono ?_
      rintro e w3 ⟨R, okx, hR, rfl, hD3, hk3, hF3, hP3⟩
      have hlen : L.length ≤ 4096 := by rw [HM.out.2.2.1]; exact HM.out.2.2.2
      have hbl : (blockB X.count (newsP X) L).length = 9 + L.length * 516 := blockB_length _ (fun n hn => by
        obtain ⟨u, hu⟩ := Option.isSome_iff_exists.1 ((HM.out.2.1.2 n).1 hn)
        obtain ⟨_, _, bs', _, _, _, _, _, hbs, hbl, h0, h1⟩ := HM.out.1.some_ n u hu
        rw [hbs]; exact hbl)
      have hcalm : Calm R.2 (c + 5000) := by
        rw [hR]
        exact (layR_calm HY.out.2.2.1 (.inr (.inr rfl)) (by omega) (by have := HZ.out.2.2; omega)).more (by omega)
      have hKL := (HM.out.1.isInts).1 HM.out.2.1
      have HRes := Aside0.mk (show LRes X M bs R from .inr ⟨L, HL0.out, hKL, hlen, hbl, hR⟩)
      have HKL := Aside0.mk hKL
      obtain ⟨ht2, ho2, sw2⟩ := H2.out
      have hTb3 : Tab 108 w3 X.l (rX x 0 4) := by
        rw [← HY.out.2.1]
        exact (hF3.block l ht2.lt (fun h => h.elim (fun h => (HX.out.2.2.2.2.2.1 l h).2.1 HY.out.2.1) (fun h => HLL.out.2 h.symm))).trans ht2
      have hnl : ¬ okP X.l := fun hk => (HX.out.2.2.2.2.1 _ hk).2.1 rfl
      have hF : Fr (fun k => okD k ∨ k = X.l ∨ okP k) w w3 := by
        have hb1 := H1.out.2
        have s1 := hb1.size
        have s2 : w2.heap.size = w1.heap.size := ho2.size
        have s3 := hF3.size
        have hF2 : Fr (fun k => okD k ∨ k = X.l ∨ okP k) w w2 := ⟨ho2.os.trans hb1.os, ho2.tape.trans hb1.tape, ho2.output.trans hb1.output, by omega, fun k hk hn => (ho2.block k (fun e => hn (.inr (.inl (by rw [e, HY.out.2.1]))))).trans (hb1.block k hk)⟩
        exact hF2.trans hF3 (fun k hk => .inl (hk.elim (fun h => .inl h) (fun h => .inr (.inr (by rw [h, HY.out.1]; exact HX.out.1.okp)))))
      have HS := Aside0.mk (fun (Y : PG) (w4 : World) (h1 : Y.l = X.l) (h2 : Y.c = X.c) (h3 : Y.d = X.d) (hE : PLeft w3 Y.ended (lX (rX x 0 4) Y.c 0) okP w4) => show SLeft w Y.ended R.2 ok w4 from by
        obtain ⟨hPr, hD, hTb, hL, h5, h6, h7, hcc, hv0, hv1, hv2⟩ := HX.out
        obtain ⟨hp, hl, hq, hc, hmode, hd, hi, hT, hv⟩ := HY.out
        exact sys_end2 (X := Y) (okD3 := fun k => okx k ∧ k < w3.heap.size) (by rw [h1]; exact h5) (by rw [h1]; exact h6) (by rw [h1]; exact h7) (by rw [h2]; exact hcc) (by rw [h1]; exact hTb.lt) (by rw [h1]; exact hF) (by rw [h3]; exact hD3.tight) (fun k hk => (hk3 k hk.1).imp id (fun h => by omega)) (fun k hk => hk.2) HRL.out.2 (by split <;> omega) hE)
      have HCa := Aside0.mk hcalm
      have HP3 := Aside0.mk (And.intro hP3 (And.intro hTb3 hnl))
      have HRe := Aside0.mk hR
      clear hlen hbl hKL hD3 hk3 hF3 hP3 hR hcalm ht2 ho2 sw2 hTb3 hnl hF
      by_cases hz : R.1 = 0
      · rw [hz]
        have hEn := end_any (HP3.out.1.resolve_right (fun h => h.1 hz)).2 HP3.out.2.1 HP3.out.2.2
        have hpe : (X.sured (((logB bs).length + (9 + L.length * 516) : Nat) : Int)).p = p := HY.out.1.symm
        rw [hpe] at hEn
        have HEn := Aside0.mk hEn
        have HZr := Aside0.mk hz
        clear hz hEn hpe
        go_wp2_with (go_at_call 59; refine HEn.out.mono ?_; rintro e w4 ⟨rfl, hl4⟩; have H4 := Aside0.mk hl4; clear hl4)
        go_ret
        exact ⟨R, HRes.out, by rw [HZr.out]; rfl, HCa.out, .inl ⟨HZr.out, _, .inr ⟨L, HKL.out, rfl⟩, HS.out (X.sured (((logB bs).length + (9 + L.length * 516) : Nat) : Int)) _ rfl rfl rfl H4.out⟩⟩
      · have hOu := out_any R.1 (HP3.out.1.resolve_left (fun h => hz h.1)).2 HP3.out.2.1 HP3.out.2.2
        obtain ⟨er, her⟩ : ∃ er, er = R.1 := ⟨_, rfl⟩
        rw [← HY.out.1, ← her] at hOu
        rw [← her]
        have q : (er != 0) = true := by rw [her]; simpa using hz
        have HOu := Aside0.mk hOu
        have HZr := Aside0.mk (And.intro hz her)
        clear hz her hOu
        go_wp2_with (go_at_call 52; refine HOu.out.mono ?_; rintro e w4 ⟨rfl, hl4⟩; have H4 := Aside0.mk hl4; clear hl4)
        go_ret
        exact ⟨R, HRes.out, by rw [← HZr.out.2]; rfl, HCa.out, .inr ⟨HZr.out.1, HS.out X.put_out _ rfl rfl rfl H4.out⟩⟩
  · have hwr' : X.wrote = false := by simpa using hwr
    rw [hwr'] at c6
    have HWr := Aside0.mk hwr'
    clear hPr hD hTb hL h5 h6 h7 hcc hv0 hv1 hv2 hv hp hl hq hc hmode hd hi hT hE hwr hwr'
    go_enter Tryz.func26, Tryz.ntmps26
    go_wp2_with (first
      | (go_at_call 53; refine HA.out.mono ?_; rintro e w' ⟨rfl, rfl⟩)
      | (go_at_call 56; refine HN.out.mono ?_; rintro e w1 ⟨rfl, hM1, hb1⟩
         have d6 : w1.cell? ⟨p, 6, none⟩ = some (.bool false) := (hb1.cell (p := ⟨p, 6, none⟩) hplt).trans c6
         have hEn := end_any (w := w1) (X := X) (ok := okP) ⟨bo, vw, vm, HX.out.1.move (fun k _ hk => hb1.block k hk)⟩ ((hb1.block X.l HX.out.2.2.1.lt).trans HX.out.2.2.1) (fun hk => (HX.out.2.2.2.2.1 _ hk).2.1 rfl)
         rw [← HY.out.1] at hEn
         have HEn := Aside0.mk hEn
         have H1 := Aside0.mk (And.intro hM1 hb1)
         clear hM1 hb1 hEn)
      | (go_at_call 59; refine HEn.out.mono ?_; rintro e w2 ⟨rfl, hl2⟩; have H2 := Aside0.mk hl2; clear hl2))
    go_ret
    obtain ⟨hPr, hD, hTb, hL, h5, h6, h7, hcc, hv0, hv1, hv2⟩ := HX.out
    obtain ⟨hp, hl, hq, hc, hmode, hd, hi, hT, hv⟩ := HY.out
    obtain ⟨hM1, hb1⟩ := H1.out
    exact ⟨(0, M), .inl ⟨rfl, fun n => newsP_empty (hT.wr HWr.out) n⟩, rfl, hq.more (by omega), .inl ⟨rfl, X.sure, .inl ⟨rfl, rfl⟩, sys_end (X := X) h5 h6 h7 hcc hTb.lt (Fr.of_below hb1) (hD.below hb1) (fun k hk => .inl hk) (fun k hk => by have := (h6 k hk).2.2; have := hb1.size; omega) hL (by omega) H2.out⟩⟩
end Go.Proofs.YtmdpgjdepflbmaaGreat
namespace Go.Proofs.YtmdpgjdepflbmaaGreat
open Go.RowKit Go.Maps Go.Proofs.YtmdpgjdepflbmaaGreatW.PrintWords Go.Proofs.YtmdpgjdepflbmaaGreatW.PrintLast Go.Proofs.YtmdpgjdepflbmaaGreatW.PrintMore
open Go.Proofs.YtmdpgjdepflbmaaGreat.PPagerFolds
set_option linter.unusedVariables false
set_option linter.unusedSimpArgs false

theorem strokeR_ok {M : DM} (ho : M.off = false) (ht : M.tr (M.st + 1) = 0) (fs1 fs2 : Files) : strokeR M 0 fs1 fs2 = (0, { M with st := M.st + 1, fs := fs2 }) := by
  unfold strokeR
  rw [if_neg (by rw [ho]; decide), ht, if_neg (by decide), if_neg (by decide), if_neg (by decide), if_pos rfl]
theorem strokeR_io {M : DM} (ho : M.off = false) (ht : M.tr (M.st + 1) = 1) (e0 : Int) (fs1 fs2 : Files) : (strokeR M e0 fs1 fs2).1 = 9 := by
  unfold strokeR
  rw [if_neg (by rw [ho]; decide), if_pos ht]
theorem card_none {fs : Files} (h : ∀ x, fs x = none) : card fs = 0 := by
  have hL : IsL fs [] := ⟨List.Pairwise.nil, fun x => by rw [h x]; simp⟩
  exact card_eq hL
/-- a new disk that refuses its a-th stroke -/
structure Refuses (M : DM) (a : Int) : Prop where
  fs : ∀ x, M.fs x = none
  off : M.off = false
  st : M.st = 0
  tr : ∀ n, M.tr n = if n = a then 1 else 0
  a1 : a = 1 ∨ a = 2 ∨ a = 3
theorem Refuses.lay {M : DM} {a : Int} (h : Refuses M a) (x : Name) (b : Bytes) : (layR M x 0 b).1 = 9 := by
  have hc : card M.fs < 16 := by rw [card_none h.fs]; decide
  have hw : writeM M x 0 b = strokeR M 0 (setF M.fs x (some ([], writeB [] 0 b))) (setF M.fs x (some ([], writeB [] 0 b))) := by
    unfold writeM
    rw [h.fs x]
    simp only
    rw [if_pos hc]
  rcases h.a1 with e | e | e
  · have h1 : (layT M x 0 b 1).1 = 9 := by
      show (writeM M x 0 b).1 = 9
      rw [hw]
      exact strokeR_io h.off (by rw [h.st, h.tr, e]; rfl) _ _ _
    unfold layR
    rw [if_pos (by rw [h1]; decide), h1]
  all_goals
    have h1 : layT M x 0 b 1 = (0, { M with st := 1, fs := setF M.fs x (some ([], writeB [] 0 b)) }) := by
      show writeM M x 0 b = _
      rw [hw, strokeR_ok h.off (by rw [h.st, h.tr, e]; rfl), h.st]; rfl
  · have h2 : (layT M x 0 b 2).1 = 9 := by
      show (syncM (layT M x 0 b 1).2 x).1 = 9
      rw [h1]
      unfold syncM
      simp only [setF, if_true]
      exact strokeR_io (M := { M with st := 1, fs := setF M.fs x (some ([], writeB [] 0 b)) }) h.off (by show M.tr (1 + 1) = 1; rw [h.tr, e]; rfl) _ _ _
    unfold layR
    rw [if_neg (fun hh => hh (by rw [h1])), if_pos (by rw [h2]; decide), h2]
  · have h2 : layT M x 0 b 2 = (0, { M with st := 2, fs := setF (setF M.fs x (some ([], writeB [] 0 b))) x (some (writeB [] 0 b, writeB [] 0 b)) }) := by
      show syncM (layT M x 0 b 1).2 x = _
      rw [h1]
      unfold syncM
      simp only [setF, if_true]
      exact strokeR_ok (M := { M with st := 1, fs := setF M.fs x (some ([], writeB [] 0 b)) }) h.off (by show M.tr (1 + 1) = 0; rw [h.tr, e]; rfl) _ _
    have h3 : (layT M x 0 b 3).1 = 9 := by
      show (writeM (layT M x 0 b 2).2 x 0 [1]).1 = 9
      rw [h2]
      unfold writeM
      simp only [setF, if_true]
      exact strokeR_io (M := { M with st := 2, fs := setF (setF M.fs x (some ([], writeB [] 0 b))) x (some (writeB [] 0 b, writeB [] 0 b)) }) h.off (by show M.tr (2 + 1) = 1; rw [h.tr, e]; rfl) _ _ _
    unfold layR
    rw [if_neg (fun hh => hh (by rw [h1])), if_neg (fun hh => hh (by rw [h2])), if_pos (by rw [h3]; decide), h3]
theorem Refuses.jq {M : DM} {a : Int} (h : Refuses M a) : JQ M :=
  ⟨h.off, ⟨[], ⟨List.Pairwise.nil, fun x => by rw [h.fs x]; simp⟩, by simp⟩, h.fs _, h.fs _, by unfold baseB; rw [h.fs]; simp, by unfold baseB; rw [h.fs]; simp⟩
theorem Refuses.base {M : DM} {a : Int} (h : Refuses M a) : baseB M = [] := by unfold baseB; rw [h.fs]
theorem Refuses.calm {M : DM} {a : Int} (h : Refuses M a) : Calm M 0 := ⟨by rw [h.st]; exact Int.le_refl _, by rw [h.st]; exact Int.le_refl _, fun x hx => absurd hx (by rw [h.fs x]; decide), fun x f hx => absurd hx (by rw [h.fs x]; exact fun h => by cases h)⟩
theorem trouble_new {a : Int} (ha : a = 1 ∨ a = 2 ∨ a = 3) : Refuses (newM [] [⟨a, 1⟩]) a := by
  refine ⟨fun x => rfl, rfl, rfl, fun n => ?_, ha⟩
  show trOf [⟨a, 1⟩] n = _
  unfold trOf
  by_cases e : n = a
  · subst e; simp
  · rw [if_neg e]
    simp [List.find?_cons, show (decide (a = n)) = false from decide_eq_false (fun h => e h.symm)]
theorem one_trouble (w : World) (a b : Int) : Kd.C k39 (w.alloc (.cells #[.int .i64 a, .int .i64 b] 76)) (some ⟨w.heap.size, 0, none⟩) 1 [⟨a, b⟩] := by
  refine ⟨rfl, by decide, fun _ => ⟨_, rfl, fun j x hj => ?_⟩⟩
  match j, hj with
  | 0, hj =>
    obtain rfl : (⟨a, b⟩ : S39) = x := by simpa using hj
    refine ⟨[.int .i64 a, .int .i64 b], rfl, k39_mk _ _, fun i u hu => ?_⟩
    have ha : (⟨w.heap.size, 0, none⟩ : Addr).add (0 * k39.sz + i) = ⟨w.heap.size, i, none⟩ := by
      rw [Nat.zero_mul]
      unfold Addr.add; split <;> simp_all
    rw [ha]
    rw [cell_of_row _ w.heap.size i _ _ (0, 0) (heap_alloc_new w _)]
    simpa using hu
  | j + 1, hj => simp at hj
abbrev TB : World → (Nat → Prop) → Prop := fun _ _ => True
theorem TB.stab : Stab TB := ⟨fun _ _ => trivial, fun _ _ => trivial⟩
section
variable {W w w' : World} {X : PG} {M : DM} {B : World → (Nat → Prop) → Prop}
theorem GJ.at (h : GJ W X M B w) : ∃ ok : Nat → Prop, Sys w X M ok ∧ PgAt w X ok ∧ (∀ k, ok k → W.heap.size ≤ k ∧ k < w.heap.size) := by
  obtain ⟨ok, hS, hok, hV⟩ := h.ex
  exact ⟨ok, hS, hS.pg, hok⟩
theorem g_read {p : Nat} (h : GJ W X M B w) (hp : X.p = p) {a : Int} (ha : askE X = a) (h0 : (a == 0) = false) (n : Int) : Calls Tryz.prog 23 #[dp p, .int .i64 n] w fun e w' => e = .returned (.tuple #[.slice none 0 0, .int .i64 a]) ∧ w = w' := by
  obtain ⟨ok, _, hP, _⟩ := h.at
  subst hp
  subst ha
  exact pread_ask hP n h0
theorem g_mark {p : Nat} (h : GJ W X M B w) (hp : X.p = p) {a : Int} (ha : askE X = a) (h0 : (a == 0) = false) : Calls Tryz.prog 32 #[dp p] w fun e w' => e = .returned (.tuple #[.int .i64 0, .int .i64 a]) ∧ w = w' := by
  obtain ⟨ok, _, hP, _⟩ := h.at
  subst hp
  subst ha
  exact pmark_ask hP h0
theorem g_write {p : Nat} (h : GJ W X M B w) (hp : X.p = p) {a : Int} (ha : askE X = a) (h0 : (a == 0) = false) (n : Int) (A : Option Addr) (k c : Nat) : Calls Tryz.prog 20 #[dp p, .int .i64 n, .slice A k c] w fun e w' => e = .returned (.int .i64 a) ∧ w = w' := by
  obtain ⟨ok, _, hP, _⟩ := h.at
  subst hp
  subst ha
  exact pwrite_ask hP n A k c h0
theorem g_commit {p : Nat} (h : GJ W X M B w) (hp : X.p = p) {a : Int} (ha : askE X = a) (h0 : (a == 0) = false) : Calls Tryz.prog 26 #[dp p] w fun e w' => e = .returned (.int .i64 a) ∧ w = w' := by
  obtain ⟨ok, _, hP, _⟩ := h.at
  subst hp
  subst ha
  exact pcommit_ask hP h0
theorem g_roll {p : Nat} (h : GJ W X M B w) (hp : X.p = p) {a : Int} (ha : askE X = a) (h0 : (a == 0) = false) : Calls Tryz.prog 27 #[dp p] w fun e w' => e = .returned (.int .i64 a) ∧ w = w' := by
  obtain ⟨ok, _, hP, _⟩ := h.at
  subst hp
  subst ha
  exact proll_ask hP h0
theorem g_back {p : Nat} (h : GJ W X M B w) (hp : X.p = p) {a : Int} (ha : askE X = a) (h0 : (a == 0) = false) (m : Int) : Calls Tryz.prog 31 #[dp p, .int .i64 m] w fun e w' => e = .returned (.int .i64 a) ∧ Below w.heap.size w w' := by
  obtain ⟨ok, _, hP, hok⟩ := h.at
  subst hp
  subst ha
  exact pback_ask hP (fun k hk => (hok k hk).2) m h0
theorem g_begin_dead {p : Nat} (h : GJ W X M B w) (hp : X.p = p) (hd : X.dead = true) : Calls Tryz.prog 19 #[dp p] w fun e w' => e = .returned (.int .i64 9) ∧ w = w' := by
  obtain ⟨ok, _, hP, hok⟩ := h.at
  subst hp
  have := pbegin_no hP (.inl hd)
  rw [hd] at this
  exact this
theorem g_fold_dead {p : Nat} (h : GJ W X M B w) (hp : X.p = p) (hd : X.dead = true) : Calls Tryz.prog 35 #[dp p] w fun e w' => e = .returned (.int .i64 9) ∧ w = w' := by
  obtain ⟨ok, _, hP, hok⟩ := h.at
  subst hp
  have := pfold_no hP (.inl hd)
  rw [hd] at this
  exact this
theorem g_count {p : Nat} (h : GJ W X M B w) (hp : X.p = p) {n : Int} (hn : X.count = n) : Calls Tryz.prog 25 #[dp p] w fun e w' => e = .returned (.int .i64 n) ∧ w = w' := by
  obtain ⟨ok, hS, _, _⟩ := h.at
  subst hp
  subst hn
  exact s_count hS
end
/-- a pager that was opened -/
structure FreshP (X : PG) (p : Nat) (m : Int) : Prop where
  p : X.p = p
  md : X.mode = m
  dead : X.dead = false
  inn : X.inn = false
  wr : X.wrote = false
  mks : X.marks = []
  cnt : X.count = 0
theorem FreshP.ask {X : PG} {p : Nat} {m : Int} (h : FreshP X p m) : askE X = 11 := by unfold askE; rw [h.dead, h.inn]; rfl
/-- opened on a new disk that refuses -/
theorem e_open {W w : World} {d : Nat} {M : DM} {a : Int} (hM : Refuses M a) {okd : Nat → Prop} (hD : DiskAt w d M okd) (hk : ∀ k, okd k → W.heap.size ≤ k ∧ k < w.heap.size) (hb : Below W.heap.size W w) (m : Int) (hm : m = 1 ∨ m = 2) :
    Calls Tryz.prog 30 #[dp d, .int .i64 m] w fun e w' => ∃ X p, e = .returned (dp p) ∧ GJ W X M TB w' ∧ FreshP X p m := by
  refine (lopen_any hD hM.jq (fun k hk' => (hk k hk').2) m hm).mono ?_
  rintro e w' ⟨rfl, hS, hb'⟩
  have hs := hb'.size
  have hW := hb.size
  exact ⟨_, _, rfl, ⟨⟨_, hS.tight, fun k hk' => ⟨hk'.1.elim (fun h => (hk k h).1) (fun h => by omega), hk'.2⟩, trivial⟩, hb.trans (hb'.mono hW), TB.stab⟩, rfl, rfl, rfl, rfl, rfl, rfl, rfl⟩
theorem e_begin {W w : World} {X : PG} {M : DM} {a m : Int} {p : Nat} (hM : Refuses M a) (h : GJ W X M TB w) (hX : FreshP X p m) (hm : m = 1 ∨ m = 2) :
    Calls Tryz.prog 19 #[dp p] w fun e w' => e = .returned (.int .i64 0) ∧ GJ W (X.begun M) M TB w' := by
  obtain ⟨ok, hS, hok, hV⟩ := h.ex
  have hS0 := s_begin2 hS hM.jq (by rw [hX.md]; exact hm) hX.dead hX.inn hX.wr
  rw [hX.p] at hS0
  refine hS0.mono ?_
  rintro e w' ⟨rfl, hS'⟩
  exact ⟨rfl, GJ.left h.below TB.stab hok trivial hS'⟩
theorem e_write {W w w0 : World} {Y : PG} {M : DM} {m : Int} {p : Nat} (h : GJ W (Y.begun M) M TB w0) (hX : FreshP Y p m) (hb : Below w0.heap.size w0 w) {A : Option Addr} {cb : Nat} {bs : Bytes} (hv : U8.R 5 w w0.heap.size (fun k => w0.heap.size ≤ k) (.slice A 512 cb) bs) :
    Calls Tryz.prog 20 #[dp p, .int .i64 0, .slice A 512 cb] w fun e w' => e = .returned (.int .i64 0) ∧ GJ W ((Y.begun M).put 0 bs) M TB w' := by
  obtain ⟨ok, hS, hok, hV⟩ := h.ex
  obtain ⟨hC, hc, hl⟩ := C_of_row hv
  have hs := hb.size
  have hp : (Y.begun M).p = p := hX.p
  have hS0 := s_write (cb := cb) (hS.below hb) 0 (show (Y.begun M).dead = false from hX.dead) rfl (by omega) (by omega) hC (fun ad e => ?_)
  rw [hp] at hS0
  refine hS0.mono ?_
  rotate_left
  · subst e
    obtain ⟨b4, c4, e4, _⟩ := Kd.R_form hv (by omega)
    have e5 : some ad = some ⟨b4, 0, none⟩ := by injection e4
    obtain rfl := Option.some.inj e5
    have h1 := row_base hv
    have h2 := row_lt hv
    show ¬ ok b4 ∧ b4 < w.heap.size
    exact ⟨fun hk => by have h3 := hok b4 hk; have h4 : w0.heap.size ≤ b4 := h1; omega, h2⟩
  · rintro e w' ⟨rfl, hS'⟩
    exact ⟨rfl, GJ.left (h.step hb).below TB.stab (fun k hk => by have := hok k hk; exact ⟨this.1, by omega⟩) trivial hS'⟩
/-- a pager that was put out -/
structure DeadP (X : PG) (p : Nat) : Prop where
  p : X.p = p
  dead : X.dead = true
  inn : X.inn = false
  cnt : X.count = 0
theorem e_commit {W w : World} {Y : PG} {M : DM} {a m : Int} {p : Nat} (hM : Refuses M a) {bs : Bytes} (h : GJ W ((Y.begun M).put 0 bs) M TB w) (hX : FreshP Y p m) (hm0 : m = 1 ∨ m = 2) :
    Calls Tryz.prog 26 #[dp p] w fun e w' => e = .returned (.int .i64 9) ∧ ∃ X' M', GJ W X' M' TB w' ∧ DeadP X' p := by
  have hmode : Y.mode = 1 ∨ Y.mode = 2 := by rw [hX.md]; exact hm0
  have hd := hX.dead
  have hwr := hX.wr
  have hmk := hX.mks
  rw [← hX.p]
  obtain ⟨ok, hS, hok, hV⟩ := h.ex
  have hT : TI ((Y.begun M).put 0 bs) := (TI.begun hwr hmk (by rw [hM.base]; simp) (by rw [hM.base]; simp)).put 0 bs (by omega)
  have hnews : newsP ((Y.begun M).put 0 bs) 0 ≠ none := by
    have : ((Y.begun M).put 0 bs).own 0 = some bs := by simp [PG.put]
    have hle : (((baseB M).length / 512 : Nat) : Int) ≤ 0 := by rw [hM.base]; exact Int.le_refl _
    rw [newsP_some this, if_pos (.inl hle)]
    simp
  rcases hmode with hm | hm
  · have hS0 := s_commit_t hS hM.calm (by omega) hm hd rfl hT
    refine hS0.mono ?_
    rintro e w' ⟨r, hr, rfl, hc, hh⟩
    have h9 : r.1 = 9 := by
      rcases hr with ⟨_, h⟩ | ⟨L, blk, Lg, _, _, _, _, _, _, rfl⟩
      · exact absurd (h 0) hnews
      · unfold bjR
        rw [if_pos (by rw [hM.lay]; decide), hM.lay]
    rw [h9] at hh ⊢
    obtain ⟨_, hS'⟩ := hh.resolve_left (fun h => absurd h.1 (by decide))
    exact ⟨rfl, _, _, GJ.left h.below TB.stab hok trivial hS', rfl, rfl, rfl, rfl⟩
  · have hS0 := s_commit_log_t hS hM.calm hM.off (by omega) hm (bs := []) (.inl ⟨hM.fs _, rfl⟩) (fun B hB => by cases hB) (by simp [logB]) hd rfl hT
    refine hS0.mono ?_
    rintro e w' ⟨r, hr, rfl, hc, hh⟩
    have h9 : r.1 = 9 := by
      rcases hr with ⟨_, h⟩ | ⟨L, _, _, _, _, rfl⟩
      · exact absurd (h 0) hnews
      · exact hM.lay _ _
    rw [h9] at hh ⊢
    obtain ⟨_, hS'⟩ := hh.resolve_left (fun h => absurd h.1 (by decide))
    exact ⟨rfl, _, _, GJ.left h.below TB.stab hok trivial hS', rfl, rfl, rfl, rfl⟩
end Go.Proofs.YtmdpgjdepflbmaaGreat
namespace Go.Proofs.YtmdpgjdepflbmaaGreat
open Go.RowKit Go.Maps Go.Proofs.YtmdpgjdepflbmaaGreatW.PrintWords Go.Proofs.YtmdpgjdepflbmaaGreatW.PrintLast Go.Proofs.YtmdpgjdepflbmaaGreatW.PrintMore
open Go.Proofs.YtmdpgjdepflbmaaGreat.PPagerFolds
set_option linter.unusedVariables false
set_option linter.unusedSimpArgs false

theorem within_3 (a : Int) (w : World) : Calls Tryz.prog 18 #[.int .i64 a, .int .i64 3] w fun e w' => ∃ r : Nat, e = .returned (.int .i64 r) ∧ Aside0 (r < 3) ∧ ∃ m, w' = w.drewN m := by
  refine (within_any a 3 (by omega) (by omega) w).mono ?_
  rintro e w' ⟨r', rfl, h1, h2, hm⟩
  exact ⟨r', rfl, ⟨by omega⟩, hm⟩
/-- what stands behind the loop -/
def EO (W : World) (p : Nat) (w : World) : Prop := ∃ X M, GJ W X M TB w ∧ DeadP X p
theorem DeadP.ask {X : PG} {p : Nat} (h : DeadP X p) : askE X = 9 := by unfold askE; rw [h.dead]; rfl
set_option maxHeartbeats 8000000 in
set_option maxRecDepth 100000 in
theorem ends_any (md : Int) (A A1 A2 : Option Addr) (len cap n1 k1 n2 k2 : Nat) (w : World) (hl0 : len ≤ 9223372036854775807) :
    Calls Tryz.prog 8 #[.agg #[.int .i64 md, .slice A len cap, .slice A1 n1 k1, .slice A2 n2 k2]] w fun e w' => e = .returned (.bool true) ∧ Below w.heap.size w w' := by
  obtain ⟨bx, hbx⟩ : ∃ bx, bx = w.heap.size := ⟨_, rfl⟩
  obtain ⟨W, hW⟩ : ∃ W, W = w.alloc (.cells #[.int .i64 md, .slice A len cap, .slice A1 n1 k1, .slice A2 n2 k2] 62) := ⟨_, rfl⟩
  have hbW : W.heap[bx]? = some (.cells #[.int .i64 md, .slice A len cap, .slice A1 n1 k1, .slice A2 n2 k2] 62 (0, 0)) := by rw [hbx, hW]; exact heap_alloc_new w _
  have hbw : Below w.heap.size w W := by rw [hW]; exact (Below.refl _ _).alloc (Nat.le_refl _) _
  have e1 : W.cell? ⟨bx, 1, none⟩ = some (.slice A len cap) := cell_of_row W bx 1 _ _ (0, 0) hbW
  have HB := Aside0.mk (And.intro hbW hbw)
  have HCx := Aside0.mk (fun (w' : World) (h : Below W.heap.size W w') => cell_of_row w' bx 0 _ _ (0, 0) ((h.block bx (heap_lt hbW)).trans hbW))
  have HW := Aside0.mk (And.intro hbx hW)
  clear hbx hbW hbw
  go_enter Tryz.func8, Tryz.ntmps8
  go_wp2_with fail
  rw [← HW.out.1, ← hW]
  clear hW
  go_wp2_with fail
  refine (within_3 _ _).mono ?_
  rintro e w' ⟨r, rfl, HR, m0, rfl⟩
  have hr3 : r < 3 := HR.out
  go_wp2_with fail
  clear hr3
  have hone := one_trouble (W.drewN m0) (1 + (r : Int)) 1
  have hb1 : Below W.heap.size W ((W.drewN m0).alloc (.cells #[.int .i64 (1 + (r : Int)), .int .i64 1] 76)) := (pw_below_drewN (Below.refl _ _) m0).alloc (Nat.le_refl _) _
  have hM : Refuses (newM [] [⟨1 + (r : Int), 1⟩]) (1 + (r : Int)) := trouble_new (by have := HR.out; omega)
  refine (new_ok (l := []) (t := [⟨1 + (r : Int), 1⟩]) (Kd.C_nil _ _) (Nat.le_refl _) hone (Nat.le_refl _) ⟨by simp, fun x hx => by simp at hx, List.Pairwise.nil⟩ ⟨fun x hx => ?_, fun x hx => ?_⟩ (by simp)).mono ?_
  · obtain rfl := List.mem_singleton.1 hx
    exact ⟨by show (1 : Int) ≤ 1 + (r : Int); omega, by show (1 : Int) ≤ 1; omega, by show (1 : Int) ≤ 3; omega⟩
  · obtain rfl := List.mem_singleton.1 hx
    have := HR.out
    have hr : r = 0 ∨ r = 1 ∨ r = 2 := by omega
    rcases hr with rfl | rfl | rfl <;> decide
  rintro e w1 ⟨rfl, hD, hb⟩
  have hb01 : Below W.heap.size W w1 := hb1.trans (hb.mono (by simp))
  have e0 : w1.cell? ⟨bx, 0, none⟩ = some (.int .i64 md) := HCx.out w1 hb01
  obtain ⟨Mx, hMx⟩ : ∃ Mx, Mx = newM [] [⟨1 + (r : Int), 1⟩] := ⟨_, rfl⟩
  obtain ⟨ax, hax⟩ : ∃ ax, ax = 1 + (r : Int) := ⟨_, rfl⟩
  rw [← hMx, ← hax] at hM
  rw [← hMx] at hD
  have hD2 := hD.tight
  have hsz : W.heap.size ≤ ((W.drewN m0).alloc (.cells #[.int .i64 (1 + (r : Int)), .int .i64 1] 76)).heap.size := by simp
  have hok : ∀ k, (((W.drewN m0).alloc (.cells #[.int .i64 (1 + (r : Int)), .int .i64 1] 76)).heap.size ≤ k ∧ k < w1.heap.size) → W.heap.size ≤ k ∧ k < w1.heap.size := fun k hk => ⟨by have := hk.1; omega, hk.2⟩
  obtain ⟨d0, hd0⟩ : ∃ d0, d0 = ((W.drewN m0).alloc (.cells #[.int .i64 (1 + (r : Int)), .int .i64 1] 76)).heap.size + 2 := ⟨_, rfl⟩
  rw [← hd0] at hD2 ⊢
  have H1 := Aside0.mk (And.intro hM (And.intro hD2 (And.intro hok hb01)))
  clear hone hb1 hM hD hb hb01 hD2 hsz hok hd0 hMx hax
  go_wp2_with (first
    | (go_at_call 15; refine (num12_any _ _).mono ?_; rintro e w' ⟨rfl, rfl⟩)
    | (go_at_call 17; refine (mode12_some _ _).mono ?_; rintro e w' ⟨mo, hmo, rfl, m1, rfl⟩))
  refine (e_open H1.out.1 (H1.out.2.1.drewN m1) H1.out.2.2.1 (pw_below_drewN H1.out.2.2.2 m1) mo hmo.out).mono ?_
  rintro e w3 ⟨X, p, rfl, hG3, hX⟩
  have H3 := Aside0.mk (And.intro hG3 hX)
  clear hG3 hX
  go_wp2_with fail
  refine (g_read H3.out.1 H3.out.2.p H3.out.2.ask rfl 0).mono ?_
  rintro e w' ⟨rfl, rfl⟩
  go_wp2_with fail
  refine (g_mark H3.out.1 H3.out.2.p H3.out.2.ask rfl).mono ?_
  rintro e w' ⟨rfl, rfl⟩
  go_wp2_with (first
    | (go_at_call 15; refine (num12_any _ _).mono ?_; rintro e w' ⟨rfl, rfl⟩)
    | (go_at_call 21; refine (page12_any 1 _).mono ?_; rintro e w4 ⟨v4, rfl, hv4, hb4⟩
       obtain ⟨A4, q4, rfl⟩ := Kd.R_slice (d := U8) hv4
       have H4 := Aside0.mk (And.intro (H3.out.1.step hb4) H3.out.2)
       clear hv4 hb4))
  refine (g_write H4.out.1 H4.out.2.p H4.out.2.ask rfl _ _ _ _).mono ?_
  rintro e w' ⟨rfl, rfl⟩
  go_wp2_with (go_at_call 15; refine (num12_any _ _).mono ?_; rintro e w' ⟨rfl, rfl⟩)
  refine (g_commit H4.out.1 H4.out.2.p H4.out.2.ask rfl).mono ?_
  rintro e w' ⟨rfl, rfl⟩
  go_wp2_with (go_at_call 15; refine (num12_any _ _).mono ?_; rintro e w' ⟨rfl, rfl⟩)
  refine (g_roll H4.out.1 H4.out.2.p H4.out.2.ask rfl).mono ?_
  rintro e w' ⟨rfl, rfl⟩
  go_wp2_with (go_at_call 15; refine (num12_any _ _).mono ?_; rintro e w' ⟨rfl, rfl⟩)
  refine (g_back H4.out.1 H4.out.2.p H4.out.2.ask rfl 0).mono ?_
  rintro e w5 ⟨rfl, hb5⟩
  have H5 := Aside0.mk (And.intro (H4.out.1.step hb5) H4.out.2)
  clear hb5
  go_wp2_with (go_at_call 15; refine (num12_any _ _).mono ?_; rintro e w' ⟨rfl, rfl⟩)
  refine (g_count H5.out.1 H5.out.2.p H5.out.2.cnt).mono ?_
  rintro e w' ⟨rfl, rfl⟩
  go_wp2_with fail
  go_loopw [10, 11] (fun v10 v11 wr => (v10 = .bool false ∧ v11 = .int .i64 0 ∧ Aside0 (GJ W X Mx TB wr)) ∨ (v10 = .bool true ∧ v11 = .int .i64 1 ∧ Aside0 (EO W p wr))) (fun _ v11 _ => 1 - (intOf v11).toNat)
  case atStart => exact .inl ⟨rfl, rfl, ⟨H5.out.1⟩⟩
  case round =>
    rcases hrel with ⟨rfl, rfl, HI⟩ | ⟨rfl, rfl, HI⟩
    · go_wp2_with fail
      refine (e_begin H1.out.1 HI.out H5.out.2 hmo.out).mono ?_
      rintro e w6 ⟨rfl, hG6⟩
      have H6 := Aside0.mk hG6
      clear hG6
      go_wp2_with (first
        | (go_at_call 15; refine (num12_any _ _).mono ?_; rintro e w' ⟨rfl, rfl⟩)
        | (go_at_call 21; refine (page12_any 0 _).mono ?_; rintro e w7 ⟨v7, rfl, hv7, hb7⟩
           have hl7 : (pg12 0).length = 512 := pg12_length 0
           obtain ⟨A7, q7, rfl⟩ := Kd.R_slice (d := U8) hv7
           rw [hl7] at hv7 ⊢
           have H7 := Aside0.mk (And.intro hv7 hb7)
           clear hv7 hb7 hl7))
      refine (e_write H6.out H5.out.2 H7.out.2 H7.out.1).mono ?_
      rintro e w8 ⟨rfl, hG8⟩
      have H8 := Aside0.mk hG8
      clear hG8
      go_wp2_with (go_at_call 15; refine (num12_any _ _).mono ?_; rintro e w' ⟨rfl, rfl⟩)
      refine (e_commit H1.out.1 H8.out H5.out.2 hmo.out).mono ?_
      rintro e w9 ⟨rfl, X9, M9, hG9, hD9⟩
      have H9 : Aside0 (EO W p w9) := ⟨X9, M9, hG9, hD9⟩
      clear hG9 hD9
      go_wp2_with (go_at_call 15; refine (num12_any _ _).mono ?_; rintro e w' ⟨rfl, rfl⟩)
      go_roundw
      case rel => exact .inr ⟨rfl, rfl, H9⟩
      case measure => simp [intOf]
    · obtain ⟨X9, M9, hG9, hD9⟩ := HI.out
      have H9 := Aside0.mk (And.intro hG9 hD9)
      clear hG9 hD9
      go_wp2_with fail
      refine (g_read H9.out.1 H9.out.2.p H9.out.2.ask rfl 0).mono ?_
      rintro e w' ⟨rfl, rfl⟩
      go_wp2_with fail
      refine (g_mark H9.out.1 H9.out.2.p H9.out.2.ask rfl).mono ?_
      rintro e w' ⟨rfl, rfl⟩
      go_wp2_with fail
      refine (g_begin_dead H9.out.1 H9.out.2.p H9.out.2.dead).mono ?_
      rintro e w' ⟨rfl, rfl⟩
      go_wp2_with (go_at_call 15; refine (num12_any _ _).mono ?_; rintro e w' ⟨rfl, rfl⟩)
      refine (g_commit H9.out.1 H9.out.2.p H9.out.2.ask rfl).mono ?_
      rintro e w' ⟨rfl, rfl⟩
      go_wp2_with (go_at_call 15; refine (num12_any _ _).mono ?_; rintro e w' ⟨rfl, rfl⟩)
      refine (g_roll H9.out.1 H9.out.2.p H9.out.2.ask rfl).mono ?_
      rintro e w' ⟨rfl, rfl⟩
      go_wp2_with (go_at_call 15; refine (num12_any _ _).mono ?_; rintro e w' ⟨rfl, rfl⟩)
      refine (g_fold_dead H9.out.1 H9.out.2.p H9.out.2.dead).mono ?_
      rintro e w' ⟨rfl, rfl⟩
      go_wp2_with (go_at_call 15; refine (num12_any _ _).mono ?_; rintro e w' ⟨rfl, rfl⟩)
      refine (g_count H9.out.1 H9.out.2.p H9.out.2.cnt).mono ?_
      rintro e w' ⟨rfl, rfl⟩
      go_wp2_with (go_at_call 29; refine (wakes12_any _).mono ?_; rintro e w10 ⟨rfl, hb10⟩; have H10 := Aside0.mk hb10; clear hb10)
      go_ret
      have hbl := HB.out.2.trans (H9.out.1.below.mono HB.out.2.size)
      exact ⟨rfl, hbl.trans (H10.out.mono hbl.size)⟩
end Go.Proofs.YtmdpgjdepflbmaaGreat

/-
  PagerModel: the law's walk.
-/
import Derived.Test.YtmdpgjdepflbmaaGreatCT
import Derived.Test.YtmdpgjdepflbmaaGreatCS
namespace Go.Proofs.YtmdpgjdepflbmaaGreat
open Go.RowKit Go.Maps Go.Proofs.YtmdpgjdepflbmaaGreatW.PrintWords Go.Proofs.YtmdpgjdepflbmaaGreatW.PrintLast Go.Proofs.YtmdpgjdepflbmaaGreatW.PrintMore
open Go.Proofs.YtmdpgjdepflbmaaGreat.PPagerFolds
set_option linter.unusedVariables false
set_option linter.unusedSimpArgs false

theorem mode12_some (a : Int) (w : World) : Calls Tryz.prog 17 #[.int .i64 a] w fun e w' => ∃ m : Int, Aside0 (m = 1 ∨ m = 2) ∧ e = .returned (.int .i64 m) ∧ ∃ n, w' = w.drewN n := by
  refine (mode12_any a w).mono ?_
  rintro e w' ⟨rfl, n, rfl⟩
  exact ⟨_, ⟨(mode12_or a).2⟩, rfl, n, rfl⟩
end Go.Proofs.YtmdpgjdepflbmaaGreat
namespace Go.Proofs.YtmdpgjdepflbmaaGreat
open Go.RowKit Go.Maps Go.Proofs.YtmdpgjdepflbmaaGreatW.PrintWords Go.Proofs.YtmdpgjdepflbmaaGreatW.PrintLast Go.Proofs.YtmdpgjdepflbmaaGreatW.PrintMore
open Go.Proofs.YtmdpgjdepflbmaaGreat.PPagerFolds
set_option linter.unusedVariables false
set_option linter.unusedSimpArgs false

theorem pg_yes {n L : Nat} (h : 512 ≤ L) (h1 : (n + 1) * 512 ≤ L - 512) : (n + 1 + 1) * 512 ≤ L := by
  rw [Nat.succ_mul]
  exact Nat.add_le_of_le_sub h h1
theorem pg_no {n L : Nat} (h : 512 ≤ L) (h1 : ¬ (n + 1) * 512 ≤ L - 512) : ¬ (n + 1 + 1) * 512 ≤ L := by
  rw [Nat.succ_mul]
  exact fun h2 => h1 (Nat.le_sub_of_add_le h2)
theorem pg_at (n : Nat) : 512 + n * 512 = (n + 1) * 512 := by omega
theorem pageAt_succ (c : Bytes) (n : Nat) (h : 512 ≤ c.length) : PP.pageAt (c.drop 512) n = PP.pageAt c (n + 1) := by
  unfold PP.pageAt
  rw [List.length_drop, List.drop_drop]
  by_cases h1 : (n + 1) * 512 ≤ c.length - 512
  · have h2 := pg_yes h h1
    have h3 := pg_at n
    rw [if_pos h1, if_pos h2, h3]
  · have h2 := pg_no h h1
    rw [if_neg h1, if_neg h2]
theorem flat_of : ∀ (Dn : List Bytes) (C : Bytes), Holds C Dn → Dn.flatten = C
  | [], C, h => by
    have := h.len
    simp at this
    rw [this]; rfl
  | a :: Dn, C, h => by
    have hl := h.len
    rw [List.length_cons] at hl
    have ha := h.at_ 0 a rfl
    have h0 : a = C.take 512 := by
      rw [← ha]
      unfold PP.pageAt
      rw [if_pos (by omega)]
      simp
    have ht : Holds (C.drop 512) Dn := ⟨by rw [List.length_drop]; omega, fun i b hb => by
      rw [pageAt_succ C i (by omega)]
      exact h.at_ (i + 1) b (by simpa using hb), fun b hb => h.full b (by simp [hb])⟩
    rw [List.flatten_cons, flat_of Dn _ ht, h0, List.take_append_drop]
theorem nm_inj {s t : ByteArray} (h : nm s = nm t) : s = t := by
  unfold nm at h
  cases s; cases t
  simp only at h
  congr 1
  exact Array.toList_inj.1 h
theorem one_base {l : List S50} {M : DM} {cc : Int} {k : Nat} {C : Bytes} (hF : FilesOk l) (hfs : fsOf l = M.fs) (hq : Quiet M cc) (hL : DL M C [] k) (h0 : C ≠ []) : l = [⟨sB, C⟩] := by
  have hname : ∀ x ∈ l, nm x.f0 = nm sB := fun x hx => by
    have hs : (M.fs (nm x.f0)).isSome = true := by
      rw [← hfs]
      unfold fsOf
      cases e : l.find? (fun y => decide (nm y.f0 = nm x.f0)) with
      | none => exact absurd (List.find?_eq_none.1 e x hx) (by simp)
      | some y => rfl
    rcases hq.three _ hs with h | h | h
    · exact h
    · rw [h, hL.jn] at hs; cases hs
    · rw [h, (hL.log.resolve_right (fun h => h.2 rfl)).1] at hs; cases hs
  have hb := hL.base
  unfold baseB at hb
  rw [← hfs] at hb
  match l, hF, hname with
  | [], _, _ => exact absurd hb.symm h0
  | [x], _, hname =>
    have hx := hname x (by simp)
    have hf : fsOf [x] (nm sB) = some (x.f1, x.f1) := by
      unfold fsOf
      rw [List.find?_cons_of_pos (by simpa using hx)]
      rfl
    rw [hf] at hb
    simp only at hb
    have := nm_inj hx
    obtain ⟨a, b⟩ := x
    simp only at hb this
    rw [hb, this]
  | x :: y :: l, hF, hname =>
    have h1 := hF.rise
    rw [List.pairwise_cons] at h1
    have h2 := h1.1 y (by simp)
    rw [hname x (by simp), hname y (by simp)] at h2
    exact absurd h2 (List.lt_irrefl _)
/-- a pager between transactions, beside it the law's model, open or not -/
structure FShut (W : World) (g p d : Nat) (mo : Int) (ls : Nat) (cc : Int) (Ad : Option Addr) (nd cd : Nat) (Dd : List Bytes) (C : Bytes) (w : World) : Prop where
  ex : ∃ op vn vm vi Dw Ms Id, Shut W (MB W.heap.size g op (.slice Ad nd cd) vn vm vi Dd Dw Ms Id) p d mo C ls cc w
  h : Holds C Dd
  d12 : Dd.length ≤ 12
/-- a disk of one file alone, or of none -/
structure FDisk (W : World) (g d : Nat) (cc : Int) (Ad : Option Addr) (nd cd : Nat) (Dd : List Bytes) (C : Bytes) (w : World) : Prop where
  ex : ∃ op vn vm vi Dw Ms Id M k, GD W d M (MB W.heap.size g op (.slice Ad nd cd) vn vm vi Dd Dw Ms Id) w ∧ DL M C [] k ∧ Quiet M cc
  h : Holds C Dd
  d12 : Dd.length ≤ 12
section
variable {W w w' : World} {g p d ls : Nat} {mo cc : Int} {i : Nat} {Ad : Option Addr} {nd cd : Nat} {Dd : List Bytes} {C : Bytes}
theorem MShut.f (h : MShut W g p d mo i Ad nd cd Dd C w) : FShut W g p d mo (7000 * i) (6000 * i + 5000) Ad nd cd Dd C w := by
  obtain ⟨⟨An, nn, cn, Am, nm, cm, Ai, ni, ci, Dw, Ms, Id, hS⟩, hH, h12⟩ := h
  exact ⟨⟨_, _, _, _, _, _, _, hS⟩, hH, h12⟩
theorem MOpn.rollf (h : MOpn W g p d mo i Ad nd cd Dd C w) :
    Calls Tryz.prog 27 #[dp p] w fun e w' => e = .returned (.int .i64 0) ∧ FShut W g p d mo (7000 * i) (6000 * i + 5000) Ad nd cd Dd C w' := by
  obtain ⟨⟨An, nn, cn, Am, nm, cm, Ai, ni, ci, Dw, Ms, Id, X, hO, h1, h2, h3⟩, hH, h12⟩ := h
  refine (o_roll hO).mono ?_
  rintro e w' ⟨rfl, hS⟩
  exact ⟨rfl, ⟨_, _, _, _, _, _, _, hS⟩, hH, h12⟩
theorem FShut.fold (h : FShut W g p d mo ls cc Ad nd cd Dd C w) (hcc : cc + 6000 < 1000000) (hls : ls ≤ 4194304) :
    Calls Tryz.prog 35 #[dp p] w fun e w' => e = .returned (.int .i64 0) ∧ FDisk W g d (cc + 4100) Ad nd cd Dd C w' := by
  obtain ⟨⟨op, vn, vm, vi, Dw, Ms, Id, hS⟩, hH, h12⟩ := h
  refine (o_fold hS hcc hls).mono ?_
  rintro e w' ⟨rfl, X, M, hG, hX, k, hL, hq⟩
  have hD := hG.disk
  rw [hX.d] at hD
  exact ⟨rfl, ⟨op, vn, vm, vi, Dw, Ms, Id, M, k, hD, hL, hq⟩, hH, h12⟩
theorem FDisk.below (h : FDisk W g d cc Ad nd cd Dd C w) : Below W.heap.size W w := by
  obtain ⟨_, _, _, _, _, _, _, _, _, hG, _⟩ := h.ex
  exact hG.below
theorem FDisk.step (h : FDisk W g d cc Ad nd cd Dd C w) (hb : Below w.heap.size w w') : FDisk W g d cc Ad nd cd Dd C w' := by
  obtain ⟨⟨op, vn, vm, vi, Dw, Ms, Id, M, k, hG, hL, hq⟩, hH, h12⟩ := h
  exact ⟨⟨op, vn, vm, vi, Dw, Ms, Id, M, k, hG.step hb, hL, hq⟩, hH, h12⟩
theorem FDisk.done (h : FDisk W g d cc Ad nd cd Dd C w) : w.cell? ⟨g, 0, none⟩ = some (.slice Ad nd cd) ∧ PV w (fun _ => True) (.slice Ad nd cd) Dd := by
  obtain ⟨op, vn, vm, vi, Dw, Ms, Id, M, k, hG, hL, hq⟩ := h.ex
  obtain ⟨ok, _, _, hR⟩ := hG.ex
  exact ⟨hR.c 0, Kd.V_mono hR.done (fun _ _ => trivial)⟩
/-- a crash: just the committed pages -/
theorem FDisk.crash (h : FDisk W g d cc Ad nd cd Dd C w) :
    Calls Tryz.prog 33 #[dp d, .slice none 0 0] w fun e w' => ∃ A1 c1 l, e = .returned (.slice A1 l.length c1) ∧ Kd.C k50 w' A1 l.length l ∧ l.length ≤ c1 ∧ (C ≠ [] → l = [⟨sB, C⟩]) ∧ Below w.heap.size w w' := by
  obtain ⟨op, vn, vm, vi, Dw, Ms, Id, M, k, hG, hL, hq⟩ := h.ex
  obtain ⟨ok, hDi, hok, hV⟩ := hG.ex
  refine (crash_DL hDi hq hL (A := none) (n := 0) (q := 0) (ps := []) ⟨rfl, Nat.zero_le _, fun h => absurd h (Nat.lt_irrefl _)⟩ (Nat.le_refl _) (fun ad h => absurd h (Nat.lt_irrefl _))).mono ?_
  rintro e w' ⟨A1, c1, l, h1, h2, h3, h4, h5, h6⟩
  exact ⟨A1, c1, l, h1, h2, h3, fun h0 => one_base h4 h5 hq hL h0, h6⟩
/-- a disk of the committed pages in one file -/
theorem FDisk.new (h : FDisk W g d cc Ad nd cd Dd C w) (h0 : C ≠ []) {A : Option Addr} (hb : Below w.heap.size w w') (hC : Kd.C k50 w' A 1 [⟨sB, C⟩]) :
    Calls Tryz.prog 13 #[.slice A 1 1, .slice none 0 0] w' fun e w2 => ∃ d', e = .returned (.tuple #[dp d', .int .i64 0]) ∧ ∃ B, Dk W B d' C 0 0 w2 ∧ (∀ w3 P, B w3 P → w3.cell? ⟨g, 0, none⟩ = some (.slice Ad nd cd) ∧ PV w3 P (.slice Ad nd cd) Dd) := by
  obtain ⟨op, vn, vm, vi, Dw, Ms, Id, M, k, hG, hL, hq⟩ := h.ex
  have hfs : fsOf [⟨sB, C⟩] = M.fs := by
    obtain ⟨ok, hDi, _⟩ := hG.ex
    obtain ⟨L, hLL⟩ := hDi.isL
    have e1 := one_base (files_ok hq hLL) (fsOf_files hLL hL.syn) hq hL h0
    rw [← e1]
    exact fsOf_files hLL hL.syn
  have hF : FilesOk [⟨sB, C⟩] := by
    obtain ⟨ok, hDi, _⟩ := hG.ex
    obtain ⟨L, hLL⟩ := hDi.isL
    rw [← one_base (files_ok hq hLL) (fsOf_files hLL hL.syn) hq hL h0]
    exact files_ok hq hLL
  refine (o_new (l := [⟨sB, C⟩]) (hG.step hb) ⟨⟨C, [], k, hL, hL.com_nil, .inl rfl, Nat.le_refl _⟩, hq⟩ hC (Nat.le_refl _) hF hfs).mono ?_
  rintro e w2 ⟨d', rfl, hDk⟩
  exact ⟨d', rfl, _, hDk, fun w3 P hR => ⟨MR.c hR 0, Kd.V_mono (MR.done hR) (fun _ hk => hk.1)⟩⟩
end
/-- one file of the law's own, as a row -/
theorem one_file {w : World} {A2 : Option Addr} {c2 : Nat} {C : Bytes} {n : Nat} (hn : C.length = n) (hC : U8.C w A2 n C) (hc : n ≤ c2) : Kd.C k50 (w.alloc (.cells #[.string sB, .slice A2 n c2] 94)) (some ⟨w.heap.size, 0, none⟩) 1 [⟨sB, C⟩] := by
  subst hn
  have hb : Below w.heap.size w (w.alloc (.cells #[.string sB, .slice A2 C.length c2] 94)) := (Below.refl _ _).alloc (Nat.le_refl _) _
  refine ⟨rfl, by decide, fun _ => ⟨_, rfl, fun j x hj => ?_⟩⟩
  match j, hj with
  | 0, hj =>
    obtain rfl : (⟨sB, C⟩ : S50) = x := by simpa using hj
    refine ⟨[.string sB, .slice A2 C.length c2], rfl, k50_mk _ _ hc (Kd.C_below hC hb), fun i u hu => ?_⟩
    have ha : (⟨w.heap.size, 0, none⟩ : Addr).add (0 * k50.sz + i) = ⟨w.heap.size, i, none⟩ := by
      rw [Nat.zero_mul]
      unfold Addr.add; split <;> simp_all
    rw [ha]
    rw [cell_of_row _ w.heap.size i _ _ (0, 0) (heap_alloc_new w _)]
    simpa using hu
  | j + 1, hj => simp at hj
end Go.Proofs.YtmdpgjdepflbmaaGreat
namespace Go.Proofs.YtmdpgjdepflbmaaGreat
open Go.RowKit Go.Maps Go.Proofs.YtmdpgjdepflbmaaGreatW.PrintWords Go.Proofs.YtmdpgjdepflbmaaGreatW.PrintLast Go.Proofs.YtmdpgjdepflbmaaGreatW.PrintMore
open Go.Proofs.YtmdpgjdepflbmaaGreat.PPagerFolds
set_option linter.unusedVariables false
set_option linter.unusedSimpArgs false

theorem MO.up {W w : World} {g p d i : Nat} {mo : Int} (h : MO W g p d mo i w) : MO W g p d mo (i + 1) w := by
  rcases h with ⟨_, _, _, _, _, ⟨An, nn, cn, Am, nm, cm, Ai, ni, ci, Dw, Ms, Id, hS⟩, hH, h12⟩ | ⟨_, _, _, _, _, ⟨An, nn, cn, Am, nm, cm, Ai, ni, ci, Dw, Ms, Id, X, hS, h1, h2, h3⟩, hH, h12⟩
  · exact .inl ⟨_, _, _, _, _, ⟨_, _, _, _, _, _, _, _, _, _, _, _, hS.more (by omega) (by push_cast; omega)⟩, hH, h12⟩
  · exact .inr ⟨_, _, _, _, _, ⟨_, _, _, _, _, _, _, _, _, _, _, _, X, hS.more (by omega) (by push_cast; omega), h1, h2, by omega⟩, hH, h12⟩
theorem Dk.gc {W w : World} {B : World → (Nat → Prop) → Prop} {d ls : Nat} {cc : Int} {C : Bytes} {a : Addr} {v : Value} (h : Dk W B d C ls cc w) (hB : ∀ w P, B w P → w.cell? a = some v) : w.cell? a = some v := by
  obtain ⟨M, hG, _⟩ := h
  obtain ⟨ok, _, _, hV⟩ := hG.ex
  exact hB _ _ hV
theorem Shut.gc {W w : World} {B : World → (Nat → Prop) → Prop} {p d ls : Nat} {mo cc : Int} {C : Bytes} {a : Addr} {v : Value} (h : Shut W B p d mo C ls cc w) (hB : ∀ w P, B w P → w.cell? a = some v) : w.cell? a = some v := by
  obtain ⟨P, hP, _⟩ := h.b
  exact hB _ _ hP
/-- the second loop's relation -/
def LF (w5 : World) (Dd : List Bytes) (v : Value) (j : Nat) (wr : World) : Prop := U8.R 5 wr w5.heap.size (fun k => w5.heap.size ≤ k) v (Dd.take j).flatten ∧ Below w5.heap.size w5 wr
theorem flat_take_len {Dd : List Bytes} (h : ∀ b ∈ Dd, b.length = 512) : ∀ (j : Nat), j ≤ Dd.length → (Dd.take j).flatten.length = j * 512
  | 0, _ => by simp
  | j + 1, hj => by
    rw [List.take_succ_eq_append_getElem (by omega), List.flatten_append, List.length_append, flat_take_len h j (by omega), List.flatten_cons, List.flatten_nil, List.append_nil, h _ (List.getElem_mem _), Nat.succ_mul]
theorem lf_step {w5 wr : World} {Dd : List Bytes} {A9 : Option Addr} {n9 c9 j : Nat} (h : LF w5 Dd (.slice A9 n9 c9) j wr) (hf : ∀ b ∈ Dd, b.length = 512) (h12 : Dd.length ≤ 12) {pg : Bytes} (hj : Dd[j]? = some pg) {Av : Option Addr} {cv : Nat} (hC : U8.C wr Av pg.length pg) :
    ∃ A' n' c' w1, (Builtin.append_ #[48, 48] 48 #[.slice A9 n9 c9, .slice Av pg.length cv]).run Tryz.prog wr = .ok (.slice A' n' c') w1 ∧ LF w5 Dd (.slice A' n' c') (j + 1) w1 := by
  have hjl := (List.getElem?_eq_some_iff.1 hj).1
  have hl := flat_take_len hf j (by omega)
  have hp := hf pg (List.mem_of_getElem? hj)
  obtain ⟨v1, w1, r1, R1, g1⟩ := app_run wr w5.heap.size 48 48 5 (.int .u8 0) 1 Tryz.underlying48 info5 rfl (by decide) (.slice A9 n9 c9) _ pg Av pg.length cv (fun k => w5.heap.size ≤ k) h.1 hC (fun k hk => Nat.le_trans h.2.size hk) h.2.size (by rw [hl, hp]; omega)
  obtain ⟨A', c', e⟩ := Kd.R_slice (d := U8) R1
  subst e
  refine ⟨A', _, c', w1, r1, ?_, ?_⟩
  · rw [List.take_succ_eq_append_getElem hjl, List.flatten_append, List.flatten_cons, List.flatten_nil, List.append_nil, show Dd[j] = pg from (List.getElem?_eq_some_iff.1 hj).2]
    exact R1
  · exact h.2.grown g1 h.2.size (fun k hk => h.1.1 k hk)
set_option maxHeartbeats 8000000 in
set_option maxRecDepth 100000 in
theorem folds_any (md : Int) (A A1 A2 : Option Addr) (len cap n1 k1 n2 k2 : Nat) (D0 C0 L0 : Nat → Int) (w : World) (hl0 : len ≤ 9223372036854775807) (hA : Acts w A len D0 C0 L0) :
    Calls Tryz.prog 11 #[.agg #[.int .i64 md, .slice A len cap, .slice A1 n1 k1, .slice A2 n2 k2]] w fun e w' => e = .returned (.bool true) ∧ Below w.heap.size w w' := by
  have HA := Aside0.mk hA
  clear hA
  obtain ⟨bx, hbx⟩ : ∃ bx, bx = w.heap.size := ⟨_, rfl⟩
  obtain ⟨W, hW⟩ : ∃ W, W = w.alloc (.cells #[.int .i64 md, .slice A len cap, .slice A1 n1 k1, .slice A2 n2 k2] 62) := ⟨_, rfl⟩
  have HD := Aside0.mk (dnew_nil W)
  have HW := Aside0.mk (And.intro hbx hW)
  clear hbx
  go_enter Tryz.func11, Tryz.ntmps11
  go_wp2_with fail
  rw [← hW]
  refine (HD.out).mono ?_
  rintro e w1 ⟨rfl, hD, hb⟩
  have hbW : W.heap[bx]? = some (.cells #[.int .i64 md, .slice A len cap, .slice A1 n1 k1, .slice A2 n2 k2] 62 (0, 0)) := by rw [HW.out.1, HW.out.2]; exact heap_alloc_new w _
  have hbw : Below w.heap.size w W := by rw [HW.out.2]; exact (Below.refl _ _).alloc (Nat.le_refl _) _
  have HB := Aside0.mk (And.intro hbW hbw)
  have HCx := Aside0.mk (fun (w' : World) (h : Below W.heap.size W w') => cell_of_row w' bx 0 _ _ (0, 0) ((h.block bx (heap_lt hbW)).trans hbW))
  have hDJ : Dk W (fun _ _ => True) (W.heap.size + 2) [] 0 0 w1 := Dk.start hD.tight' (fun k hk => hk) hb ⟨fun _ _ => trivial, fun _ _ => trivial⟩ (fun P => trivial)
  obtain ⟨d0, hd0⟩ : ∃ d0, d0 = W.heap.size + 2 := ⟨_, rfl⟩
  rw [← hd0] at hDJ ⊢
  have e0 : w1.cell? ⟨bx, 0, none⟩ = some (.int .i64 md) := HCx.out w1 hb
  have H1 := Aside0.mk hDJ
  clear hD hb hW hbW hbw hDJ hd0
  rw [← HW.out.1]
  go_wp2_with (first
    | (go_at_call 15; refine (num12_any _ _).mono ?_; rintro e w' ⟨rfl, rfl⟩)
    | (go_at_call 17; refine (mode12_some _ _).mono ?_; rintro e w' ⟨mo, hmo, rfl, m0, rfl⟩))
  refine (o_open (H1.out.drewN m0) (by omega) (by omega) mo hmo.out).mono ?_
  rintro e w3 ⟨p, rfl, hS3⟩
  have hM0 := MShut.start (hS3.more (Nat.le_refl _) (by omega))
  obtain ⟨g, hg⟩ : ∃ g, g = w3.heap.size := ⟨_, rfl⟩
  obtain ⟨W3, hW3⟩ : ∃ W3, W3 = w3.alloc (.cells #[.slice none 0 0, .bool false, .slice none 0 0, .slice none 0 0, .slice none 0 0] 73) := ⟨_, rfl⟩
  rw [← hg, ← hW3] at hM0
  have HM0 := Aside0.mk hM0
  clear hS3 hM0
  go_wp2
  rw [← hg, ← hW3]
  clear hg hW3
  go_loopw [7] (fun v7 wr => ∃ (i : Nat), v7 = .int .i64 i ∧ i ≤ len ∧ i ≤ 40 ∧ Aside0 (MO W g p d0 mo i wr)) (fun v7 _ => len - (intOf v7).toNat)
  case atStart => exact ⟨0, rfl, by omega, by omega, ⟨.inl ⟨_, _, _, _, _, HM0.out⟩⟩⟩
  case round =>
    clear HM0
    obtain ⟨i, rfl, hi, hi40, HI⟩ := hrel
    have hbxr := (HI.out.below.block bx (heap_lt HB.out.1)).trans HB.out.1
    have e1 : wr.cell? ⟨bx, 1, none⟩ = some (.slice A len cap) := cell_of_row wr bx 1 _ _ (0, 0) hbxr
    clear hbxr
    by_cases h1 : i < len ∧ i < 40
    · obtain ⟨h1, h2⟩ := h1
      have q6 : decide ((i : Int) < 40) = true := decide_eq_true (by omega)
      obtain ⟨b, off, rfl, hbw, hcells⟩ := HA.out (by omega)
      obtain ⟨hc0, hc1, hc2⟩ := hcells i (by omega)
      have hbl := HB.out.2.trans (HI.out.below.mono HB.out.2.size)
      have c0 : wr.cell? ⟨b, off + i * 3, none⟩ = some (.int .i64 (D0 i)) := (hbl.cell (p := ⟨b, off + i * 3, none⟩) hbw).trans hc0
      have c1 : wr.cell? ⟨b, off + i * 3 + 1, none⟩ = some (.int .i64 (C0 i)) := (hbl.cell (p := ⟨b, off + i * 3 + 1, none⟩) hbw).trans hc1
      have c2 : wr.cell? ⟨b, off + i * 3 + 2, none⟩ = some (.int .i64 (L0 i)) := (hbl.cell (p := ⟨b, off + i * 3 + 2, none⟩) hbw).trans hc2
      clear hcells hc0 hc1 hc2 hbw hbl
      generalize D0 i = dk at *
      generalize C0 i = ck at *
      generalize L0 i = lk at *
      obtain ⟨q, hq⟩ : ∃ q, q = (IntKind.u64.wrap dk) % 11 := ⟨_, rfl⟩
      have HD1 := Aside0.mk (fun V : World => within_d hq V)
      clear hq
      by_cases h9 : q = 9
      · subst h9
        go_wp2_with fail
        refine (HD1.out _).mono ?_
        rintro e w' ⟨rfl, m1, rfl⟩
        go_wp2_with fail
        go_roundw
        case rel => exact ⟨i + 1, by go_num, by omega, by omega, ⟨HI.out.up.drewN _⟩⟩
        case measure => simp [intOf]; omega
      · have q9 : (q != 9) = true := by simpa using h9
        clear h9
        go_wp2_with fail
        refine (HD1.out _).mono ?_
        rintro e w' ⟨rfl, m1, rfl⟩
        go_wp2_with fail
        refine (mact_any (HI.out.drewN _) (by omega) dk ck lk).mono ?_
        rintro e w4 ⟨rfl, hM4⟩
        have H4 := Aside0.mk hM4
        clear hM4
        go_wp2_with fail
        go_roundw
        case rel => exact ⟨i + 1, by go_num, by omega, by omega, ⟨H4.out⟩⟩
        case measure => simp [intOf]; omega
    · rcases (show len ≤ i ∨ (i < len ∧ 40 ≤ i) by omega) with h2 | h2
      all_goals
        (try have q6 : decide ((i : Int) < 40) = false := decide_eq_false (by omega))
        clear h1
        rcases HI.out with ⟨Ad, nd, cd, Dd, C, hM⟩ | ⟨Ad, nd, cd, Dd, C, hM⟩
      all_goals
        have o1 := hM.open_
        have HM := Aside0.mk hM
        clear hM HI
        first
          | (go_wp2_with (first
              | (go_at_call 27; refine (HM.out.rollf).mono ?_; rintro e w4 ⟨rfl, hF4⟩; have H4 := Aside0.mk hF4; clear hF4)
              | (go_at_call 15; refine (num12_any _ _).mono ?_; rintro e w' ⟨rfl, rfl⟩)
              | (go_at_call 35; refine (H4.out.fold (by omega) (by omega)).mono ?_; rintro e w5 ⟨rfl, hF5⟩; have H5 := Aside0.mk hF5; clear hF5))
             refine H5.out.crash.mono ?_)
          | (have H4 := Aside0.mk HM.out.f
             go_wp2_with (first
              | (go_at_call 15; refine (num12_any _ _).mono ?_; rintro e w' ⟨rfl, rfl⟩)
              | (go_at_call 35; refine (H4.out.fold (by omega) (by omega)).mono ?_; rintro e w5 ⟨rfl, hF5⟩; have H5 := Aside0.mk hF5; clear hF5))
             refine H5.out.crash.mono ?_)
        rintro e w6 ⟨A6, c6, l, rfl, hC6, hc6, hl6, hb6⟩
        obtain ⟨nl, hnl⟩ : ∃ nl, nl = l.length := ⟨_, rfl⟩
        have HF6 := Aside0.mk (H5.out.step hb6)
        rw [← hnl] at hC6 hc6 ⊢
        have H6 := Aside0.mk (And.intro hC6 (And.intro hc6 (And.intro hl6 hnl)))
        clear hC6 hc6 hl6 hb6 hnl
        have hnd : nd = Dd.length := (Kd.V_at HF6.out.done.2).1
        have hnd12 : nd ≤ 12 := by have := HF6.out.d12; omega
        have HN := Aside0.mk hnd
        clear hnd
        go_wp2_with fail
        go_loopw [9, 10] (fun v9 v10 wr => ∃ (j n9 c9 : Nat) (A9 : Option Addr), v9 = .slice A9 n9 c9 ∧ v10 = .int .i64 j ∧ j ≤ nd ∧ Aside0 (LF w6 Dd (.slice A9 n9 c9) j wr)) (fun _ v10 _ => nd - (intOf v10).toNat)
        case atStart => exact ⟨0, 0, 0, none, rfl, rfl, by omega, ⟨Kd.R_nil _ _ _ _ _, Below.refl _ _⟩⟩
        case round =>
          obtain ⟨j, n9, c9, A9, rfl, rfl, hj, HJ⟩ := hrel
          have hFr := HF6.out.step HJ.out.2
          have c0 : wr.cell? ⟨g, 0, none⟩ = some (.slice Ad nd cd) := hFr.done.1
          by_cases h5 : j < nd
          · obtain ⟨ad, Av, cv, pg, rfl, hpg, hcx, hcv, hCv⟩ := hFr.done.2.page h5
            obtain ⟨A', n', c', w1, r1, hL⟩ := lf_step (cv := cv) HJ.out HF6.out.h.full HF6.out.d12 hpg hCv
            have HL := Aside0.mk hL
            clear hL hFr hpg hcv hCv
            go_wp2_with ((with_reducible refine gate_builtin (b := .append) (xs := #[.tmp 86, .tmp 93]) rfl ?_); at_builtin; refine app_list rfl (.tmp 86) (.tmp 93) 48 rfl _ _ rfl rfl r1 ?_)
            go_roundw
            case rel => exact ⟨j + 1, n', c', A', rfl, by go_num, by omega, HL⟩
            case measure => simp [intOf]; omega
          · have hall : (Dd.take j).flatten = C := by
              rw [List.take_of_length_le (by have := HN.out; omega)]
              exact flat_of Dd C HF6.out.h
            have hR9 := HJ.out.1
            rw [hall] at hR9
            have hn9 : n9 = C.length := (Kd.R_reads' hR9).1
            have HFr := Aside0.mk hFr
            have HR9 := Aside0.mk hR9
            have HN9 := Aside0.mk hn9
            clear hall hR9 hFr
            by_cases hC0 : C = []
            · have h9 : n9 = 0 := by rw [hn9, hC0]; rfl
              clear hn9 hC0
              subst h9
              go_wp2_with (go_at_call 29; refine (wakes12_any _).mono ?_; rintro e w7 ⟨rfl, hb7⟩; have H7 := Aside0.mk hb7; clear hb7)
              go_ret
              have hbl := HB.out.2.trans (HFr.out.below.mono HB.out.2.size)
              exact ⟨rfl, hbl.trans (H7.out.mono hbl.size)⟩
            · have h9 : ((n9 : Int) == 0) = false := by
                rw [hn9]
                cases C with
                | nil => exact absurd rfl hC0
                | cons a C => simp; omega
              have h9' : 0 < n9 := by rw [hn9]; exact List.length_pos_iff.2 hC0
              obtain rfl : l = [⟨sB, C⟩] := H6.out.2.2.1 hC0
              obtain rfl : nl = 1 := H6.out.2.2.2
              have hC6 : Kd.C k50 wr A6 1 [⟨sB, C⟩] := Kd.C_below H6.out.1 HJ.out.2
              obtain ⟨ad, Af, cf, rfl, hc0, hc1, hcf, hCf⟩ := at_T50 hC6 0 (by omega) (by omega)
              obtain ⟨b6, o6, spot⟩ := ad
              have hspot : spot = none := by simpa [Addr.add] using World.cell?_spot hc0
              subst hspot
              replace hc0 : wr.cell? ⟨b6, o6, none⟩ = some (.string ⟨#[98, 97, 115, 101]⟩) := hc0
              replace hc1 : wr.cell? ⟨b6, o6 + 1, none⟩ = some (.slice Af C.length cf) := hc1
              replace hcf : C.length ≤ cf := hcf
              replace hCf : U8.C wr Af C.length C := hCf
              rw [← hn9] at hc1 hcf hCf
              obtain ⟨hC9, hc9, hl9⟩ := C_of_row HR9.out
              have HE := eqbytes_any hCf hcf hC9 hc9 (by have := HFr.out.h.len; have := HFr.out.d12; omega)
              rw [decide_eq_true rfl] at HE
              replace HE := Aside0.mk HE
              have HX := Aside0.mk (And.intro hl9 (And.intro hC9 (And.intro hc9 hC0)))
              clear hn9 hCf hcf hC9 hc9 hl9 hC6 hC0
              go_wp2_with fail
              refine HE.out.mono ?_
              rintro e w' ⟨rfl, m7, rfl⟩
              have hone := one_file HX.out.1 (Kd.C_drewN HX.out.2.1 m7) HX.out.2.2.1
              have hb7 : Below wr.heap.size wr ((wr.drewN m7).alloc (.cells #[.string sB, .slice A9 n9 c9] 94)) := (pw_below_drewN (Below.refl _ _) m7).alloc (Nat.le_refl _) _
              have HNw := Aside0.mk (HFr.out.new HX.out.2.2.2 hb7 hone)
              clear hone hb7
              go_wp2_with fail
              refine HNw.out.mono ?_
              rintro e w8 ⟨d2, rfl, B, hDk, hBB⟩
              have x8 : w8.cell? ⟨bx, 0, none⟩ = some (.int .i64 md) := HCx.out w8 hDk.below
              have y8 : w8.cell? ⟨g, 0, none⟩ = some (.slice Ad nd cd) := hDk.gc (fun w3 P h => (hBB w3 P h).1)
              have H8 := Aside0.mk (And.intro hDk hBB)
              clear hDk hBB c0 hc0 hc1
              go_wp2_with fail
              go_region_held3 (fun w' => w'.cell? ⟨bx, 0, none⟩ = some (.int .i64 md) ∧ w'.cell? ⟨g, 0, none⟩ = some (.slice Ad nd cd)) (first | go_keep | assumption) (first
                | (go_at_call 15; refine (num12_any _ _).mono ?_; rintro e w' ⟨rfl, rfl⟩)
                | (go_at_call 17; refine (mode12_some _ _).mono ?_; rintro e w' ⟨mo2, hmo2, rfl, m8, rfl⟩)
                | (go_at_call 30; refine (o_open (H8.out.1.drewN _) (by omega) (by omega) mo2 hmo2.out).mono ?_; rintro e w9 ⟨p2, rfl, hS9⟩
                   have x9 : w9.cell? ⟨bx, 0, none⟩ = some (.int .i64 md) := HCx.out w9 hS9.below
                   have y9 : w9.cell? ⟨g, 0, none⟩ = some (.slice Ad nd cd) := hS9.gc (fun w3 P h => (H8.out.2 w3 P h).1)
                   have z9 := And.intro x9 y9
                   have H9 := Aside0.mk hS9
                   clear hS9)
                | (go_at_call 28; refine (o_same H9.out (by omega) (fun P h => (H8.out.2 _ P h).2) HFr.out.h (by have := HFr.out.d12; omega)).mono ?_; rintro e w10 ⟨rfl, hS10⟩
                   have x10 : w10.cell? ⟨bx, 0, none⟩ = some (.int .i64 md) := HCx.out w10 hS10.below
                   have y10 : w10.cell? ⟨g, 0, none⟩ = some (.slice Ad nd cd) := hS10.gc (fun w3 P h => (H8.out.2 w3 P h).1)
                   have z10 := And.intro x10 y10
                   have H10 := Aside0.mk hS10.below
                   clear hS10)
                | (go_at_call 29; refine (wakes12_any _).mono ?_; rintro e w11 ⟨rfl, hb11⟩
                   have x11 : w11.cell? ⟨bx, 0, none⟩ = some (.int .i64 md) := (hb11.cell (p := ⟨bx, 0, none⟩) (World.block_lt_of_cell? _ _ x10)).trans x10
                   have y11 : w11.cell? ⟨g, 0, none⟩ = some (.slice Ad nd cd) := (hb11.cell (p := ⟨g, 0, none⟩) (World.block_lt_of_cell? _ _ y10)).trans y10
                   have z11 := And.intro x11 y11
                   have hbl11 := H10.out.trans (hb11.mono H10.out.size)
                   have H11 := Aside0.mk hbl11
                   clear hb11 hbl11))
              go_wp2_with fail
              go_ret
              exact ⟨rfl, HB.out.2.trans (H11.out.mono HB.out.2.size)⟩
end Go.Proofs.YtmdpgjdepflbmaaGreat

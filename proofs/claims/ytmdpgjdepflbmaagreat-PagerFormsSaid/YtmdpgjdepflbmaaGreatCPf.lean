/-
  PagerForms: what is refused.
-/
import Derived.Test.YtmdpgjdepflbmaaGreatCJ
namespace Go.Proofs.YtmdpgjdepflbmaaGreat
open Go.RowKit Go.Maps Go.Proofs.YtmdpgjdepflbmaaGreatW.PrintWords Go.Proofs.YtmdpgjdepflbmaaGreatW.PrintLast Go.Proofs.YtmdpgjdepflbmaaGreatW.PrintMore
open Go.Proofs.YtmdpgjdepflbmaaGreat.PPagerFolds
set_option linter.unusedVariables false
set_option linter.unusedSimpArgs false

theorem popen_nild (l : Nat) (w : World) : Calls Tryz.prog 16 #[.pointer none, .int .i64 2, dp l, .int .i64 0] w fun e w' => e = .returned (.tuple #[.pointer none, .int .i64 1]) ∧ w = w' := by
  go_enter Tryz.func16, Tryz.ntmps16
  go_wp2
  go_ret2
  exact ⟨rfl, rfl⟩
theorem popen_nill (d : Nat) (w : World) : Calls Tryz.prog 16 #[dp d, .int .i64 2, .pointer none, .int .i64 0] w fun e w' => e = .returned (.tuple #[.pointer none, .int .i64 1]) ∧ w = w' := by
  go_enter Tryz.func16, Tryz.ntmps16
  go_wp2
  go_ret2
  exact ⟨rfl, rfl⟩
set_option maxRecDepth 100000 in
theorem popen_bad (d l : Nat) (m c : Int) (w : World) (h : ¬ ((m = 1 ∨ m = 2) ∧ 0 ≤ c ∧ c < 4)) : Calls Tryz.prog 16 #[dp d, .int .i64 m, dp l, .int .i64 c] w fun e w' => e = .returned (.tuple #[.pointer none, .int .i64 1]) ∧ w = w' := by
  by_cases hm : m = 1 ∨ m = 2
  · have HC := Aside0.mk (conn_no c w (fun hc => h ⟨hm, hc⟩))
    clear h
    rcases hm with rfl | rfl
    all_goals
      go_enter Tryz.func16, Tryz.ntmps16
      go_wp2_with (go_at_call 49; refine HC.out.mono ?_; rintro e w' ⟨rfl, rfl⟩)
      go_ret2
      exact ⟨rfl, rfl⟩
  · have q1 : (m != 1) = true := by simp; omega
    have q2 : (m != 2) = true := by simp; omega
    clear h hm
    go_enter Tryz.func16, Tryz.ntmps16
    go_wp2
    go_ret2
    exact ⟨rfl, rfl⟩

section
variable {w : World} {X : PG} {M : DM} {ok : Nat → Prop}
theorem pwrite_num (h : PgAt w X ok) (n : Int) (hd : X.dead = false) (hi : X.inn = true) (hn : ¬ (0 ≤ n ∧ n < 4096)) (A : Option Addr) (k c : Nat) :
    Calls Tryz.prog 20 #[dp X.p, .int .i64 n, .slice A k c] w fun e w' => e = .returned (.int .i64 1) ∧ w = w' := by
  have HA := ask_any h
  rw [askE_in hd hi] at HA
  have HA := Aside0.mk HA
  have HG := Aside0.mk (fun w => good_bad n w hn)
  clear h hd hi hn
  go_enter Tryz.func20, Tryz.ntmps20
  go_wp2_with (first | (go_at_call 53; refine (HA.out).mono ?_; rintro e w' ⟨rfl, rfl⟩) | (go_at_call 54; refine (HG.out _).mono ?_; rintro e w' ⟨rfl, rfl⟩))
  go_ret
  exact ⟨rfl, rfl⟩
theorem pwrite_len (h : PgAt w X ok) (n : Int) (hd : X.dead = false) (hi : X.inn = true) (h0 : 0 ≤ n) (h1 : n < 4096) (A : Option Addr) (k c : Nat) (hk : k ≠ 512) :
    Calls Tryz.prog 20 #[dp X.p, .int .i64 n, .slice A k c] w fun e w' => e = .returned (.int .i64 1) ∧ w = w' := by
  have HA := ask_any h
  rw [askE_in hd hi] at HA
  have HA := Aside0.mk HA
  have HG := Aside0.mk (fun w => good_ok n w h0 h1)
  have q : ((k : Int) != 512) = true := by simp; omega
  clear h hd hi h0 h1 hk
  go_enter Tryz.func20, Tryz.ntmps20
  go_wp2_with (first | (go_at_call 53; refine (HA.out).mono ?_; rintro e w' ⟨rfl, rfl⟩) | (go_at_call 54; refine (HG.out _).mono ?_; rintro e w' ⟨rfl, rfl⟩))
  go_ret
  exact ⟨rfl, rfl⟩
set_option maxRecDepth 100000 in
/-- no mark of that number -/
theorem back_no (h : Sys w X M ok) (hi : X.inn = true) (hd : X.dead = false) (m : Int) (hml : X.marks.length ≤ 100000) (hno : ∀ k ∈ X.marks, k.n ≠ m) :
    Calls Tryz.prog 31 #[dp X.p, .int .i64 m] w fun e w' => e = .returned (.int .i64 1) ∧ Below w.heap.size w w' := by
  obtain ⟨bo, vw, vm, hP⟩ := h.pg
  obtain ⟨bx, hbx⟩ : ∃ bx, bx = w.heap.size := ⟨_, rfl⟩
  obtain ⟨W, hW⟩ : ∃ W, W = w.alloc (.cells #[.int .i64 m] 3) := ⟨_, rfl⟩
  have hbW : Below w.heap.size w W := by rw [hW]; exact (Below.refl _ _).alloc (Nat.le_refl _) _
  have hW0 : W.heap[bx]? = some (.cells #[.int .i64 m] 3 (0, 0)) := by rw [hW, hbx]; exact heap_alloc_new w _
  have hPW : PRep W X ok bo vw vm := by
    have hs := h.below hbW
    exact hP.move (fun j hj hl => hbW.block j hl)
  have HA := ask_any (w := W) (X := X) ⟨bo, vw, vm, hPW⟩
  have hE : askE X = 0 := by unfold askE; rw [hd, hi]; rfl
  rw [hE] at HA
  obtain ⟨hvok, bs, hbl, hown, hms⟩ := hPW.marks
  have HI := Aside0.mk (idx_any hown hbl hW0 (by omega))
  have hp := hPW.hp
  obtain ⟨p, hpe⟩ : ∃ p, p = X.p := ⟨_, rfl⟩
  rw [← hpe] at HA hp ⊢
  have HA := Aside0.mk HA
  have c10 := cell_of_row W p 10 _ _ (0, 0) hp
  have HN := Aside0.mk (And.intro hno hbW)
  clear hP hPW hp hpe hown hbl hms hvok hno hE hi hd hml h hbW
  have HW := Aside0.mk (And.intro hW hbx)
  clear hW hW0 hbx
  go_enter Tryz.func31, Tryz.ntmps31
  go_wp2_with (first
    | (go_at_call 53; rw [← HW.out.1]; refine (HA.out).mono ?_; rintro e w' ⟨rfl, rfl⟩)
    | fail)
  rw [← HW.out.2]
  refine HI.out.mono ?_
  rintro e w2 ⟨r, rfl, hr, hb2⟩
  obtain rfl : r = -1 := by
    rcases hr with ⟨hr, _⟩ | ⟨i', k', rfl, hk', hn', hf'⟩
    · exact hr
    · exact absurd hn' (HN.out.1 k' (List.mem_of_getElem? hk'))
  have H2 := Aside0.mk hb2
  clear hr hb2
  go_wp2
  go_ret
  exact ⟨rfl, HN.out.2.trans (H2.out.mono HN.out.2.size)⟩
end
set_option maxHeartbeats 8000000 in
set_option maxRecDepth 100000 in
theorem forms_any (md : Int) (A A1 A2 : Option Addr) (len cap n1 k1 n2 k2 : Nat) (D C L0 : Nat → Int) (w : World) (hl0 : len ≤ 9223372036854775807) (hA : Acts w A len D C L0) :
    Calls Tryz.prog 4 #[.agg #[.int .i64 md, .slice A len cap, .slice A1 n1 k1, .slice A2 n2 k2]] w fun e w' => e = .returned (.bool true) ∧ Below w.heap.size w w' := by
  have HA := Aside0.mk hA
  clear hA
  obtain ⟨bx, hbx⟩ : ∃ bx, bx = w.heap.size := ⟨_, rfl⟩
  obtain ⟨W, hW⟩ : ∃ W, W = w.alloc (.cells #[.int .i64 md, .slice A len cap, .slice A1 n1 k1, .slice A2 n2 k2] 62) := ⟨_, rfl⟩
  have HD := Aside0.mk (dnew_nil W)
  have HN := Aside0.mk (fun w' => new_any w')
  have HW := Aside0.mk (And.intro hbx hW)
  clear hbx
  go_enter Tryz.func4, Tryz.ntmps4
  go_wp2_with fail
  rw [← hW]
  refine (HD.out).mono ?_
  rintro e w1 ⟨rfl, hD, hb⟩
  have H1 := Aside0.mk (And.intro hD.tight' hb)
  clear hD hb hW
  obtain ⟨d, hd⟩ : ∃ d, d = W.heap.size + 2 := ⟨_, rfl⟩
  rw [← hd, ← HW.out.1]
  have Hd := Aside0.mk hd
  clear hd
  go_wp2_with fail
  refine (new_any _).mono ?_
  rintro e w2 ⟨rfl, hw2⟩
  obtain ⟨l, hl⟩ : ∃ l, l = w1.heap.size := ⟨_, rfl⟩
  rw [← hl]
  have H2 := Aside0.mk (And.intro hl hw2)
  clear hl hw2
  go_wp2_with (first
    | (go_at_call 15; refine (num12_any _ _).mono ?_; rintro e w' ⟨rfl, rfl⟩))
  refine (popen_nild l _).mono ?_
  rintro e w' ⟨rfl, rfl⟩
  go_wp2_with fail
  refine (popen_nill d _).mono ?_
  rintro e w' ⟨rfl, rfl⟩
  have hs1 := H1.out.2.size
  have hsW : W.heap.size = w.heap.size + 1 := by rw [HW.out.2]; simp
  have hbW : Below w.heap.size w W := by rw [HW.out.2]; exact (Below.refl _ _).alloc (Nat.le_refl _) _
  have hb2 : Below W.heap.size W w2 := by rw [H2.out.2]; exact H1.out.2.alloc hs1 _
  have hbx : W.heap[bx]? = some (.cells #[.int .i64 md, .slice A len cap, .slice A1 n1 k1, .slice A2 n2 k2] 62 (0, 0)) := by rw [HW.out.1, HW.out.2]; exact heap_alloc_new w _
  have hbx2 : w2.heap[bx]? = some (.cells #[.int .i64 md, .slice A len cap, .slice A1 n1 k1, .slice A2 n2 k2] 62 (0, 0)) := (hb2.block bx (heap_lt hbx)).trans hbx
  have hbw : Below w.heap.size w w2 := hbW.trans (hb2.mono (by omega))
  have hsd := (H1.out.1)
  have HB := Aside0.mk (And.intro hbx2 (And.intro hbw hb2))
  have HE : Aside0 (DiskAt w2 d M0 (fun k => W.heap.size ≤ k ∧ k < w1.heap.size)) := ⟨by rw [Hd.out, H2.out.2]; exact hsd.alloc _⟩
  clear hs1 hsW hbW hb2 hbx hbx2 hbw hsd
  go_wp2_with (first
    | (go_at_call 15; refine (num12_any _ _).mono ?_; rintro e w' ⟨rfl, rfl⟩))
  go_loopw [10] (fun v10 wr => ∃ k : Nat, v10 = .int .i64 k ∧ k ≤ len ∧ k ≤ 5 ∧ Aside0 (Below w2.heap.size w2 wr)) (fun v10 _ => len - (intOf v10).toNat)
  case atStart => exact ⟨0, rfl, by omega, by omega, ⟨Below.refl _ _⟩⟩
  case round =>
    obtain ⟨k, rfl, hk, hk5, HI⟩ := hrel
    have e1 : wr.cell? ⟨bx, 1, none⟩ = some (.slice A len cap) := cell_of_row wr bx 1 _ _ (0, 0) ((HI.out.block bx (heap_lt HB.out.1)).trans HB.out.1)
    by_cases h1 : k < len ∧ k < 5
    · obtain ⟨h1, h2⟩ := h1
      obtain ⟨b, off, rfl, hbw, hcells⟩ := HA.out (by omega)
      obtain ⟨hc0, hc1, hc2⟩ := hcells k (by omega)
      have hbl : Below w.heap.size w wr := HB.out.2.1.trans (HI.out.mono HB.out.2.1.size)
      have c1 : wr.cell? ⟨b, off + k * 3 + 1, none⟩ = some (.int .i64 (C k)) := (hbl.cell (p := ⟨b, off + k * 3 + 1, none⟩) hbw).trans hc1
      have c2 : wr.cell? ⟨b, off + k * 3 + 2, none⟩ = some (.int .i64 (L0 k)) := (hbl.cell (p := ⟨b, off + k * 3 + 2, none⟩) hbw).trans hc2
      clear hcells hc0 hc1 hc2 hbl hbw
      generalize C k = ck at *
      generalize L0 k = lk at *
      rcases (show (∃ c : Nat, c < 4 ∧ ck = c ∧ (lk = 1 ∨ lk = 2)) ∨ (lk ≠ 1 ∧ lk ≠ 2) ∨ ((lk = 1 ∨ lk = 2) ∧ ck < 0) ∨ ((lk = 1 ∨ lk = 2) ∧ 4 ≤ ck) by
        by_cases a : lk = 1 ∨ lk = 2
        · by_cases b : 0 ≤ ck ∧ ck < 4
          · exact .inl ⟨ck.toNat, by omega, by omega, a⟩
          · omega
        · omega) with h3 | h3 | h3 | h3
      · obtain ⟨c, hc4, rfl, hm⟩ := h3
        have q1 : decide ((0 : Int) ≤ (c : Int)) = true := by simp
        have q2 : decide ((c : Int) < 4) = true := by simp; omega
        have HO := Aside0.mk (popen_any (HE.out.below HI.out) JQ.zero lk hm c hc4 (l := l))
        have HH := Aside0.mk hc4
        have HS := Aside0.mk (And.intro (World.block_lt_of_cell? _ _ e1) (World.block_lt_of_cell? _ _ c2))
        clear hc4
        rcases hm with rfl | rfl
        all_goals
          go_wp2_with (first
            | (go_at_call 15; refine (num12_any _ _).mono ?_; rintro e w' ⟨rfl, rfl⟩)
            | (go_at_call 16; refine HO.out.mono ?_; rintro e w3 ⟨rfl, hP3, hb3⟩
               have e2 := (hb3.cell (p := ⟨bx, 1, none⟩) HS.out.1).trans e1
               have c3 := (hb3.cell (p := ⟨b, off + k * 3 + 2, none⟩) HS.out.2).trans c2
               have H3 := Aside0.mk hb3
               clear hP3 hb3))
          go_roundw
          case rel => exact ⟨k + 1, by go_num, by omega, by omega, ⟨HI.out.trans (H3.out.mono HI.out.size)⟩⟩
          case measure => simp [intOf]; omega
      · have HO := Aside0.mk (popen_bad d l lk ck wr (fun h => by omega))
        have q1 : (lk == 1) = false := by simp; omega
        have q2 : (lk == 2) = false := by simp; omega
        clear h3
        go_wp2_with (first
          | (go_at_call 15; refine (num12_any _ _).mono ?_; rintro e w' ⟨rfl, rfl⟩)
          | (go_at_call 16; refine HO.out.mono ?_; rintro e w' ⟨rfl, rfl⟩))
        go_roundw
        case rel => exact ⟨k + 1, by go_num, by omega, by omega, ⟨HI.out⟩⟩
        case measure => simp [intOf]; omega
      · have HO := Aside0.mk (popen_bad d l lk ck wr (fun h => by omega))
        have q1 : decide ((0 : Int) ≤ ck) = false := by simp; omega
        rcases h3.1 with rfl | rfl
        all_goals
          clear h3
          go_wp2_with (first
            | (go_at_call 15; refine (num12_any _ _).mono ?_; rintro e w' ⟨rfl, rfl⟩)
            | (go_at_call 16; refine HO.out.mono ?_; rintro e w' ⟨rfl, rfl⟩))
          go_roundw
          case rel => exact ⟨k + 1, by go_num, by omega, by omega, ⟨HI.out⟩⟩
          case measure => simp [intOf]; omega
      · have HO := Aside0.mk (popen_bad d l lk ck wr (fun h => by omega))
        have q1 : decide ((0 : Int) ≤ ck) = true := by simp; omega
        have q2 : decide (ck < 4) = false := by simp; omega
        rcases h3.1 with rfl | rfl
        all_goals
          clear h3
          go_wp2_with (first
            | (go_at_call 15; refine (num12_any _ _).mono ?_; rintro e w' ⟨rfl, rfl⟩)
            | (go_at_call 16; refine HO.out.mono ?_; rintro e w' ⟨rfl, rfl⟩))
          go_roundw
          case rel => exact ⟨k + 1, by go_num, by omega, by omega, ⟨HI.out⟩⟩
          case measure => simp [intOf]; omega
    · rcases (show len ≤ k ∨ (k < len ∧ 5 ≤ k) by omega) with h2 | h2
      all_goals
        (try have q60 : decide ((k : Int) < 5) = false := by simp; omega)
        clear h1
        have e0 : wr.cell? ⟨bx, 0, none⟩ = some (.int .i64 md) := cell_of_row wr bx 0 _ _ (0, 0) ((HI.out.block bx (heap_lt HB.out.1)).trans HB.out.1)
        have hmo := (mode12_or md).2
        obtain ⟨mo, hmo'⟩ : ∃ mo, mo = mode12 md := ⟨_, rfl⟩
        rw [← hmo'] at hmo
        have HMo := Aside0.mk (mode12_any md wr)
        rw [← hmo'] at HMo
        have hsz : w1.heap.size ≤ w2.heap.size := by rw [H2.out.2]; simp
        have HLo := Aside0.mk (fun m : Nat => lopen_any (w := wr.drewN m) ((HE.out.below HI.out).drewN m) JQ.zero (fun k hk => Nat.lt_of_lt_of_le hk.2 (Nat.le_trans hsz HI.out.size)) mo hmo)
        have HMm := Aside0.mk hmo
        clear hmo' hmo hsz
        go_wp2_with (first
          | (go_at_call 15; refine (num12_any _ _).mono ?_; rintro e w' ⟨rfl, rfl⟩)
          | (go_at_call 17; refine HMo.out.mono ?_; rintro e w' ⟨rfl, m0, rfl⟩)
          | (go_at_call 30; refine (HLo.out m0).mono ?_; rintro e w3 ⟨rfl, hS3, hb3⟩
             obtain ⟨X, hX⟩ : ∃ X, X = newPG ((wr.drewN m0).heap.size + 1) d (wr.drewN m0).heap.size mo 0 := ⟨_, rfl⟩
             have hXp : (wr.drewN m0).heap.size + 1 = X.p := by rw [hX]; rfl
             rw [← hX] at hS3
             have HX := Aside0.mk hX
             rw [show dp ((wr.drewN m0).heap.size + 1) = dp X.p from by rw [hXp]]
             have HBg := Aside0.mk (s_begin2 hS3 JQ.zero (by rw [hX]; exact HMm.out) (by rw [hX]; rfl) (by rw [hX]; rfl) (by rw [hX]; rfl))
             have H3 := Aside0.mk (And.intro hS3 hb3)
             clear hS3 hb3 hX hXp)
          | (go_at_call 19; refine (HBg.out).mono ?_; rintro e w4 ⟨rfl, hS4⟩
             have H4 := Aside0.mk (And.intro hS4.1.tight hS4.2)
             clear hS4))
        obtain ⟨p, hp⟩ : ∃ p, p = X.p := ⟨_, rfl⟩
        have HXX : Aside0 ((X.begun M0).dead = false ∧ (X.begun M0).inn = true ∧ (X.begun M0).marks = [] ∧ (X.begun M0).p = p ∧ (X.begun M0).count = 0) := ⟨by rw [HX.out]; exact ⟨rfl, rfl, rfl, by rw [hp, HX.out]; rfl, rfl⟩⟩
        rw [← hp]
        have hsW : W.heap.size = w.heap.size + 1 := by rw [HW.out.2]; simp
        have hb3 : Below wr.heap.size wr w3 := below_undrawn H3.out.2
        have hbW3 : Below W.heap.size W w3 := (HB.out.2.2.trans (HI.out.mono HB.out.2.2.size)).trans (hb3.mono (Nat.le_trans HB.out.2.2.size HI.out.size))
        have hWr : W.heap.size ≤ wr.heap.size := Nat.le_trans HB.out.2.2.size HI.out.size
        have hbW4 : Below W.heap.size W w4 := hbW3.trans (H4.out.2.below (fun k hk => by
          rcases hk with h | h
          · exact h.1
          · exact Nat.le_trans hWr h) hbW3.size)
        have hbx4 : w4.heap[bx]? = some (.cells #[.int .i64 md, .slice A len cap, .slice A1 n1 k1, .slice A2 n2 k2] 62 (0, 0)) := by
          have hlt : bx < W.heap.size := by rw [HW.out.1]; omega
          exact (hbW4.block bx hlt).trans ((HB.out.2.2.block bx hlt).symm.trans HB.out.1)
        have hbw4 : Below w.heap.size w w4 := by
          have hbW : Below w.heap.size w W := by rw [HW.out.2]; exact (Below.refl _ _).alloc (Nat.le_refl _) _
          exact hbW.trans (hbW4.mono hbW.size)
        have HB4 := Aside0.mk (And.intro hbx4 hbw4)
        clear hp hsW hb3 hbW3 hWr hbW4 hbx4 hbw4 HI
        go_loopw [16] (fun v16 wr => ∃ r : Nat, v16 = .int .i64 r ∧ r ≤ len ∧ r ≤ 40 ∧ Aside0 (Below w4.heap.size w4 wr)) (fun v16 _ => len - (intOf v16).toNat)
        case atStart => exact ⟨0, rfl, by omega, by omega, ⟨Below.refl _ _⟩⟩
        case round =>
          obtain ⟨r, rfl, hr, hr40, HI2⟩ := hrel
          have f1 : wr.cell? ⟨bx, 1, none⟩ = some (.slice A len cap) := cell_of_row wr bx 1 _ _ (0, 0) ((HI2.out.block bx (heap_lt HB4.out.1)).trans HB4.out.1)
          by_cases h1 : r < len ∧ r < 40
          · obtain ⟨h1, h3⟩ := h1
            obtain ⟨b, off, rfl, hbw, hcells⟩ := HA.out (by omega)
            obtain ⟨_, hc1, _⟩ := hcells r (by omega)
            have hbl : Below w.heap.size w wr := HB4.out.2.trans (HI2.out.mono HB4.out.2.size)
            have c1 : wr.cell? ⟨b, off + r * 3 + 1, none⟩ = some (.int .i64 (C r)) := (hbl.cell (p := ⟨b, off + r * 3 + 1, none⟩) hbw).trans hc1
            clear hcells hc1 hbl hbw
            generalize C r = ck at *
            by_cases h5 : 0 ≤ ck ∧ ck < 4096
            · obtain ⟨h5, h6⟩ := h5
              have hnn : ¬ (0 ≤ -1 - ck ∧ -1 - ck < 4096) := by omega
              have HRd := pread_bad ((H4.out.1.below HI2.out).pg) (-1 - ck) HXX.out.1 HXX.out.2.1 hnn
              rw [HXX.out.2.2.2.1] at HRd
              have HRd := Aside0.mk HRd
              have q5 : decide (0 ≤ ck) = true := by simp; omega
              have q6 : decide (ck < 4096) = true := by simp; omega
              go_wp2_with (first
                | (go_at_call 15; refine (num12_any _ _).mono ?_; rintro e w' ⟨rfl, rfl⟩)
                | (go_at_call 23; refine (HRd.out).mono ?_; rintro e w' ⟨rfl, rfl⟩)
                | (go_at_call 21
                   have h6 := H6.out
                   refine (page12_any 1 _).mono ?_; rintro e w7 ⟨v7, rfl, hv7, hb7⟩
                   obtain ⟨b7, c7, rfl, _⟩ := Kd.R_form hv7 (by rw [pg12_length]; omega)
                   rw [pg12_length] at hv7 ⊢
                   have hc7 : 512 ≤ c7 := (C_of_row hv7).2.1
                   have h7 := h6.trans (hb7.mono h6.size)
                   have hS7 := H4.out.1.below h7
                   have HW2 := Aside0.mk (fun A c => pwrite_len hS7.pg 0 HXX.out.1 HXX.out.2.1 (by omega) (by omega) A 511 c (by omega))
                   have HBk := Aside0.mk (back_no hS7 HXX.out.2.1 HXX.out.1 (-1 - (r : Int)) (by rw [HXX.out.2.2.1]; simp) (by rw [HXX.out.2.2.1]; simp))
                   rw [HXX.out.2.2.2.1] at HW2 HBk
                   have H7 := Aside0.mk h7
                   clear h6 hv7 hb7 h7 hS7)
                | (go_at_call 21
                   refine (page12_any 1 _).mono ?_; rintro e w6 ⟨v6, rfl, hv6, hb6⟩
                   obtain ⟨b6, c6, rfl, _⟩ := Kd.R_form hv6 (by rw [pg12_length]; omega)
                   rw [pg12_length] at hv6 ⊢
                   have h6 := HI2.out.trans (hb6.mono HI2.out.size)
                   have hS6 := H4.out.1.below h6
                   have HW1 := Aside0.mk (fun A k c => pwrite_num hS6.pg (-1 - ck) HXX.out.1 HXX.out.2.1 hnn A k c)
                   rw [HXX.out.2.2.2.1] at HW1
                   have H6 := Aside0.mk h6
                   clear hv6 hb6 h6 hS6)
                | (go_at_call 20; refine (HW2.out _ _).mono ?_; rintro e w' ⟨rfl, rfl⟩)
                | (go_at_call 20; refine (HW1.out _ _ _).mono ?_; rintro e w' ⟨rfl, rfl⟩)
                | (go_at_call 31; refine (HBk.out).mono ?_; rintro e w8 ⟨rfl, hb8⟩
                   have h8 := H7.out.trans (hb8.mono H7.out.size)
                   have hCt := s_count (H4.out.1.below h8)
                   rw [HXX.out.2.2.2.1, HXX.out.2.2.2.2] at hCt
                   have HCt := Aside0.mk hCt
                   have H8 := Aside0.mk h8
                   clear hb8 h8 hCt)
                | (go_at_call 25; refine (HCt.out).mono ?_; rintro e w' ⟨rfl, rfl⟩))
              go_roundw
              case rel => exact ⟨r + 1, by go_num, by omega, by omega, ⟨H8.out⟩⟩
              case measure => simp [intOf]; omega
            · have hnn : ¬ (0 ≤ ck ∧ ck < 4096) := h5
              have HRd := pread_bad ((H4.out.1.below HI2.out).pg) ck HXX.out.1 HXX.out.2.1 hnn
              rw [HXX.out.2.2.2.1] at HRd
              have HRd := Aside0.mk HRd
              obtain ⟨nn, hne⟩ : ∃ nn, nn = ck := ⟨_, rfl⟩
              subst hne
              rcases (show nn < 0 ∨ (0 ≤ nn ∧ 4096 ≤ nn) by omega) with h6 | h6
              all_goals
                (try have q5 : decide (0 ≤ nn) = false := by simp; omega)
                (try have q6 : decide (0 ≤ nn) = true := by simp; omega)
                (try have q7 : decide (nn < 4096) = false := by simp; omega)
                go_wp2_with (first
                  | (go_at_call 15; refine (num12_any _ _).mono ?_; rintro e w' ⟨rfl, rfl⟩)
                  | (go_at_call 23; refine (HRd.out).mono ?_; rintro e w' ⟨rfl, rfl⟩)
                  | (go_at_call 21
                     have h6 := H6.out
                     refine (page12_any 1 _).mono ?_; rintro e w7 ⟨v7, rfl, hv7, hb7⟩
                     obtain ⟨b7, c7, rfl, _⟩ := Kd.R_form hv7 (by rw [pg12_length]; omega)
                     rw [pg12_length] at hv7 ⊢
                     have hc7 : 512 ≤ c7 := (C_of_row hv7).2.1
                     have h7 := h6.trans (hb7.mono h6.size)
                     have hS7 := H4.out.1.below h7
                     have HW2 := Aside0.mk (fun A c => pwrite_len hS7.pg 0 HXX.out.1 HXX.out.2.1 (by omega) (by omega) A 511 c (by omega))
                     have HBk := Aside0.mk (back_no hS7 HXX.out.2.1 HXX.out.1 (-1 - (r : Int)) (by rw [HXX.out.2.2.1]; simp) (by rw [HXX.out.2.2.1]; simp))
                     rw [HXX.out.2.2.2.1] at HW2 HBk
                     have H7 := Aside0.mk h7
                     clear h6 hv7 hb7 h7 hS7)
                  | (go_at_call 21
                     refine (page12_any 1 _).mono ?_; rintro e w6 ⟨v6, rfl, hv6, hb6⟩
                     obtain ⟨b6, c6, rfl, _⟩ := Kd.R_form hv6 (by rw [pg12_length]; omega)
                     rw [pg12_length] at hv6 ⊢
                     have h6 := HI2.out.trans (hb6.mono HI2.out.size)
                     have hS6 := H4.out.1.below h6
                     have HW1 := Aside0.mk (fun A k c => pwrite_num hS6.pg nn HXX.out.1 HXX.out.2.1 hnn A k c)
                     rw [HXX.out.2.2.2.1] at HW1
                     have H6 := Aside0.mk h6
                     clear hv6 hb6 h6 hS6)
                  | (go_at_call 20; refine (HW2.out _ _).mono ?_; rintro e w' ⟨rfl, rfl⟩)
                  | (go_at_call 20; refine (HW1.out _ _ _).mono ?_; rintro e w' ⟨rfl, rfl⟩)
                  | (go_at_call 31; refine (HBk.out).mono ?_; rintro e w8 ⟨rfl, hb8⟩
                     have h8 := H7.out.trans (hb8.mono H7.out.size)
                     have hCt := s_count (H4.out.1.below h8)
                     rw [HXX.out.2.2.2.1, HXX.out.2.2.2.2] at hCt
                     have HCt := Aside0.mk hCt
                     have H8 := Aside0.mk h8
                     clear hb8 h8 hCt)
                  | (go_at_call 25; refine (HCt.out).mono ?_; rintro e w' ⟨rfl, rfl⟩))
                go_roundw
                case rel => exact ⟨r + 1, by go_num, by omega, by omega, ⟨H8.out⟩⟩
                case measure => simp [intOf]; omega
          · rcases (show len ≤ r ∨ (r < len ∧ 40 ≤ r) by omega) with h3 | h3
            all_goals first
              | (exfalso; omega)
              | ((try have q61 : decide ((r : Int) < 40) = false := by simp; omega)
                 clear h1
                 go_wp2_with (go_at_call 29; refine (wakes12_any _).mono ?_; rintro e w9 ⟨rfl, hb9⟩; have H9 := Aside0.mk hb9; clear hb9)
                 go_ret
                 have hbl : Below w.heap.size w wr := HB4.out.2.trans (HI2.out.mono HB4.out.2.size)
                 exact ⟨rfl, hbl.trans (H9.out.mono hbl.size)⟩)
end Go.Proofs.YtmdpgjdepflbmaaGreat

/-
  The walk of found.
-/
import Derived.Test.YtgpniaplpibhfaaFoundP
namespace Go.Proofs.Ytgpniaplpibhfaa
open Go.RowKit Go.Maps Go.Proofs.YtgpniaplpibhfaaW.PrintWords Go.Proofs.YtgpniaplpibhfaaW.PrintLast Go.Proofs.YtgpniaplpibhfaaW.PrintMore
open Go.Proofs.Ytgpniaplpibhfaa.PDiskSafe
set_option linter.unusedVariables false
set_option linter.unusedSimpArgs false

def slot11 (a : Act) : Int := match a.tmps.getD 11 undef with | .int _ q => q | _ => 0

/-- what holds at the label -/
def FJ (B : Nat) (w : World) (g bp : Nat) (n E : Nat) (seen : Bytes) (fin : Bytes × List Int) (a : Act) (W : World) : Prop :=
  ∃ (As : Option Addr) (cs : Nat) (Ae : Option Addr) (ce : Nat) (x : Int), (a.defers = [] ∧ a.tmps.size = 127 ∧ a.tmps.getD 0 undef = .pointer (some ⟨g, 0, none⟩) ∧ a.tmps.getD 1 undef = .func (.func 28) #[] #[bptr bp] ∧ a.tmps.getD 2 undef = undef ∧ a.tmps.getD 3 undef = undef ∧ a.tmps.getD 4 undef = .slice none 0 0 ∧ a.tmps.getD 5 undef = .int .i64 n ∧ a.tmps.getD 8 undef = .int .i64 E ∧ a.tmps.getD 9 undef = .slice As E cs ∧ a.tmps.getD 10 undef = .slice Ae E ce ∧ a.tmps.getD 11 undef = .int .i64 x) ∧
    ∃ (k : Nat) (cur : Bytes) (ps : List Int), x = k ∧ k ≤ E + 64 ∧ secs seen E k cur ps = fin ∧ cur.length = E ∧
      RB W (fun b => w.heap.size ≤ b) (.slice As E cs) cur ∧ RB W (fun b => w.heap.size ≤ b) (.slice Ae E ce) seen ∧ (∀ b, (Value.slice As E cs).ownBlock = some b → (Value.slice Ae E ce).ownBlock ≠ some b) ∧ PBox B W bp ps ∧ Fr (fun b => b = bp) w W

theorem lit127 {a : Act} (hd : a.defers = []) (hs : a.tmps.size = 127) : ∃ u : Nat → Value, (∀ i, u i = a.tmps.getD i undef) ∧ a = { tmps := #[u 0, u 1, u 2, u 3, u 4, u 5, u 6, u 7, u 8, u 9, u 10, u 11, u 12, u 13, u 14, u 15, u 16, u 17, u 18, u 19, u 20, u 21, u 22, u 23, u 24, u 25, u 26, u 27, u 28, u 29, u 30, u 31, u 32, u 33, u 34, u 35, u 36, u 37, u 38, u 39, u 40, u 41, u 42, u 43, u 44, u 45, u 46, u 47, u 48, u 49, u 50, u 51, u 52, u 53, u 54, u 55, u 56, u 57, u 58, u 59, u 60, u 61, u 62, u 63, u 64, u 65, u 66, u 67, u 68, u 69, u 70, u 71, u 72, u 73, u 74, u 75, u 76, u 77, u 78, u 79, u 80, u 81, u 82, u 83, u 84, u 85, u 86, u 87, u 88, u 89, u 90, u 91, u 92, u 93, u 94, u 95, u 96, u 97, u 98, u 99, u 100, u 101, u 102, u 103, u 104, u 105, u 106, u 107, u 108, u 109, u 110, u 111, u 112, u 113, u 114, u 115, u 116, u 117, u 118, u 119, u 120, u 121, u 122, u 123, u 124, u 125, u 126], defers := [] } := by
  refine ⟨fun i => a.tmps.getD i undef, fun i => rfl, ?_⟩
  obtain ⟨t, d⟩ := a
  subst hd
  congr 1
  have : t = ((List.range 127).map (fun i => t.getD i undef)).toArray := by
    apply Array.ext
    · simpa using hs
    · intro i h1 h2
      simp [Array.getD, h1]
  exact this

theorem scope_loop {P : Program} {a : Act} {w : World} {Q : Exit → Act → World → Prop} {c rest : Code} (l : Nat) (J : Act → World → Prop) (μ : Act → World → Nat) (hf : findLabel c l = some (Code.skip.seq rest))
    (pass : ∀ a w, J a w → rest.wp P (Exit.jump l (fun a' w' => J a' w' ∧ μ a' w' < μ a w) Q) a w)
    (first : (∀ a w, J a w → rest.wp P (Exit.jump l J Q) a w) → c.wp P (Exit.jump l J Q) a w) : (Code.scope c).wp P Q a w := by
  refine wp_scope_jumps l J μ hf (first fun a w hJ => wp_mono (pass a w hJ) fun e a' w' q => ?_) (fun a w hJ => wp_seq (wp_skip (pass a w hJ)))
  cases e with
  | goto l' => exact ⟨q.1, q.2.1⟩
  | _ => exact q

set_option maxHeartbeats 4000000 in
set_option maxRecDepth 100000 in
theorem found_any {B : Nat} {w : World} (hBw : B ≤ w.heap.size) {g bp L1 c1 L2 c2 : Nat} {A1 A2 : Option Addr} {f : Bytes × Bytes} {ps : List Int}
    (hg : w.heap[g]? = some (.cells #[.slice A1 L1 c1, .slice A2 L2 c2] 68 (0, 0))) (hC1 : U8.C w A1 L1 f.1) (hle1 : L1 ≤ c1) (hC2 : U8.C w A2 L2 f.2) (hle2 : L2 ≤ c2)
    (hl1 : L1 ≤ 4194304) (hl2 : L2 ≤ 4194304) (hP : PBox B w bp ps) (hgb : g ≠ bp) (hb1 : ∀ ad, A1 = some ad → ad.block ≠ bp) (hb2 : ∀ ad, A2 = some ad → ad.block ≠ bp) :
    Calls Try.prog 30 #[.pointer (some ⟨g, 0, none⟩), .func (.func 28) #[] #[bptr bp]] w fun e w' => ∃ v, e = .returned v ∧ RB w' (fun k => w.heap.size ≤ k) v (foundF f ps).1 ∧ PBox B w' bp (foundF f ps).2 ∧ Fr (fun k => k = bp) w w' := by
  have cg0 : w.cell? ⟨g, 0, none⟩ = some (.slice A1 L1 c1) := cell_of_row w g 0 _ 68 (0, 0) hg
  have cg1 : w.cell? ⟨g, 1, none⟩ = some (.slice A2 L2 c2) := cell_of_row w g 1 _ 68 (0, 0) hg
  obtain ⟨E, hE⟩ : ∃ E, E = max L1 L2 := ⟨_, rfl⟩
  have hEi : max (L1 : Int) (L2 : Int) = (E : Int) := by rw [hE]; omega
  obtain ⟨n, hn⟩ : ∃ n, n = (lenF f ps).1 := ⟨_, rfl⟩
  obtain ⟨fin, hfin⟩ : ∃ fin, fin = secs (padTo f.2 E) E 0 (padTo f.1 E) (lenF f ps).2 := ⟨_, rfl⟩
  have e1 : f.1.length = L1 := hC1.1
  have e2 : f.2.length = L2 := hC2.1
  have hnE : n ≤ E := by
    rw [hn, hE]; unfold lenF
    split
    · simp [e1]; omega
    · split
      · simp [e2]; omega
      · simp [e1]; omega
  have hres : foundF f ps = (fin.1.take n, fin.2) := by rw [hfin, hn, hE]; unfold foundF; rw [e1, e2]
  rw [hres]
  have hE2 : E ≤ 4194304 := by omega
  have HPL := Aside0.mk (show bp < w.heap.size from by have := hP.1; omega)
  have hLE1 : L1 ≤ E := by omega
  have hLE2 : L2 ≤ E := by omega
  have HG := Aside0.mk (And.intro hg (And.intro hC1 (And.intro hC2 (And.intro hP (And.intro hgb (And.intro hb1 hb2))))))
  have HN := Aside0.mk (And.intro hn (And.intro hfin (And.intro e1 (And.intro e2 hE))))
  clear hg hC1 hC2 hP hgb hb1 hb2 hn hfin hres e1 e2 hE
  go_enter Try.func30, Try.ntmps30
  go_wp2
  refine scope_loop 0 (FJ B w g bp n E (padTo f.2 E) fin) (fun a _ => (E + 64 - (slot11 a).toNat)) rfl ?_ ?_
  · rintro a W ⟨As, cs, Ae, ce, x, ⟨hd, hs127, z0 , z1 , z2 , z3 , z4 , z5 , z8 , z9 , z10 , z11⟩, k, cur, ps', hx, hkE, hsec, hcl, hRs, hRe, hap, hPB, hFr⟩
    obtain ⟨u, hu, ha⟩ := lit127 hd hs127
    rw [← hu] at z0  z1  z2  z3  z4  z5  z8  z9  z10  z11
    rw [z0, z1, z2, z3, z4, z5, z8, z9, z10, z11] at ha
    have hsl : slot11 a = x := by rw [ha]; rfl
    rw [hsl]
    subst ha
    clear hd hs127 hu hsl z0  z1  z2  z3  z4  z5  z8  z9  z10  z11
    by_cases hlt : x < (E : Int)
    · have b1 : decide (x < (E : Int)) = true := decide_eq_true hlt
      obtain ⟨x64, hx64⟩ : ∃ x64, IntKind.i64.wrap (x + 64) = x64 := ⟨_, rfl⟩
      have HX64 : Aside0 (x64 = x + 64) := ⟨by rw [← hx64, IntKind.wrap_i64]; omega⟩
      obtain ⟨st, hst⟩ : ∃ st : Int, min x64 (E : Int) = st := ⟨_, rfl⟩
      have HYL : Aside0 ((padTo f.2 E).length = E) := ⟨by obtain ⟨_, _, _, h, h'⟩ := HN.out; rw [padTo_length]; omega⟩
      obtain ⟨g1, rfl, hcs⟩ := hRs.some hcl (by omega)
      obtain ⟨g2, rfl, hce⟩ := hRe.some HYL.out (by omega)
      have hkE' : k < E := by omega
      obtain ⟨m, hm⟩ : ∃ m : Nat, k + m = min (k + 64) E := ⟨min (k + 64) E - k, by omega⟩
      have hstn : st = ((min (k + 64) E : Nat) : Int) := by rw [← hst, HX64.out]; omega
      have HST : Aside0 (st = ((min (k + 64) E : Nat) : Int) ∧ k < E ∧ E ≤ cs ∧ E ≤ ce ∧ k + m = min (k + 64) E) := ⟨⟨hstn, hkE', hcs, hce, hm⟩⟩
      have hcut1 : ∀ W : World, (Instr.slice 30 (.slice (some ⟨g1, 0, none⟩) E cs) (some (.int .i64 x)) (some (.int .i64 st)) none).run Try.prog W = .ok (.slice (some ⟨g1, k, none⟩) m (cs - k)) W := by
        intro W
        rw [hx, hstn, ← hm, run_cut_mid (w := W) k (k + m) (by omega) (by omega) hcs (by omega) W, Nat.add_sub_cancel_left]
      have hcut2 : ∀ W : World, (Instr.slice 30 (.slice (some ⟨g2, 0, none⟩) E ce) (some (.int .i64 x)) (some (.int .i64 st)) none).run Try.prog W = .ok (.slice (some ⟨g2, k, none⟩) m (ce - k)) W := by
        intro W
        rw [hx, hstn, ← hm, run_cut_mid (w := W) k (k + m) (by omega) (by omega) hce (by omega) W, Nat.add_sub_cancel_left]
      obtain ⟨eqb, heqb⟩ : ∃ eqb : Bool, eqb = decide ((cur.drop k).take m = ((padTo f.2 E).drop k).take m) := ⟨_, rfl⟩
      have HEQ : Aside0 (∀ nn, Calls Try.prog 45 #[.slice (some ⟨g1, k, none⟩) m (cs - k), .slice (some ⟨g2, k, none⟩) m (ce - k)] (W.drewN nn) fun e w' => e = .returned (.bool eqb) ∧ ∃ j, w' = (W.drewN nn).drewN j) := ⟨fun nn => by
        rw [heqb]
        exact equal_any (C_drewN (hRs.cutC hcl (by omega) k m (by omega)) nn) (by omega) (C_drewN (hRe.cutC HYL.out (by omega) k m (by omega)) nn) (by omega) rfl (by omega)⟩
      have HEB := Aside0.mk heqb
      have HS := Aside0.mk (And.intro hx (And.intro hkE (And.intro hsec (And.intro hcl (And.intro hRs (And.intro hRe (And.intro hap (And.intro hPB hFr))))))))
      clear hx hkE hsec hcl hRs hRe hap hPB hFr cg0 cg1 hstn hkE' hcs hce hm heqb hlt
      cases eqb with
      | true =>
        go_wp2
        go_quiet ((go_at_call 45; exact Calls.quiet_of (HEQ.out _)))
        go_wp2
        go_step3
        obtain ⟨hx, hkE, hsec, hcl, hRs, hRe, hap, hPB, hFr⟩ := HS.out
        have hs64 := HX64.out
        have hkx : k < E := by have := HST.out; omega
        have heq : (cur.drop k).take m = ((padTo f.2 E).drop k).take m := of_decide_eq_true HEB.out.symm
        refine ⟨rfl, ⟨some ⟨g1, 0, none⟩, cs, some ⟨g2, 0, none⟩, ce, x64, ⟨rfl, rfl, rfl, rfl, rfl, rfl, rfl, rfl, rfl, rfl, rfl, rfl⟩, k + 64, cur, ps', by rw [hs64, hx]; omega, by omega, ?_, hcl, hRs.same (fun _ _ => rfl) hRs.1, hRe.same (fun _ _ => rfl) hRe.1, hap, hPB.keep (fun _ _ => rfl) (Nat.le_refl _), hFr.drewN _⟩, ?_⟩
        · rw [← hsec, secs.eq_1 (padTo f.2 E) E k cur ps', if_pos hkx]
          have hsc : sector (padTo f.2 E) cur k (min (k + 64) E) ps' = (cur, ps') := by
            unfold sector
            rw [if_pos (by have := HST.out; rw [show min (k + 64) E - k = m from by omega]; exact heq)]
          rw [hsc]
        · show E + 64 - x64.toNat < E + 64 - x.toNat
          omega
      | false =>
        obtain ⟨p, hp⟩ : ∃ p, p = (nextP ps').1 := ⟨_, rfl⟩
        have HNX : Aside0 (∀ nn, Calls Try.prog 28 #[bptr bp] (W.drewN nn) fun e w' => e = .returned (.int .i64 p) ∧ PBox B w' bp (nextP ps').2 ∧ Fr (fun b => b = bp) W w') := ⟨fun nn => by
          obtain ⟨_, _, _, _, _, _, _, hPB, _⟩ := HS.out
          rw [hp]
          exact (next_any (hPB.keep (w' := W.drewN nn) (fun _ _ => rfl) (Nat.le_refl _))).mono fun e w' ⟨h1, h2, h3⟩ => ⟨h1, h2, h3.undrawn⟩⟩
        have HNE : Aside0 (¬ (cur.drop k).take (min (k + 64) E - k) = ((padTo f.2 E).drop k).take (min (k + 64) E - k)) := ⟨by
          have := HST.out
          rw [show min (k + 64) E - k = m from by omega]
          exact of_decide_eq_false HEB.out.symm⟩
        have HP := Aside0.mk hp
        clear hp
        by_cases hk1 : modR p 3 = 1
        · have q1 : (modR p 3 == (1 : Int)) = true := by simpa using hk1
          have SECN : min (k + secN (nextP ps').1) (min (k + 64) E) - k = min (k + 64) (min (k + 64) E) - k := by rw [← HP.out]; unfold secN; rw [if_pos hk1]
          have HSECN := Aside0.mk SECN
          clear SECN hk1
          go_wp2
          go_quiet ((go_at_call 45; exact Calls.quiet_of (HEQ.out _)))
          go_wp2_with (first | (go_at_call 28; refine (HNX.out _).mono ?_; rintro e w2 ⟨rfl, hpb, hf⟩; have HN2 := Aside0.mk (And.intro hpb hf); clear hpb hf) | (go_at_call 44; refine (mod_any (by decide) _).mono ?_; rintro e w' ⟨rfl, j, rfl⟩))
          have hR3s : RB w2 (fun b => w.heap.size ≤ b) (.slice (some ⟨g1, 0, none⟩) E cs) cur := by
            obtain ⟨_, _, _, _, hRs, _⟩ := HS.out
            exact hRs.same (fun b hb => HN2.out.2.block b (hRs.lt hb) (fun e => by have h1 := hRs.1 b hb; have := HPL.out; omega)) hRs.1
          have hR3e : RB w2 (fun b => w.heap.size ≤ b) (.slice (some ⟨g2, 0, none⟩) E ce) (padTo f.2 E) := by
            obtain ⟨_, _, _, _, _, hRe, _⟩ := HS.out
            exact hRe.same (fun b hb => HN2.out.2.block b (hRe.lt hb) (fun e => by have h1 := hRe.1 b hb; have := HPL.out; omega)) hRe.1
          have HR3 := Aside0.mk (And.intro hR3s hR3e)
          clear hR3s hR3e
          obtain ⟨d, hd⟩ : ∃ d : Nat, d = min (k + 64) (min (k + 64) E) - k := ⟨_, rfl⟩
          have hxn := hx64
          have hxn' : x64 = ((k + 64 : Nat) : Int) := by obtain ⟨hx, _⟩ := HS.out; rw [← hxn, IntKind.wrap_i64]; omega
          obtain ⟨mm, hmm⟩ : ∃ mm : Int, min x64 st = mm := ⟨_, rfl⟩
          have hmm' : mm = ((k + d : Nat) : Int) := by have := HST.out.2.1; rw [← hmm, hxn', HST.out.1, hd]; omega
          have hdE : k + d ≤ E := by have := HST.out; rw [hd]; omega
          have hcut3 : ∀ W : World, (Instr.slice 30 (.slice (some ⟨g1, 0, none⟩) E cs) (some (.int .i64 x)) (some (.int .i64 mm)) none).run Try.prog W = .ok (.slice (some ⟨g1, k, none⟩) d (cs - k)) W := by
            intro W
            obtain ⟨hx, _⟩ := HS.out
            have h1 := HST.out
            rw [hx, hmm', run_cut_mid (w := W) k (k + d) (by omega) (by omega) h1.2.2.1 (by omega) W, Nat.add_sub_cancel_left]
          have hcut4 : ∀ W : World, (Instr.slice 30 (.slice (some ⟨g2, 0, none⟩) E ce) (some (.int .i64 x)) none none).run Try.prog W = .ok (.slice (some ⟨g2, k, none⟩) (E - k) (ce - k)) W := by
            intro W
            obtain ⟨hx, _⟩ := HS.out
            have h1 := HST.out
            rw [hx, run_cut_from k (by omega) h1.2.2.2.1 (by omega) W]
          obtain ⟨hR3s, hR3e⟩ := HR3.out
          have HR3e := Aside0.mk hR3e
          obtain ⟨W4, hcopy, hR4, hg4⟩ := copyS hR3s hR3e (by obtain ⟨_, _, _, h, _⟩ := HS.out; exact h) HYL.out k d hdE
          have HC4 := Aside0.mk (And.intro hR4 (And.intro hg4 hd))
          clear hR4 hg4 hR3s hR3e hdE hd hxn' hmm'
          go_region
          go_wp2
          go_step3
          obtain ⟨hx, hkE, hsec, hcl, hRs, hRe, hap, hPB, hFr⟩ := HS.out
          obtain ⟨hR4, hg4, hd⟩ := HC4.out
          obtain ⟨hPB3, hFr3⟩ := HN2.out
          have hR3e' := HR3e.out
          have hs64 := HX64.out
          have hkx : k < E := by have := HST.out; omega
          refine ⟨rfl, ⟨some ⟨g1, 0, none⟩, cs, some ⟨g2, 0, none⟩, ce, x64, ⟨rfl, rfl, rfl, rfl, rfl, rfl, rfl, rfl, rfl, rfl, rfl, rfl⟩, k + 64, splice cur k (((padTo f.2 E).drop k).take d), (nextP ps').2, by rw [hs64, hx]; omega, by omega, ?_, ?_, ?_, ?_, hap, ?_, ?_⟩, ?_⟩
          · rw [← hsec, secs.eq_1 (padTo f.2 E) E k cur ps', if_pos hkx]
            have hsc : sector (padTo f.2 E) cur k (min (k + 64) E) ps' = (splice cur k (((padTo f.2 E).drop k).take d), (nextP ps').2) := by
              unfold sector
              rw [if_neg HNE.out, hd, HSECN.out]
            rw [hsc]
          · rw [length_splice _ _ _ (by simp [HYL.out]; omega)]; exact hcl
          · exact hR4.same (fun _ _ => rfl) hR4.1
          · exact hR3e'.same (fun b hb => hg4.block b (hR3e'.lt hb) (fun e => hap b (by rw [show (Value.slice (some ⟨g1, 0, none⟩) E cs).ownBlock = some g1 from rfl]; exact e.symm) hb)) hR3e'.1
          · exact hPB3.keep (fun b hb => hg4.block b (by have := hPB3.2.1; omega) (fun e => by have h1 := hRs.1 g1 rfl; have := Option.some.inj e; omega)) hg4.size
          · refine (hFr.trans (ok' := fun b => b = bp ∨ b = g1) ⟨hg4.os.trans hFr3.os, hg4.tape.trans hFr3.tape, hg4.output.trans hFr3.output, Nat.le_trans hFr3.size hg4.size, fun i hi hn => (hg4.block i (Nat.lt_of_lt_of_le hi hFr3.size) (fun e => hn (.inr (Option.some.inj e)))).trans (hFr3.block i hi (fun e => hn (.inl e)))⟩ (fun b hb => hb.imp id (fun e => by rw [e]; exact hRs.1 g1 rfl))).drewN _
          · show E + 64 - x64.toNat < E + 64 - x.toNat
            omega
        · have q1 : (modR p 3 == (1 : Int)) = false := by simpa using hk1
          by_cases hk2 : modR p 3 = 2
          · have q2 : (modR p 3 == (2 : Int)) = true := by simpa using hk2
            have SECN : min (k + secN (nextP ps').1) (min (k + 64) E) - k = min (k + (modR (modT p 3) 65).toNat) (min (k + 64) E) - k := by rw [← HP.out]; unfold secN; rw [if_neg hk1, if_pos hk2]
            have HSECN := Aside0.mk SECN
            have hrg := modR_range (p := modT p 3) (n := 65) (by omega) (by omega)
            clear SECN hk1 hk2
            go_wp2
            go_quiet ((go_at_call 45; exact Calls.quiet_of (HEQ.out _)))
            go_wp2_with (first | (go_at_call 28; refine (HNX.out _).mono ?_; rintro e w2 ⟨rfl, hpb, hf⟩; have HN2 := Aside0.mk (And.intro hpb hf); clear hpb hf) | (go_at_call 44; refine (mod_any (by decide) _).mono ?_; rintro e w' ⟨rfl, j, rfl⟩))
            have hR3s : RB w2 (fun b => w.heap.size ≤ b) (.slice (some ⟨g1, 0, none⟩) E cs) cur := by
              obtain ⟨_, _, _, _, hRs, _⟩ := HS.out
              exact hRs.same (fun b hb => HN2.out.2.block b (hRs.lt hb) (fun e => by have h1 := hRs.1 b hb; have := HPL.out; omega)) hRs.1
            have hR3e : RB w2 (fun b => w.heap.size ≤ b) (.slice (some ⟨g2, 0, none⟩) E ce) (padTo f.2 E) := by
              obtain ⟨_, _, _, _, _, hRe, _⟩ := HS.out
              exact hRe.same (fun b hb => HN2.out.2.block b (hRe.lt hb) (fun e => by have h1 := hRe.1 b hb; have := HPL.out; omega)) hRe.1
            have HR3 := Aside0.mk (And.intro hR3s hR3e)
            clear hR3s hR3e
            obtain ⟨d, hd⟩ : ∃ d : Nat, d = min (k + (modR (modT p 3) 65).toNat) (min (k + 64) E) - k := ⟨_, rfl⟩
            obtain ⟨xn, hxn⟩ : ∃ xn, IntKind.i64.wrap (x + (modR (modT p 3) 65)) = xn := ⟨_, rfl⟩
            have hxn' : xn = ((k + (modR (modT p 3) 65).toNat : Nat) : Int) := by obtain ⟨hx, _⟩ := HS.out; rw [← hxn, IntKind.wrap_i64]; omega
            obtain ⟨mm, hmm⟩ : ∃ mm : Int, min xn st = mm := ⟨_, rfl⟩
            have hmm' : mm = ((k + d : Nat) : Int) := by have := HST.out.2.1; rw [← hmm, hxn', HST.out.1, hd]; omega
            have hdE : k + d ≤ E := by have := HST.out; rw [hd]; omega
            have hcut3 : ∀ W : World, (Instr.slice 30 (.slice (some ⟨g1, 0, none⟩) E cs) (some (.int .i64 x)) (some (.int .i64 mm)) none).run Try.prog W = .ok (.slice (some ⟨g1, k, none⟩) d (cs - k)) W := by
              intro W
              obtain ⟨hx, _⟩ := HS.out
              have h1 := HST.out
              rw [hx, hmm', run_cut_mid (w := W) k (k + d) (by omega) (by omega) h1.2.2.1 (by omega) W, Nat.add_sub_cancel_left]
            have hcut4 : ∀ W : World, (Instr.slice 30 (.slice (some ⟨g2, 0, none⟩) E ce) (some (.int .i64 x)) none none).run Try.prog W = .ok (.slice (some ⟨g2, k, none⟩) (E - k) (ce - k)) W := by
              intro W
              obtain ⟨hx, _⟩ := HS.out
              have h1 := HST.out
              rw [hx, run_cut_from k (by omega) h1.2.2.2.1 (by omega) W]
            obtain ⟨hR3s, hR3e⟩ := HR3.out
            have HR3e := Aside0.mk hR3e
            obtain ⟨W4, hcopy, hR4, hg4⟩ := copyS hR3s hR3e (by obtain ⟨_, _, _, h, _⟩ := HS.out; exact h) HYL.out k d hdE
            have HC4 := Aside0.mk (And.intro hR4 (And.intro hg4 hd))
            clear hR4 hg4 hR3s hR3e hdE hd hxn' hmm'
            go_region
            go_wp2
            go_step3
            obtain ⟨hx, hkE, hsec, hcl, hRs, hRe, hap, hPB, hFr⟩ := HS.out
            obtain ⟨hR4, hg4, hd⟩ := HC4.out
            obtain ⟨hPB3, hFr3⟩ := HN2.out
            have hR3e' := HR3e.out
            have hs64 := HX64.out
            have hkx : k < E := by have := HST.out; omega
            refine ⟨rfl, ⟨some ⟨g1, 0, none⟩, cs, some ⟨g2, 0, none⟩, ce, x64, ⟨rfl, rfl, rfl, rfl, rfl, rfl, rfl, rfl, rfl, rfl, rfl, rfl⟩, k + 64, splice cur k (((padTo f.2 E).drop k).take d), (nextP ps').2, by rw [hs64, hx]; omega, by omega, ?_, ?_, ?_, ?_, hap, ?_, ?_⟩, ?_⟩
            · rw [← hsec, secs.eq_1 (padTo f.2 E) E k cur ps', if_pos hkx]
              have hsc : sector (padTo f.2 E) cur k (min (k + 64) E) ps' = (splice cur k (((padTo f.2 E).drop k).take d), (nextP ps').2) := by
                unfold sector
                rw [if_neg HNE.out, hd, HSECN.out]
              rw [hsc]
            · rw [length_splice _ _ _ (by simp [HYL.out]; omega)]; exact hcl
            · exact hR4.same (fun _ _ => rfl) hR4.1
            · exact hR3e'.same (fun b hb => hg4.block b (hR3e'.lt hb) (fun e => hap b (by rw [show (Value.slice (some ⟨g1, 0, none⟩) E cs).ownBlock = some g1 from rfl]; exact e.symm) hb)) hR3e'.1
            · exact hPB3.keep (fun b hb => hg4.block b (by have := hPB3.2.1; omega) (fun e => by have h1 := hRs.1 g1 rfl; have := Option.some.inj e; omega)) hg4.size
            · refine (hFr.trans (ok' := fun b => b = bp ∨ b = g1) ⟨hg4.os.trans hFr3.os, hg4.tape.trans hFr3.tape, hg4.output.trans hFr3.output, Nat.le_trans hFr3.size hg4.size, fun i hi hn => (hg4.block i (Nat.lt_of_lt_of_le hi hFr3.size) (fun e => hn (.inr (Option.some.inj e)))).trans (hFr3.block i hi (fun e => hn (.inl e)))⟩ (fun b hb => hb.imp id (fun e => by rw [e]; exact hRs.1 g1 rfl))).drewN _
            · show E + 64 - x64.toNat < E + 64 - x.toNat
              omega
          · have q2 : (modR p 3 == (2 : Int)) = false := by simpa using hk2
            have SECN : min (k + secN (nextP ps').1) (min (k + 64) E) - k = min (k + 0) (min (k + 64) E) - k := by rw [← HP.out]; unfold secN; rw [if_neg hk1, if_neg hk2]
            have HSECN := Aside0.mk SECN
            clear SECN hk1 hk2
            go_wp2
            go_quiet ((go_at_call 45; exact Calls.quiet_of (HEQ.out _)))
            go_wp2_with (first | (go_at_call 28; refine (HNX.out _).mono ?_; rintro e w2 ⟨rfl, hpb, hf⟩; have HN2 := Aside0.mk (And.intro hpb hf); clear hpb hf) | (go_at_call 44; refine (mod_any (by decide) _).mono ?_; rintro e w' ⟨rfl, j, rfl⟩))
            have hR3s : RB w2 (fun b => w.heap.size ≤ b) (.slice (some ⟨g1, 0, none⟩) E cs) cur := by
              obtain ⟨_, _, _, _, hRs, _⟩ := HS.out
              exact hRs.same (fun b hb => HN2.out.2.block b (hRs.lt hb) (fun e => by have h1 := hRs.1 b hb; have := HPL.out; omega)) hRs.1
            have hR3e : RB w2 (fun b => w.heap.size ≤ b) (.slice (some ⟨g2, 0, none⟩) E ce) (padTo f.2 E) := by
              obtain ⟨_, _, _, _, _, hRe, _⟩ := HS.out
              exact hRe.same (fun b hb => HN2.out.2.block b (hRe.lt hb) (fun e => by have h1 := hRe.1 b hb; have := HPL.out; omega)) hRe.1
            have HR3 := Aside0.mk (And.intro hR3s hR3e)
            clear hR3s hR3e
            obtain ⟨d, hd⟩ : ∃ d : Nat, d = min (k + 0) (min (k + 64) E) - k := ⟨_, rfl⟩
            obtain ⟨xn, hxn⟩ : ∃ xn, IntKind.i64.wrap x = xn := ⟨_, rfl⟩
            have hxn' : xn = ((k + 0 : Nat) : Int) := by obtain ⟨hx, _⟩ := HS.out; rw [← hxn, IntKind.wrap_i64]; omega
            obtain ⟨mm, hmm⟩ : ∃ mm : Int, min xn st = mm := ⟨_, rfl⟩
            have hmm' : mm = ((k + d : Nat) : Int) := by have := HST.out.2.1; rw [← hmm, hxn', HST.out.1, hd]; omega
            have hdE : k + d ≤ E := by have := HST.out; rw [hd]; omega
            have hcut3 : ∀ W : World, (Instr.slice 30 (.slice (some ⟨g1, 0, none⟩) E cs) (some (.int .i64 x)) (some (.int .i64 mm)) none).run Try.prog W = .ok (.slice (some ⟨g1, k, none⟩) d (cs - k)) W := by
              intro W
              obtain ⟨hx, _⟩ := HS.out
              have h1 := HST.out
              rw [hx, hmm', run_cut_mid (w := W) k (k + d) (by omega) (by omega) h1.2.2.1 (by omega) W, Nat.add_sub_cancel_left]
            have hcut4 : ∀ W : World, (Instr.slice 30 (.slice (some ⟨g2, 0, none⟩) E ce) (some (.int .i64 x)) none none).run Try.prog W = .ok (.slice (some ⟨g2, k, none⟩) (E - k) (ce - k)) W := by
              intro W
              obtain ⟨hx, _⟩ := HS.out
              have h1 := HST.out
              rw [hx, run_cut_from k (by omega) h1.2.2.2.1 (by omega) W]
            obtain ⟨hR3s, hR3e⟩ := HR3.out
            have HR3e := Aside0.mk hR3e
            obtain ⟨W4, hcopy, hR4, hg4⟩ := copyS hR3s hR3e (by obtain ⟨_, _, _, h, _⟩ := HS.out; exact h) HYL.out k d hdE
            have HC4 := Aside0.mk (And.intro hR4 (And.intro hg4 hd))
            clear hR4 hg4 hR3s hR3e hdE hd hxn' hmm'
            go_region
            go_wp2
            go_step3
            obtain ⟨hx, hkE, hsec, hcl, hRs, hRe, hap, hPB, hFr⟩ := HS.out
            obtain ⟨hR4, hg4, hd⟩ := HC4.out
            obtain ⟨hPB3, hFr3⟩ := HN2.out
            have hR3e' := HR3e.out
            have hs64 := HX64.out
            have hkx : k < E := by have := HST.out; omega
            refine ⟨rfl, ⟨some ⟨g1, 0, none⟩, cs, some ⟨g2, 0, none⟩, ce, x64, ⟨rfl, rfl, rfl, rfl, rfl, rfl, rfl, rfl, rfl, rfl, rfl, rfl⟩, k + 64, splice cur k (((padTo f.2 E).drop k).take d), (nextP ps').2, by rw [hs64, hx]; omega, by omega, ?_, ?_, ?_, ?_, hap, ?_, ?_⟩, ?_⟩
            · rw [← hsec, secs.eq_1 (padTo f.2 E) E k cur ps', if_pos hkx]
              have hsc : sector (padTo f.2 E) cur k (min (k + 64) E) ps' = (splice cur k (((padTo f.2 E).drop k).take d), (nextP ps').2) := by
                unfold sector
                rw [if_neg HNE.out, hd, HSECN.out]
              rw [hsc]
            · rw [length_splice _ _ _ (by simp [HYL.out]; omega)]; exact hcl
            · exact hR4.same (fun _ _ => rfl) hR4.1
            · exact hR3e'.same (fun b hb => hg4.block b (hR3e'.lt hb) (fun e => hap b (by rw [show (Value.slice (some ⟨g1, 0, none⟩) E cs).ownBlock = some g1 from rfl]; exact e.symm) hb)) hR3e'.1
            · exact hPB3.keep (fun b hb => hg4.block b (by have := hPB3.2.1; omega) (fun e => by have h1 := hRs.1 g1 rfl; have := Option.some.inj e; omega)) hg4.size
            · refine (hFr.trans (ok' := fun b => b = bp ∨ b = g1) ⟨hg4.os.trans hFr3.os, hg4.tape.trans hFr3.tape, hg4.output.trans hFr3.output, Nat.le_trans hFr3.size hg4.size, fun i hi hn => (hg4.block i (Nat.lt_of_lt_of_le hi hFr3.size) (fun e => hn (.inr (Option.some.inj e)))).trans (hFr3.block i hi (fun e => hn (.inl e)))⟩ (fun b hb => hb.imp id (fun e => by rw [e]; exact hRs.1 g1 rfl))).drewN _
            · show E + 64 - x64.toNat < E + 64 - x.toNat
              omega
    · have b1 : decide (x < (E : Int)) = false := decide_eq_false hlt
      have HS := Aside0.mk (And.intro hx (And.intro hkE (And.intro hsec (And.intro hcl (And.intro hRs (And.intro hRe (And.intro hap (And.intro hPB hFr))))))))
      clear hx hkE hsec hcl hRs hRe hap hPB hFr cg0 cg1
      have hmin : min (n : Int) (E : Int) = (n : Int) := by omega
      obtain ⟨hcutF, HLG⟩ : (∀ W' : World, (Instr.slice 30 (.slice As E cs) none (some (.int .i64 n)) (some (.int .i64 n))).run Try.prog W' = .ok (.slice As n n) W') ∧ Aside0 (Calls Try.prog 33 #[.slice As n n, .int .i64 n] W fun e w' => ∃ v', e = .returned v' ∧ RB w' (fun b => w.heap.size ≤ b) v' (fin.1.take n) ∧ Fr (fun b => (Value.slice As n n).ownBlock = some b) W w' ∧ (∀ b, (Value.slice As n n).ownBlock = some b → w.heap.size ≤ b ∧ b ≠ bp)) := by
        obtain ⟨hx, hkE, hsec, hcl, hRs, hRe, hap, hPB, hFr⟩ := HS.out
        obtain ⟨A', c', hv, hRk, hce⟩ := hRs.cut n (by omega)
        rw [hcl] at hv
        injection hv with hv1 _ hv2
        subst hv1
        subst hv2
        refine ⟨fun W' => run_slice_full As E cs n hnE (by omega) W', ⟨?_⟩⟩
        have hfc : fin.1 = cur := by rw [← hsec, secs.eq_1, if_neg (by omega)]
        rw [hfc]
        have hlen : (cur.take n).length = n := by simp; omega
        refine (longer_any n hRk (by omega) (by omega)).mono ?_
        rintro e w' ⟨v', rfl, h1, h2, h3⟩
        have hpt : padTo (cur.take n) n = cur.take n := by unfold padTo; rw [hlen]; simp
        rw [hpt] at h1
        refine ⟨v', rfl, h1.same (fun _ _ => rfl) (fun b hb => (h1.1 b hb).elim id (fun h => Nat.le_trans hFr.size h)), h2, fun b hb => ⟨hRk.1 b hb, ?_⟩⟩
        have h4 := HPL.out
        have h5 := hRk.1 b hb
        omega
      go_wp2_with (go_at_call 33; refine HLG.out.mono ?_; rintro e w' ⟨v', rfl, h1, h2, h3⟩; have HO := Aside0.mk (And.intro h1 (And.intro h2 h3)); clear h1 h2 h3)
      simp only [Exit.jump]
      go_ret
      obtain ⟨hx, hkE, hsec, hcl, hRs, hRe, hap, hPB, hFr⟩ := HS.out
      obtain ⟨h1, h2, h3⟩ := HO.out
      have hfp : fin.2 = ps' := by rw [← hsec, secs.eq_1, if_neg (by omega)]
      refine ⟨v', rfl, h1, ?_, ?_⟩
      · rw [hfp]
        exact hPB.keep (fun b hb => h2.block b (by have := hPB.2.1; omega) (fun e => by have := h3 b e; omega)) h2.size
      · refine hFr.trans h2 (fun b hb => ?_)
        exact .inr (h3 b hb).1
  · intro Hrest
    have HRest := Aside0.mk Hrest
    clear Hrest
    have hneq : ((L2 : Int) != (L1 : Int)) = decide (¬ L2 = L1) := by
      by_cases h : L2 = L1
      · subst h; simp
      · have : ¬ (L2 : Int) = (L1 : Int) := by omega
        simp [h, this]
    by_cases h12 : L2 = L1
    · have hb : ((L2 : Int) != (L1 : Int)) = false := by rw [hneq]; simp [h12]
      have HL := Aside0.mk (show n = L1 ∧ (lenF f ps).2 = ps from by
        obtain ⟨hn, _, q1, q2, _⟩ := HN.out
        have : lenF f ps = (f.1.length, ps) := by unfold lenF; rw [if_pos (by rw [q1, q2]; exact h12)]
        rw [hn, this]; exact ⟨q1, rfl⟩)
      clear hneq h12
      go_wp2
      go_region
      go_wp2
      go_region
      go_wp2
      have HCC : Aside0 (U8.C w A1 L1 f.1 ∧ U8.C w A2 L2 f.2) := ⟨by obtain ⟨_, h1, h2, _⟩ := HG.out; exact ⟨h1, h2⟩⟩
      have HCL : Aside0 (∀ (A : Option Addr) (L c : Nat) (l : Bytes), L ≤ 4194304 → U8.C w A L l → ∀ W, Below w.heap.size w W → Calls Try.prog 27 #[.slice A L c] W fun e w' => ∃ Ax cx, e = .returned (.slice Ax L cx) ∧ (RB w' (fun k => w.heap.size ≤ k) (.slice Ax L cx) l ∧ Below w.heap.size w w' ∧ Below W.heap.size W w' ∧ (∀ b, (Value.slice Ax L cx).ownBlock = some b → W.heap.size ≤ b)) ∧ (w'.cell? ⟨g, 0, none⟩ = some (.slice A1 L1 c1) ∧ w'.cell? ⟨g, 1, none⟩ = some (.slice A2 L2 c2))) := ⟨by
        intro A L c l hL hC W hb
        have hC2 : U8.C W A L l := Kd.C_below hC hb
        refine (clone_any A L c l W (by unfold roomy; omega) hC2).mono ?_
        rintro e w' ⟨v, rfl, h1, h2⟩
        obtain ⟨Ax, cx, hv⟩ := Kd.R_slice h1
        rw [hC.1] at hv
        subst hv
        exact ⟨Ax, cx, rfl, ⟨(RB.of_R h1).mono (fun k hk => Nat.le_trans hb.size hk), hb.trans (h2.mono hb.size), h2, h1.1⟩, ((hb.trans (h2.mono hb.size)).cell (World.block_lt_of_cell? _ _ cg0)).trans cg0, ((hb.trans (h2.mono hb.size)).cell (World.block_lt_of_cell? _ _ cg1)).trans cg1⟩⟩
      have HLL : Aside0 (∀ (W : World) (Ax : Option Addr) (cx L : Nat) (l : Bytes), (L ≤ 4194304 ∧ L ≤ E) → RB W (fun k => w.heap.size ≤ k) (.slice Ax L cx) l → ∀ {P1 : Prop} {P2 : Prop}, (Below w.heap.size w W ∧ P1 ∧ P2) → Calls Try.prog 33 #[.slice Ax L cx, .int .i64 E] W fun e w' => ∃ A' c', e = .returned (.slice A' E c') ∧ (RB w' (fun k => w.heap.size ≤ k) (.slice A' E c') (padTo l E) ∧ Below w.heap.size w w' ∧ Fr (fun b => (Value.slice Ax L cx).ownBlock = some b) W w' ∧ (∀ b, (Value.slice A' E c').ownBlock = some b → (Value.slice Ax L cx).ownBlock = some b ∨ W.heap.size ≤ b)) ∧ (w'.cell? ⟨g, 0, none⟩ = some (.slice A1 L1 c1) ∧ w'.cell? ⟨g, 1, none⟩ = some (.slice A2 L2 c2))) := ⟨by
        rintro W Ax cx L l ⟨hL, hLE⟩ hR P1 P2 ⟨hb, _, _⟩
        obtain ⟨A0', c0', hv, _, hCx⟩ := hR.reads
        have hll : l.length = L := by injection hv with _ h _; exact h.symm
        refine (longer_any E hR (by omega) (by omega)).mono ?_
        rintro e w' ⟨v', rfl, h1, h2, h3⟩
        obtain ⟨A', c', rfl⟩ := h1.slice
        have hpl : (padTo l E).length = E := by rw [padTo_length, hll]; exact Nat.max_eq_right hLE
        rw [hpl] at h1 h3 ⊢
        have hB' : Below w.heap.size w w' := ⟨h2.os.trans hb.os, h2.tape.trans hb.tape, h2.output.trans hb.output, Nat.le_trans hb.size h2.size, fun b hk => (h2.block b (Nat.lt_of_lt_of_le hk hb.size) (fun e => by have := hR.1 b e; omega)).trans (hb.block b hk)⟩
        refine ⟨A', c', rfl, ⟨h1.mono (fun b hk => hk.elim id (fun h => Nat.le_trans hb.size h)), hB', h2, h3⟩, (hB'.cell (World.block_lt_of_cell? _ _ cg0)).trans cg0, (hB'.cell (World.block_lt_of_cell? _ _ cg1)).trans cg1⟩⟩
      refine start_ (n := 16) (S := fun w' => w'.cell? ⟨g, 0, none⟩ = some (.slice A1 L1 c1) ∧ w'.cell? ⟨g, 1, none⟩ = some (.slice A2 L2 c2)) (ds := []) #[false, false, false, false, false, false, false, false, false, false, false, false, false, false, false, false] (by kernel_rfl) rfl rfl ⟨cg0, cg1⟩ (fun hHeld => ?_)
      refine pure_ (i := 0) (N := some 56) (v := ?_) (a' := ?_) #[true, false, false, false, false, false, false, false, false, false, false, false, false, false, false, false] rfl rfl (by kernel_rfl) (fun _ _ _ h => h) (Or.inl ⟨by rfl, ?_⟩) ?_ ?_
      rotate_left
      · intro w'
        go_simp
        with_reducible rfl
      rotate_left
      · simp only [Act.put, List.setIfInBounds_toArray, List.set_cons_zero, List.set_cons_succ, i64_w, i32_w]
        rfl
      refine pure_ (i := 1) (N := some 57) (v := ?_) (a' := ?_) #[true, true, false, false, false, false, false, false, false, false, false, false, false, false, false, false] rfl rfl (by kernel_rfl) (fun _ _ _ h => h) (Or.inl ⟨by rfl, ?_⟩) ?_ ?_
      rotate_left
      · intro w'
        go_simp
        with_reducible rfl
      rotate_left
      · simp only [Act.put, List.setIfInBounds_toArray, List.set_cons_zero, List.set_cons_succ, i64_w, i32_w]
        rfl
      refine pure_ (i := 2) (N := some 58) (v := ?_) (a' := ?_) #[true, true, true, false, false, false, false, false, false, false, false, false, false, false, false, false] rfl rfl (by kernel_rfl) (fun _ _ _ h => h) (Or.inl ⟨by rfl, ?_⟩) ?_ ?_
      rotate_left
      · intro w'
        go_simp
        with_reducible rfl
      rotate_left
      · simp only [Act.put, List.setIfInBounds_toArray, List.set_cons_zero, List.set_cons_succ, i64_w, i32_w]
        rfl
      refine take_ (i := 3) (N := some 59) (v := ?_) (a' := ?_) #[true, true, true, true, false, false, false, false, false, false, false, false, false, false, false, false] rfl rfl (by kernel_rfl) (fun _ _ _ h => h) (Or.inl ⟨by rfl, ?_⟩) hHeld ?_ ?_
      rotate_left
      · rintro w' ⟨s0, s1⟩
        go_simp
        with_reducible rfl
      rotate_left
      · simp only [Act.put, List.setIfInBounds_toArray, List.set_cons_zero, List.set_cons_succ, i64_w, i32_w]
        rfl
      refine pure_ (i := 5) (N := some 61) (v := ?_) (a' := ?_) #[true, true, true, true, false, true, false, false, false, false, false, false, false, false, false, false] rfl rfl (by kernel_rfl) (fun _ _ _ h => h) (Or.inl ⟨by rfl, ?_⟩) ?_ ?_
      rotate_left
      · intro w'
        go_simp
        with_reducible rfl
      rotate_left
      · simp only [Act.put, List.setIfInBounds_toArray, List.set_cons_zero, List.set_cons_succ, i64_w, i32_w]
        rfl
      refine pure_ (i := 7) (N := some 63) (v := ?_) (a' := ?_) #[true, true, true, true, false, true, false, true, false, false, false, false, false, false, false, false] rfl rfl (by kernel_rfl) (fun _ _ _ h => h) (Or.inl ⟨by rfl, ?_⟩) ?_ ?_
      rotate_left
      · intro w'
        go_simp
        with_reducible rfl
      rotate_left
      · simp only [Act.put, List.setIfInBounds_toArray, List.set_cons_zero, List.set_cons_succ, i64_w, i32_w]
        rfl
      refine pure_ (i := 8) (N := some 64) (v := ?_) (a' := ?_) #[true, true, true, true, false, true, false, true, true, false, false, false, false, false, false, false] rfl rfl (by kernel_rfl) (fun _ _ _ h => h) (Or.inl ⟨by rfl, ?_⟩) ?_ ?_
      rotate_left
      · intro w'
        go_simp
        with_reducible rfl
      rotate_left
      · simp only [Act.put, List.setIfInBounds_toArray, List.set_cons_zero, List.set_cons_succ, i64_w, i32_w]
        rfl
      refine pure_ (i := 9) (N := some 65) (v := ?_) (a' := ?_) #[true, true, true, true, false, true, false, true, true, true, false, false, false, false, false, false] rfl rfl (by kernel_rfl) (fun _ _ _ h => h) (Or.inl ⟨by rfl, ?_⟩) ?_ ?_
      rotate_left
      · intro w'
        go_simp
        with_reducible rfl
      rotate_left
      · simp only [Act.put, List.setIfInBounds_toArray, List.set_cons_zero, List.set_cons_succ, i64_w, i32_w]
        rfl
      refine take_ (i := 10) (N := some 66) (v := ?_) (a' := ?_) #[true, true, true, true, false, true, false, true, true, true, true, false, false, false, false, false] rfl rfl (by kernel_rfl) (fun _ _ _ h => h) (Or.inl ⟨by rfl, ?_⟩) hHeld ?_ ?_
      rotate_left
      · rintro w' ⟨s0, s1⟩
        go_simp
        with_reducible rfl
      rotate_left
      · simp only [Act.put, List.setIfInBounds_toArray, List.set_cons_zero, List.set_cons_succ, i64_w, i32_w]
        rfl
      refine pure_ (i := 12) (N := some 68) (v := ?_) (a' := ?_) #[true, true, true, true, false, true, false, true, true, true, true, false, true, false, false, false] rfl rfl (by kernel_rfl) (fun _ _ _ h => h) (Or.inl ⟨by rfl, ?_⟩) ?_ ?_
      rotate_left
      · intro w'
        go_simp
        with_reducible rfl
      rotate_left
      · simp only [Act.put, List.setIfInBounds_toArray, List.set_cons_zero, List.set_cons_succ, i64_w, i32_w]
        rfl
      refine one_ (i := 4) (N := some 60) #[true, true, true, true, true, true, false, true, true, true, true, false, true, false, false, false] rfl rfl (by kernel_rfl) (by decide) (fun K hK => ?_)
      refine goes_ Try.func27 (by kernel_rfl) rfl #[.slice A1 L1 c1] (by rfl) rfl rfl (by simp only [List.map_toArray, List.map_cons, List.map_nil]; rfl) ?_
      refine Calls.mono (HCL.out A1 L1 c1 f.1 hl1 HCC.out.1 _ ?_) ?_
      · exact ⟨rfl, rfl, rfl, Nat.le_refl _, fun _ _ => rfl⟩
      rintro e w3 ⟨Ak1, ck1, rfl, hqk1, hsk1⟩
      have HQk1 := Aside0.mk hqk1
      clear hqk1
      refine ⟨_, rfl, ?_⟩
      refine hK.out _ _ hsk1 (fun hHeld => ?_)
      clear hK K
      refine norm_ (a' := ?_) ?_ ?_
      rotate_left
      · show Act.put _ (some 60) _ = _
        simp only [Act.put, List.setIfInBounds_toArray, List.set_cons_zero, List.set_cons_succ, i64_w, i32_w]
        rfl
      refine one_ (i := 6) (N := some 62) #[true, true, true, true, true, true, true, true, true, true, true, false, true, false, false, false] rfl rfl (by kernel_rfl) (by decide) (fun K hK => ?_)
      refine goes_ Try.func33 (by kernel_rfl) rfl #[.slice Ak1 L1 ck1, .int .i64 E] (by rfl) rfl rfl (by simp only [List.map_toArray, List.map_cons, List.map_nil]; rfl) ?_
      refine (HLL.out _ Ak1 ck1 L1 f.1 ⟨hl1, hLE1⟩ HQk1.out.1 HQk1.out.2).mono ?_
      rintro e w4 ⟨Ag1x, cg1x, rfl, hqg1x, hsg1x⟩
      have HQg1x := Aside0.mk hqg1x
      clear hqg1x
      refine ⟨_, rfl, ?_⟩
      refine hK.out _ _ hsg1x (fun hHeld => ?_)
      clear hK K
      refine norm_ (a' := ?_) ?_ ?_
      rotate_left
      · show Act.put _ (some 62) _ = _
        simp only [Act.put, List.setIfInBounds_toArray, List.set_cons_zero, List.set_cons_succ, i64_w, i32_w]
        rfl
      refine one_ (i := 11) (N := some 67) #[true, true, true, true, true, true, true, true, true, true, true, true, true, false, false, false] rfl rfl (by kernel_rfl) (by decide) (fun K hK => ?_)
      refine goes_ Try.func27 (by kernel_rfl) rfl #[.slice A2 L2 c2] (by rfl) rfl rfl (by simp only [List.map_toArray, List.map_cons, List.map_nil]; rfl) ?_
      refine Calls.mono (HCL.out A2 L2 c2 f.2 hl2 HCC.out.2 _ ?_) ?_
      · exact HQg1x.out.2.1
      rintro e w5 ⟨Ak2, ck2, rfl, hqk2, hsk2⟩
      have HQk2 := Aside0.mk hqk2
      clear hqk2
      refine ⟨_, rfl, ?_⟩
      refine hK.out _ _ hsk2 (fun hHeld => ?_)
      clear hK K
      refine norm_ (a' := ?_) ?_ ?_
      rotate_left
      · show Act.put _ (some 67) _ = _
        simp only [Act.put, List.setIfInBounds_toArray, List.set_cons_zero, List.set_cons_succ, i64_w, i32_w]
        rfl
      refine one_ (i := 13) (N := some 69) #[true, true, true, true, true, true, true, true, true, true, true, true, true, true, false, false] rfl rfl (by kernel_rfl) (by decide) (fun K hK => ?_)
      refine goes_ Try.func33 (by kernel_rfl) rfl #[.slice Ak2 L2 ck2, .int .i64 E] (by rfl) rfl rfl (by simp only [List.map_toArray, List.map_cons, List.map_nil]; rfl) ?_
      refine (HLL.out _ Ak2 ck2 L2 f.2 ⟨hl2, hLE2⟩ HQk2.out.1 HQk2.out.2).mono ?_
      rintro e w6 ⟨Ag2x, cg2x, rfl, hqg2x, hsg2x⟩
      have HQg2x := Aside0.mk hqg2x
      clear hqg2x
      refine ⟨_, rfl, ?_⟩
      refine hK.out _ _ hsg2x (fun hHeld => ?_)
      clear hK K
      refine norm_ (a' := ?_) ?_ ?_
      rotate_left
      · show Act.put _ (some 69) _ = _
        simp only [Act.put, List.setIfInBounds_toArray, List.set_cons_zero, List.set_cons_succ, i64_w, i32_w]
        rfl
      refine pure_ (i := 14) (N := some 9) (v := ?_) (a' := ?_) #[true, true, true, true, true, true, true, true, true, true, true, true, true, true, true, false] rfl rfl (by kernel_rfl) (fun _ _ _ h => h) (Or.inl ⟨by rfl, ?_⟩) ?_ ?_
      rotate_left
      · intro w'
        go_simp
        with_reducible rfl
      rotate_left
      · simp only [Act.put, List.setIfInBounds_toArray, List.set_cons_zero, List.set_cons_succ, i64_w, i32_w]
        rfl
      refine pure_ (i := 15) (N := some 10) (v := ?_) (a' := ?_) #[true, true, true, true, true, true, true, true, true, true, true, true, true, true, true, true] rfl rfl (by kernel_rfl) (fun _ _ _ h => h) (Or.inl ⟨by rfl, ?_⟩) ?_ ?_
      rotate_left
      · intro w'
        go_simp
        with_reducible rfl
      rotate_left
      · simp only [Act.put, List.setIfInBounds_toArray, List.set_cons_zero, List.set_cons_succ, i64_w, i32_w]
        rfl
      refine done_ (by kernel_rfl) ?_
      go_wp2
      go_step3
      rename_i K0 hK0
      show K0 _ _
      refine hK0 _ _ ?_
      clear hK0 K0
      obtain ⟨hR6, hB6, hF6, hat6⟩ := HQg2x.out
      obtain ⟨hR5, hB5, hB45, hat5⟩ := HQk2.out
      obtain ⟨hR4, hB4, hF4, hat4⟩ := HQg1x.out
      have hw : w.heap.size ≤ w.heap.size := Nat.le_refl _
      obtain ⟨hnn, hfin, _, _, _⟩ := HN.out
      obtain ⟨hnv, hlr⟩ := HL.out
      have sz4 : w.heap.size ≤ w4.heap.size := hB4.size
      have hR4' : RB w6 (fun b => w.heap.size ≤ b) (.slice Ag1x E cg1x) (padTo f.1 E) := hR4.same (fun b hb => (hF6.block b (Nat.lt_of_lt_of_le (hR4.lt hb) hB45.size) (fun e => by have h1 := hat5 b e; have h2 := hR4.lt hb; omega)).trans (hB45.block b (hR4.lt hb))) (fun b hb => by have := hR4.1 b hb; omega)
      refine HRest.out _ _ ⟨Ag1x, cg1x, Ag2x, cg2x, 0, ⟨rfl, rfl, rfl, rfl, rfl, rfl, rfl, by rw [hnv]; rfl, rfl, rfl, rfl, rfl⟩, 0, padTo f.1 E, (lenF f ps).2, rfl, by omega, hfin.symm, ?_, hR4'.same (fun _ _ => rfl) hR4'.1, hR6.same (fun _ _ => rfl) (fun b hb => by have := hR6.1 b hb; omega), ?_, ?_, ?_⟩
      · obtain ⟨_, _, q1, _⟩ := HN.out
        rw [padTo_length, q1]; exact Nat.max_eq_right hLE1
      · intro b hb e
        have h1 := hR4.lt hb
        have h5 := hB45.size
        rcases hat6 b e with h | h
        · have := hat5 b h; omega
        · omega
      · rw [hlr]
        exact by obtain ⟨_, _, _, hP, _⟩ := HG.out; exact hP.keep (fun b hb => hB6.block b (by omega)) hB6.size
      · exact (Fr.of_below (ok := fun b => b = bp) hB6).drewN 0
    · have hb : ((L2 : Int) != (L1 : Int)) = true := by rw [hneq]; simp [h12]
      obtain ⟨p, hp⟩ : ∃ p, p = (nextP ps).1 := ⟨_, rfl⟩
      have HLF : Aside0 (lenF f ps = (if modR p 2 = 1 then L2 else L1, (nextP ps).2)) := ⟨by
        obtain ⟨hn, _, q1, q2, _⟩ := HN.out
        unfold lenF; rw [if_neg (by rw [q1, q2]; exact h12), q1, q2, hp]⟩
      have HNX : Aside0 (∀ nn, Calls Try.prog 28 #[bptr bp] (w.drewN nn) fun e w' => e = .returned (.int .i64 p) ∧ (PBox B w' bp (nextP ps).2 ∧ Fr (fun b => b = bp) w w') ∧ w'.cell? ⟨g, 0, none⟩ = some (.slice A1 L1 c1) ∧ w'.cell? ⟨g, 1, none⟩ = some (.slice A2 L2 c2)) := ⟨fun nn => by
        obtain ⟨hg, _, _, hP, hgb, _⟩ := HG.out
        rw [hp]
        refine (next_any (hP.keep (w' := w.drewN nn) (fun _ _ => rfl) (Nat.le_refl _))).mono ?_
        rintro e w' ⟨h1, h2, h3⟩
        replace h3 := h3.undrawn
        have h4 := h3.block g (heap_lt hg) hgb
        exact ⟨h1, ⟨h2, h3⟩, (World.cell?_of_block (a := ⟨g, 0, none⟩) h4).trans cg0, (World.cell?_of_block (a := ⟨g, 1, none⟩) h4).trans cg1⟩⟩
      clear hneq h12 hp
      by_cases hodd : modR p 2 = 1
      · have q1 : (modR p 2 == (1 : Int)) = true := by simpa using hodd
        have HL := Aside0.mk (show n = L2 ∧ (lenF f ps).2 = (nextP ps).2 from by
          obtain ⟨hn, _⟩ := HN.out
          rw [hn, HLF.out, if_pos hodd]; exact ⟨rfl, rfl⟩)
        clear hodd
        go_wp2
        go_region
        go_wp2_with (first | (go_at_call 28; refine (HNX.out _).mono ?_; rintro e w2 ⟨rfl, hpb, cg0', cg1'⟩; have HN2 := Aside0.mk hpb; clear hpb) | (go_at_call 44; refine (mod_any (by decide) _).mono ?_; rintro e w' ⟨rfl, j, rfl⟩))
        go_region
        go_wp2
        have HCC : Aside0 (U8.C w2 A1 L1 f.1 ∧ U8.C w2 A2 L2 f.2) := ⟨by obtain ⟨hg, h1, h2, _, _, hb1, hb2⟩ := HG.out; exact ⟨C_keep8 h1 (fun ad e hlt => HN2.out.2.block _ hlt (hb1 ad e)), C_keep8 h2 (fun ad e hlt => HN2.out.2.block _ hlt (hb2 ad e))⟩⟩
        have HCL : Aside0 (∀ (A : Option Addr) (L c : Nat) (l : Bytes), L ≤ 4194304 → U8.C w2 A L l → ∀ W, Below w2.heap.size w2 W → Calls Try.prog 27 #[.slice A L c] W fun e w' => ∃ Ax cx, e = .returned (.slice Ax L cx) ∧ (RB w' (fun k => w2.heap.size ≤ k) (.slice Ax L cx) l ∧ Below w2.heap.size w2 w' ∧ Below W.heap.size W w' ∧ (∀ b, (Value.slice Ax L cx).ownBlock = some b → W.heap.size ≤ b)) ∧ (w'.cell? ⟨g, 0, none⟩ = some (.slice A1 L1 c1) ∧ w'.cell? ⟨g, 1, none⟩ = some (.slice A2 L2 c2))) := ⟨by
          intro A L c l hL hC W hb
          have hC2 : U8.C W A L l := Kd.C_below hC hb
          refine (clone_any A L c l W (by unfold roomy; omega) hC2).mono ?_
          rintro e w' ⟨v, rfl, h1, h2⟩
          obtain ⟨Ax, cx, hv⟩ := Kd.R_slice h1
          rw [hC.1] at hv
          subst hv
          exact ⟨Ax, cx, rfl, ⟨(RB.of_R h1).mono (fun k hk => Nat.le_trans hb.size hk), hb.trans (h2.mono hb.size), h2, h1.1⟩, ((hb.trans (h2.mono hb.size)).cell (World.block_lt_of_cell? _ _ cg0')).trans cg0', ((hb.trans (h2.mono hb.size)).cell (World.block_lt_of_cell? _ _ cg1')).trans cg1'⟩⟩
        have HLL : Aside0 (∀ (W : World) (Ax : Option Addr) (cx L : Nat) (l : Bytes), (L ≤ 4194304 ∧ L ≤ E) → RB W (fun k => w2.heap.size ≤ k) (.slice Ax L cx) l → ∀ {P1 : Prop} {P2 : Prop}, (Below w2.heap.size w2 W ∧ P1 ∧ P2) → Calls Try.prog 33 #[.slice Ax L cx, .int .i64 E] W fun e w' => ∃ A' c', e = .returned (.slice A' E c') ∧ (RB w' (fun k => w2.heap.size ≤ k) (.slice A' E c') (padTo l E) ∧ Below w2.heap.size w2 w' ∧ Fr (fun b => (Value.slice Ax L cx).ownBlock = some b) W w' ∧ (∀ b, (Value.slice A' E c').ownBlock = some b → (Value.slice Ax L cx).ownBlock = some b ∨ W.heap.size ≤ b)) ∧ (w'.cell? ⟨g, 0, none⟩ = some (.slice A1 L1 c1) ∧ w'.cell? ⟨g, 1, none⟩ = some (.slice A2 L2 c2))) := ⟨by
          rintro W Ax cx L l ⟨hL, hLE⟩ hR P1 P2 ⟨hb, _, _⟩
          obtain ⟨A0', c0', hv, _, hCx⟩ := hR.reads
          have hll : l.length = L := by injection hv with _ h _; exact h.symm
          refine (longer_any E hR (by omega) (by omega)).mono ?_
          rintro e w' ⟨v', rfl, h1, h2, h3⟩
          obtain ⟨A', c', rfl⟩ := h1.slice
          have hpl : (padTo l E).length = E := by rw [padTo_length, hll]; exact Nat.max_eq_right hLE
          rw [hpl] at h1 h3 ⊢
          have hB' : Below w2.heap.size w2 w' := ⟨h2.os.trans hb.os, h2.tape.trans hb.tape, h2.output.trans hb.output, Nat.le_trans hb.size h2.size, fun b hk => (h2.block b (Nat.lt_of_lt_of_le hk hb.size) (fun e => by have := hR.1 b e; omega)).trans (hb.block b hk)⟩
          refine ⟨A', c', rfl, ⟨h1.mono (fun b hk => hk.elim id (fun h => Nat.le_trans hb.size h)), hB', h2, h3⟩, (hB'.cell (World.block_lt_of_cell? _ _ cg0')).trans cg0', (hB'.cell (World.block_lt_of_cell? _ _ cg1')).trans cg1'⟩⟩
        refine start_ (n := 16) (S := fun w' => w'.cell? ⟨g, 0, none⟩ = some (.slice A1 L1 c1) ∧ w'.cell? ⟨g, 1, none⟩ = some (.slice A2 L2 c2)) (ds := []) #[false, false, false, false, false, false, false, false, false, false, false, false, false, false, false, false] (by kernel_rfl) rfl rfl ⟨cg0', cg1'⟩ (fun hHeld => ?_)
        refine pure_ (i := 0) (N := some 56) (v := ?_) (a' := ?_) #[true, false, false, false, false, false, false, false, false, false, false, false, false, false, false, false] rfl rfl (by kernel_rfl) (fun _ _ _ h => h) (Or.inl ⟨by rfl, ?_⟩) ?_ ?_
        rotate_left
        · intro w'
          go_simp
          with_reducible rfl
        rotate_left
        · simp only [Act.put, List.setIfInBounds_toArray, List.set_cons_zero, List.set_cons_succ, i64_w, i32_w]
          rfl
        refine pure_ (i := 1) (N := some 57) (v := ?_) (a' := ?_) #[true, true, false, false, false, false, false, false, false, false, false, false, false, false, false, false] rfl rfl (by kernel_rfl) (fun _ _ _ h => h) (Or.inl ⟨by rfl, ?_⟩) ?_ ?_
        rotate_left
        · intro w'
          go_simp
          with_reducible rfl
        rotate_left
        · simp only [Act.put, List.setIfInBounds_toArray, List.set_cons_zero, List.set_cons_succ, i64_w, i32_w]
          rfl
        refine pure_ (i := 2) (N := some 58) (v := ?_) (a' := ?_) #[true, true, true, false, false, false, false, false, false, false, false, false, false, false, false, false] rfl rfl (by kernel_rfl) (fun _ _ _ h => h) (Or.inl ⟨by rfl, ?_⟩) ?_ ?_
        rotate_left
        · intro w'
          go_simp
          with_reducible rfl
        rotate_left
        · simp only [Act.put, List.setIfInBounds_toArray, List.set_cons_zero, List.set_cons_succ, i64_w, i32_w]
          rfl
        refine take_ (i := 3) (N := some 59) (v := ?_) (a' := ?_) #[true, true, true, true, false, false, false, false, false, false, false, false, false, false, false, false] rfl rfl (by kernel_rfl) (fun _ _ _ h => h) (Or.inl ⟨by rfl, ?_⟩) hHeld ?_ ?_
        rotate_left
        · rintro w' ⟨s0, s1⟩
          go_simp
          with_reducible rfl
        rotate_left
        · simp only [Act.put, List.setIfInBounds_toArray, List.set_cons_zero, List.set_cons_succ, i64_w, i32_w]
          rfl
        refine pure_ (i := 5) (N := some 61) (v := ?_) (a' := ?_) #[true, true, true, true, false, true, false, false, false, false, false, false, false, false, false, false] rfl rfl (by kernel_rfl) (fun _ _ _ h => h) (Or.inl ⟨by rfl, ?_⟩) ?_ ?_
        rotate_left
        · intro w'
          go_simp
          with_reducible rfl
        rotate_left
        · simp only [Act.put, List.setIfInBounds_toArray, List.set_cons_zero, List.set_cons_succ, i64_w, i32_w]
          rfl
        refine pure_ (i := 7) (N := some 63) (v := ?_) (a' := ?_) #[true, true, true, true, false, true, false, true, false, false, false, false, false, false, false, false] rfl rfl (by kernel_rfl) (fun _ _ _ h => h) (Or.inl ⟨by rfl, ?_⟩) ?_ ?_
        rotate_left
        · intro w'
          go_simp
          with_reducible rfl
        rotate_left
        · simp only [Act.put, List.setIfInBounds_toArray, List.set_cons_zero, List.set_cons_succ, i64_w, i32_w]
          rfl
        refine pure_ (i := 8) (N := some 64) (v := ?_) (a' := ?_) #[true, true, true, true, false, true, false, true, true, false, false, false, false, false, false, false] rfl rfl (by kernel_rfl) (fun _ _ _ h => h) (Or.inl ⟨by rfl, ?_⟩) ?_ ?_
        rotate_left
        · intro w'
          go_simp
          with_reducible rfl
        rotate_left
        · simp only [Act.put, List.setIfInBounds_toArray, List.set_cons_zero, List.set_cons_succ, i64_w, i32_w]
          rfl
        refine pure_ (i := 9) (N := some 65) (v := ?_) (a' := ?_) #[true, true, true, true, false, true, false, true, true, true, false, false, false, false, false, false] rfl rfl (by kernel_rfl) (fun _ _ _ h => h) (Or.inl ⟨by rfl, ?_⟩) ?_ ?_
        rotate_left
        · intro w'
          go_simp
          with_reducible rfl
        rotate_left
        · simp only [Act.put, List.setIfInBounds_toArray, List.set_cons_zero, List.set_cons_succ, i64_w, i32_w]
          rfl
        refine take_ (i := 10) (N := some 66) (v := ?_) (a' := ?_) #[true, true, true, true, false, true, false, true, true, true, true, false, false, false, false, false] rfl rfl (by kernel_rfl) (fun _ _ _ h => h) (Or.inl ⟨by rfl, ?_⟩) hHeld ?_ ?_
        rotate_left
        · rintro w' ⟨s0, s1⟩
          go_simp
          with_reducible rfl
        rotate_left
        · simp only [Act.put, List.setIfInBounds_toArray, List.set_cons_zero, List.set_cons_succ, i64_w, i32_w]
          rfl
        refine pure_ (i := 12) (N := some 68) (v := ?_) (a' := ?_) #[true, true, true, true, false, true, false, true, true, true, true, false, true, false, false, false] rfl rfl (by kernel_rfl) (fun _ _ _ h => h) (Or.inl ⟨by rfl, ?_⟩) ?_ ?_
        rotate_left
        · intro w'
          go_simp
          with_reducible rfl
        rotate_left
        · simp only [Act.put, List.setIfInBounds_toArray, List.set_cons_zero, List.set_cons_succ, i64_w, i32_w]
          rfl
        refine one_ (i := 4) (N := some 60) #[true, true, true, true, true, true, false, true, true, true, true, false, true, false, false, false] rfl rfl (by kernel_rfl) (by decide) (fun K hK => ?_)
        refine goes_ Try.func27 (by kernel_rfl) rfl #[.slice A1 L1 c1] (by rfl) rfl rfl (by simp only [List.map_toArray, List.map_cons, List.map_nil]; rfl) ?_
        refine Calls.mono (HCL.out A1 L1 c1 f.1 hl1 HCC.out.1 _ ?_) ?_
        · exact ⟨rfl, rfl, rfl, Nat.le_refl _, fun _ _ => rfl⟩
        rintro e w3 ⟨Ak1, ck1, rfl, hqk1, hsk1⟩
        have HQk1 := Aside0.mk hqk1
        clear hqk1
        refine ⟨_, rfl, ?_⟩
        refine hK.out _ _ hsk1 (fun hHeld => ?_)
        clear hK K
        refine norm_ (a' := ?_) ?_ ?_
        rotate_left
        · show Act.put _ (some 60) _ = _
          simp only [Act.put, List.setIfInBounds_toArray, List.set_cons_zero, List.set_cons_succ, i64_w, i32_w]
          rfl
        refine one_ (i := 6) (N := some 62) #[true, true, true, true, true, true, true, true, true, true, true, false, true, false, false, false] rfl rfl (by kernel_rfl) (by decide) (fun K hK => ?_)
        refine goes_ Try.func33 (by kernel_rfl) rfl #[.slice Ak1 L1 ck1, .int .i64 E] (by rfl) rfl rfl (by simp only [List.map_toArray, List.map_cons, List.map_nil]; rfl) ?_
        refine (HLL.out _ Ak1 ck1 L1 f.1 ⟨hl1, hLE1⟩ HQk1.out.1 HQk1.out.2).mono ?_
        rintro e w4 ⟨Ag1x, cg1x, rfl, hqg1x, hsg1x⟩
        have HQg1x := Aside0.mk hqg1x
        clear hqg1x
        refine ⟨_, rfl, ?_⟩
        refine hK.out _ _ hsg1x (fun hHeld => ?_)
        clear hK K
        refine norm_ (a' := ?_) ?_ ?_
        rotate_left
        · show Act.put _ (some 62) _ = _
          simp only [Act.put, List.setIfInBounds_toArray, List.set_cons_zero, List.set_cons_succ, i64_w, i32_w]
          rfl
        refine one_ (i := 11) (N := some 67) #[true, true, true, true, true, true, true, true, true, true, true, true, true, false, false, false] rfl rfl (by kernel_rfl) (by decide) (fun K hK => ?_)
        refine goes_ Try.func27 (by kernel_rfl) rfl #[.slice A2 L2 c2] (by rfl) rfl rfl (by simp only [List.map_toArray, List.map_cons, List.map_nil]; rfl) ?_
        refine Calls.mono (HCL.out A2 L2 c2 f.2 hl2 HCC.out.2 _ ?_) ?_
        · exact HQg1x.out.2.1
        rintro e w5 ⟨Ak2, ck2, rfl, hqk2, hsk2⟩
        have HQk2 := Aside0.mk hqk2
        clear hqk2
        refine ⟨_, rfl, ?_⟩
        refine hK.out _ _ hsk2 (fun hHeld => ?_)
        clear hK K
        refine norm_ (a' := ?_) ?_ ?_
        rotate_left
        · show Act.put _ (some 67) _ = _
          simp only [Act.put, List.setIfInBounds_toArray, List.set_cons_zero, List.set_cons_succ, i64_w, i32_w]
          rfl
        refine one_ (i := 13) (N := some 69) #[true, true, true, true, true, true, true, true, true, true, true, true, true, true, false, false] rfl rfl (by kernel_rfl) (by decide) (fun K hK => ?_)
        refine goes_ Try.func33 (by kernel_rfl) rfl #[.slice Ak2 L2 ck2, .int .i64 E] (by rfl) rfl rfl (by simp only [List.map_toArray, List.map_cons, List.map_nil]; rfl) ?_
        refine (HLL.out _ Ak2 ck2 L2 f.2 ⟨hl2, hLE2⟩ HQk2.out.1 HQk2.out.2).mono ?_
        rintro e w6 ⟨Ag2x, cg2x, rfl, hqg2x, hsg2x⟩
        have HQg2x := Aside0.mk hqg2x
        clear hqg2x
        refine ⟨_, rfl, ?_⟩
        refine hK.out _ _ hsg2x (fun hHeld => ?_)
        clear hK K
        refine norm_ (a' := ?_) ?_ ?_
        rotate_left
        · show Act.put _ (some 69) _ = _
          simp only [Act.put, List.setIfInBounds_toArray, List.set_cons_zero, List.set_cons_succ, i64_w, i32_w]
          rfl
        refine pure_ (i := 14) (N := some 9) (v := ?_) (a' := ?_) #[true, true, true, true, true, true, true, true, true, true, true, true, true, true, true, false] rfl rfl (by kernel_rfl) (fun _ _ _ h => h) (Or.inl ⟨by rfl, ?_⟩) ?_ ?_
        rotate_left
        · intro w'
          go_simp
          with_reducible rfl
        rotate_left
        · simp only [Act.put, List.setIfInBounds_toArray, List.set_cons_zero, List.set_cons_succ, i64_w, i32_w]
          rfl
        refine pure_ (i := 15) (N := some 10) (v := ?_) (a' := ?_) #[true, true, true, true, true, true, true, true, true, true, true, true, true, true, true, true] rfl rfl (by kernel_rfl) (fun _ _ _ h => h) (Or.inl ⟨by rfl, ?_⟩) ?_ ?_
        rotate_left
        · intro w'
          go_simp
          with_reducible rfl
        rotate_left
        · simp only [Act.put, List.setIfInBounds_toArray, List.set_cons_zero, List.set_cons_succ, i64_w, i32_w]
          rfl
        refine done_ (by kernel_rfl) ?_
        go_wp2
        go_step3
        rename_i K0 hK0
        show K0 _ _
        refine hK0 _ _ ?_
        clear hK0 K0
        obtain ⟨hR6, hB6, hF6, hat6⟩ := HQg2x.out
        obtain ⟨hR5, hB5, hB45, hat5⟩ := HQk2.out
        obtain ⟨hR4, hB4, hF4, hat4⟩ := HQg1x.out
        have hw2 : w.heap.size ≤ w2.heap.size := HN2.out.2.size
        obtain ⟨hnn, hfin, _, _, _⟩ := HN.out
        obtain ⟨hnv, hlr⟩ := HL.out
        have sz4 : w2.heap.size ≤ w4.heap.size := hB4.size
        have hR4' : RB w6 (fun b => w.heap.size ≤ b) (.slice Ag1x E cg1x) (padTo f.1 E) := hR4.same (fun b hb => (hF6.block b (Nat.lt_of_lt_of_le (hR4.lt hb) hB45.size) (fun e => by have h1 := hat5 b e; have h2 := hR4.lt hb; omega)).trans (hB45.block b (hR4.lt hb))) (fun b hb => by have := hR4.1 b hb; omega)
        refine HRest.out _ _ ⟨Ag1x, cg1x, Ag2x, cg2x, 0, ⟨rfl, rfl, rfl, rfl, rfl, rfl, rfl, by rw [hnv]; rfl, rfl, rfl, rfl, rfl⟩, 0, padTo f.1 E, (lenF f ps).2, rfl, by omega, hfin.symm, ?_, hR4'.same (fun _ _ => rfl) hR4'.1, hR6.same (fun _ _ => rfl) (fun b hb => by have := hR6.1 b hb; omega), ?_, ?_, ?_⟩
        · obtain ⟨_, _, q1, _⟩ := HN.out
          rw [padTo_length, q1]; exact Nat.max_eq_right hLE1
        · intro b hb e
          have h1 := hR4.lt hb
          have h5 := hB45.size
          rcases hat6 b e with h | h
          · have := hat5 b h; omega
          · omega
        · rw [hlr]
          exact HN2.out.1.keep (fun b hb => hB6.block b (by omega)) hB6.size
        · exact (HN2.out.2.trans (Fr.of_below (ok := fun _ => False) hB6) (fun b hb => hb.elim)).drewN 0
      · have q1 : (modR p 2 == (1 : Int)) = false := by simpa using hodd
        have HL := Aside0.mk (show n = L1 ∧ (lenF f ps).2 = (nextP ps).2 from by
          obtain ⟨hn, _⟩ := HN.out
          rw [hn, HLF.out, if_neg hodd]; exact ⟨rfl, rfl⟩)
        clear hodd
        go_wp2
        go_region
        go_wp2_with (first | (go_at_call 28; refine (HNX.out _).mono ?_; rintro e w2 ⟨rfl, hpb, cg0', cg1'⟩; have HN2 := Aside0.mk hpb; clear hpb) | (go_at_call 44; refine (mod_any (by decide) _).mono ?_; rintro e w' ⟨rfl, j, rfl⟩))
        go_region
        go_wp2
        have HCC : Aside0 (U8.C w2 A1 L1 f.1 ∧ U8.C w2 A2 L2 f.2) := ⟨by obtain ⟨hg, h1, h2, _, _, hb1, hb2⟩ := HG.out; exact ⟨C_keep8 h1 (fun ad e hlt => HN2.out.2.block _ hlt (hb1 ad e)), C_keep8 h2 (fun ad e hlt => HN2.out.2.block _ hlt (hb2 ad e))⟩⟩
        have HCL : Aside0 (∀ (A : Option Addr) (L c : Nat) (l : Bytes), L ≤ 4194304 → U8.C w2 A L l → ∀ W, Below w2.heap.size w2 W → Calls Try.prog 27 #[.slice A L c] W fun e w' => ∃ Ax cx, e = .returned (.slice Ax L cx) ∧ (RB w' (fun k => w2.heap.size ≤ k) (.slice Ax L cx) l ∧ Below w2.heap.size w2 w' ∧ Below W.heap.size W w' ∧ (∀ b, (Value.slice Ax L cx).ownBlock = some b → W.heap.size ≤ b)) ∧ (w'.cell? ⟨g, 0, none⟩ = some (.slice A1 L1 c1) ∧ w'.cell? ⟨g, 1, none⟩ = some (.slice A2 L2 c2))) := ⟨by
          intro A L c l hL hC W hb
          have hC2 : U8.C W A L l := Kd.C_below hC hb
          refine (clone_any A L c l W (by unfold roomy; omega) hC2).mono ?_
          rintro e w' ⟨v, rfl, h1, h2⟩
          obtain ⟨Ax, cx, hv⟩ := Kd.R_slice h1
          rw [hC.1] at hv
          subst hv
          exact ⟨Ax, cx, rfl, ⟨(RB.of_R h1).mono (fun k hk => Nat.le_trans hb.size hk), hb.trans (h2.mono hb.size), h2, h1.1⟩, ((hb.trans (h2.mono hb.size)).cell (World.block_lt_of_cell? _ _ cg0')).trans cg0', ((hb.trans (h2.mono hb.size)).cell (World.block_lt_of_cell? _ _ cg1')).trans cg1'⟩⟩
        have HLL : Aside0 (∀ (W : World) (Ax : Option Addr) (cx L : Nat) (l : Bytes), (L ≤ 4194304 ∧ L ≤ E) → RB W (fun k => w2.heap.size ≤ k) (.slice Ax L cx) l → ∀ {P1 : Prop} {P2 : Prop}, (Below w2.heap.size w2 W ∧ P1 ∧ P2) → Calls Try.prog 33 #[.slice Ax L cx, .int .i64 E] W fun e w' => ∃ A' c', e = .returned (.slice A' E c') ∧ (RB w' (fun k => w2.heap.size ≤ k) (.slice A' E c') (padTo l E) ∧ Below w2.heap.size w2 w' ∧ Fr (fun b => (Value.slice Ax L cx).ownBlock = some b) W w' ∧ (∀ b, (Value.slice A' E c').ownBlock = some b → (Value.slice Ax L cx).ownBlock = some b ∨ W.heap.size ≤ b)) ∧ (w'.cell? ⟨g, 0, none⟩ = some (.slice A1 L1 c1) ∧ w'.cell? ⟨g, 1, none⟩ = some (.slice A2 L2 c2))) := ⟨by
          rintro W Ax cx L l ⟨hL, hLE⟩ hR P1 P2 ⟨hb, _, _⟩
          obtain ⟨A0', c0', hv, _, hCx⟩ := hR.reads
          have hll : l.length = L := by injection hv with _ h _; exact h.symm
          refine (longer_any E hR (by omega) (by omega)).mono ?_
          rintro e w' ⟨v', rfl, h1, h2, h3⟩
          obtain ⟨A', c', rfl⟩ := h1.slice
          have hpl : (padTo l E).length = E := by rw [padTo_length, hll]; exact Nat.max_eq_right hLE
          rw [hpl] at h1 h3 ⊢
          have hB' : Below w2.heap.size w2 w' := ⟨h2.os.trans hb.os, h2.tape.trans hb.tape, h2.output.trans hb.output, Nat.le_trans hb.size h2.size, fun b hk => (h2.block b (Nat.lt_of_lt_of_le hk hb.size) (fun e => by have := hR.1 b e; omega)).trans (hb.block b hk)⟩
          refine ⟨A', c', rfl, ⟨h1.mono (fun b hk => hk.elim id (fun h => Nat.le_trans hb.size h)), hB', h2, h3⟩, (hB'.cell (World.block_lt_of_cell? _ _ cg0')).trans cg0', (hB'.cell (World.block_lt_of_cell? _ _ cg1')).trans cg1'⟩⟩
        refine start_ (n := 16) (S := fun w' => w'.cell? ⟨g, 0, none⟩ = some (.slice A1 L1 c1) ∧ w'.cell? ⟨g, 1, none⟩ = some (.slice A2 L2 c2)) (ds := []) #[false, false, false, false, false, false, false, false, false, false, false, false, false, false, false, false] (by kernel_rfl) rfl rfl ⟨cg0', cg1'⟩ (fun hHeld => ?_)
        refine pure_ (i := 0) (N := some 56) (v := ?_) (a' := ?_) #[true, false, false, false, false, false, false, false, false, false, false, false, false, false, false, false] rfl rfl (by kernel_rfl) (fun _ _ _ h => h) (Or.inl ⟨by rfl, ?_⟩) ?_ ?_
        rotate_left
        · intro w'
          go_simp
          with_reducible rfl
        rotate_left
        · simp only [Act.put, List.setIfInBounds_toArray, List.set_cons_zero, List.set_cons_succ, i64_w, i32_w]
          rfl
        refine pure_ (i := 1) (N := some 57) (v := ?_) (a' := ?_) #[true, true, false, false, false, false, false, false, false, false, false, false, false, false, false, false] rfl rfl (by kernel_rfl) (fun _ _ _ h => h) (Or.inl ⟨by rfl, ?_⟩) ?_ ?_
        rotate_left
        · intro w'
          go_simp
          with_reducible rfl
        rotate_left
        · simp only [Act.put, List.setIfInBounds_toArray, List.set_cons_zero, List.set_cons_succ, i64_w, i32_w]
          rfl
        refine pure_ (i := 2) (N := some 58) (v := ?_) (a' := ?_) #[true, true, true, false, false, false, false, false, false, false, false, false, false, false, false, false] rfl rfl (by kernel_rfl) (fun _ _ _ h => h) (Or.inl ⟨by rfl, ?_⟩) ?_ ?_
        rotate_left
        · intro w'
          go_simp
          with_reducible rfl
        rotate_left
        · simp only [Act.put, List.setIfInBounds_toArray, List.set_cons_zero, List.set_cons_succ, i64_w, i32_w]
          rfl
        refine take_ (i := 3) (N := some 59) (v := ?_) (a' := ?_) #[true, true, true, true, false, false, false, false, false, false, false, false, false, false, false, false] rfl rfl (by kernel_rfl) (fun _ _ _ h => h) (Or.inl ⟨by rfl, ?_⟩) hHeld ?_ ?_
        rotate_left
        · rintro w' ⟨s0, s1⟩
          go_simp
          with_reducible rfl
        rotate_left
        · simp only [Act.put, List.setIfInBounds_toArray, List.set_cons_zero, List.set_cons_succ, i64_w, i32_w]
          rfl
        refine pure_ (i := 5) (N := some 61) (v := ?_) (a' := ?_) #[true, true, true, true, false, true, false, false, false, false, false, false, false, false, false, false] rfl rfl (by kernel_rfl) (fun _ _ _ h => h) (Or.inl ⟨by rfl, ?_⟩) ?_ ?_
        rotate_left
        · intro w'
          go_simp
          with_reducible rfl
        rotate_left
        · simp only [Act.put, List.setIfInBounds_toArray, List.set_cons_zero, List.set_cons_succ, i64_w, i32_w]
          rfl
        refine pure_ (i := 7) (N := some 63) (v := ?_) (a' := ?_) #[true, true, true, true, false, true, false, true, false, false, false, false, false, false, false, false] rfl rfl (by kernel_rfl) (fun _ _ _ h => h) (Or.inl ⟨by rfl, ?_⟩) ?_ ?_
        rotate_left
        · intro w'
          go_simp
          with_reducible rfl
        rotate_left
        · simp only [Act.put, List.setIfInBounds_toArray, List.set_cons_zero, List.set_cons_succ, i64_w, i32_w]
          rfl
        refine pure_ (i := 8) (N := some 64) (v := ?_) (a' := ?_) #[true, true, true, true, false, true, false, true, true, false, false, false, false, false, false, false] rfl rfl (by kernel_rfl) (fun _ _ _ h => h) (Or.inl ⟨by rfl, ?_⟩) ?_ ?_
        rotate_left
        · intro w'
          go_simp
          with_reducible rfl
        rotate_left
        · simp only [Act.put, List.setIfInBounds_toArray, List.set_cons_zero, List.set_cons_succ, i64_w, i32_w]
          rfl
        refine pure_ (i := 9) (N := some 65) (v := ?_) (a' := ?_) #[true, true, true, true, false, true, false, true, true, true, false, false, false, false, false, false] rfl rfl (by kernel_rfl) (fun _ _ _ h => h) (Or.inl ⟨by rfl, ?_⟩) ?_ ?_
        rotate_left
        · intro w'
          go_simp
          with_reducible rfl
        rotate_left
        · simp only [Act.put, List.setIfInBounds_toArray, List.set_cons_zero, List.set_cons_succ, i64_w, i32_w]
          rfl
        refine take_ (i := 10) (N := some 66) (v := ?_) (a' := ?_) #[true, true, true, true, false, true, false, true, true, true, true, false, false, false, false, false] rfl rfl (by kernel_rfl) (fun _ _ _ h => h) (Or.inl ⟨by rfl, ?_⟩) hHeld ?_ ?_
        rotate_left
        · rintro w' ⟨s0, s1⟩
          go_simp
          with_reducible rfl
        rotate_left
        · simp only [Act.put, List.setIfInBounds_toArray, List.set_cons_zero, List.set_cons_succ, i64_w, i32_w]
          rfl
        refine pure_ (i := 12) (N := some 68) (v := ?_) (a' := ?_) #[true, true, true, true, false, true, false, true, true, true, true, false, true, false, false, false] rfl rfl (by kernel_rfl) (fun _ _ _ h => h) (Or.inl ⟨by rfl, ?_⟩) ?_ ?_
        rotate_left
        · intro w'
          go_simp
          with_reducible rfl
        rotate_left
        · simp only [Act.put, List.setIfInBounds_toArray, List.set_cons_zero, List.set_cons_succ, i64_w, i32_w]
          rfl
        refine one_ (i := 4) (N := some 60) #[true, true, true, true, true, true, false, true, true, true, true, false, true, false, false, false] rfl rfl (by kernel_rfl) (by decide) (fun K hK => ?_)
        refine goes_ Try.func27 (by kernel_rfl) rfl #[.slice A1 L1 c1] (by rfl) rfl rfl (by simp only [List.map_toArray, List.map_cons, List.map_nil]; rfl) ?_
        refine Calls.mono (HCL.out A1 L1 c1 f.1 hl1 HCC.out.1 _ ?_) ?_
        · exact ⟨rfl, rfl, rfl, Nat.le_refl _, fun _ _ => rfl⟩
        rintro e w3 ⟨Ak1, ck1, rfl, hqk1, hsk1⟩
        have HQk1 := Aside0.mk hqk1
        clear hqk1
        refine ⟨_, rfl, ?_⟩
        refine hK.out _ _ hsk1 (fun hHeld => ?_)
        clear hK K
        refine norm_ (a' := ?_) ?_ ?_
        rotate_left
        · show Act.put _ (some 60) _ = _
          simp only [Act.put, List.setIfInBounds_toArray, List.set_cons_zero, List.set_cons_succ, i64_w, i32_w]
          rfl
        refine one_ (i := 6) (N := some 62) #[true, true, true, true, true, true, true, true, true, true, true, false, true, false, false, false] rfl rfl (by kernel_rfl) (by decide) (fun K hK => ?_)
        refine goes_ Try.func33 (by kernel_rfl) rfl #[.slice Ak1 L1 ck1, .int .i64 E] (by rfl) rfl rfl (by simp only [List.map_toArray, List.map_cons, List.map_nil]; rfl) ?_
        refine (HLL.out _ Ak1 ck1 L1 f.1 ⟨hl1, hLE1⟩ HQk1.out.1 HQk1.out.2).mono ?_
        rintro e w4 ⟨Ag1x, cg1x, rfl, hqg1x, hsg1x⟩
        have HQg1x := Aside0.mk hqg1x
        clear hqg1x
        refine ⟨_, rfl, ?_⟩
        refine hK.out _ _ hsg1x (fun hHeld => ?_)
        clear hK K
        refine norm_ (a' := ?_) ?_ ?_
        rotate_left
        · show Act.put _ (some 62) _ = _
          simp only [Act.put, List.setIfInBounds_toArray, List.set_cons_zero, List.set_cons_succ, i64_w, i32_w]
          rfl
        refine one_ (i := 11) (N := some 67) #[true, true, true, true, true, true, true, true, true, true, true, true, true, false, false, false] rfl rfl (by kernel_rfl) (by decide) (fun K hK => ?_)
        refine goes_ Try.func27 (by kernel_rfl) rfl #[.slice A2 L2 c2] (by rfl) rfl rfl (by simp only [List.map_toArray, List.map_cons, List.map_nil]; rfl) ?_
        refine Calls.mono (HCL.out A2 L2 c2 f.2 hl2 HCC.out.2 _ ?_) ?_
        · exact HQg1x.out.2.1
        rintro e w5 ⟨Ak2, ck2, rfl, hqk2, hsk2⟩
        have HQk2 := Aside0.mk hqk2
        clear hqk2
        refine ⟨_, rfl, ?_⟩
        refine hK.out _ _ hsk2 (fun hHeld => ?_)
        clear hK K
        refine norm_ (a' := ?_) ?_ ?_
        rotate_left
        · show Act.put _ (some 67) _ = _
          simp only [Act.put, List.setIfInBounds_toArray, List.set_cons_zero, List.set_cons_succ, i64_w, i32_w]
          rfl
        refine one_ (i := 13) (N := some 69) #[true, true, true, true, true, true, true, true, true, true, true, true, true, true, false, false] rfl rfl (by kernel_rfl) (by decide) (fun K hK => ?_)
        refine goes_ Try.func33 (by kernel_rfl) rfl #[.slice Ak2 L2 ck2, .int .i64 E] (by rfl) rfl rfl (by simp only [List.map_toArray, List.map_cons, List.map_nil]; rfl) ?_
        refine (HLL.out _ Ak2 ck2 L2 f.2 ⟨hl2, hLE2⟩ HQk2.out.1 HQk2.out.2).mono ?_
        rintro e w6 ⟨Ag2x, cg2x, rfl, hqg2x, hsg2x⟩
        have HQg2x := Aside0.mk hqg2x
        clear hqg2x
        refine ⟨_, rfl, ?_⟩
        refine hK.out _ _ hsg2x (fun hHeld => ?_)
        clear hK K
        refine norm_ (a' := ?_) ?_ ?_
        rotate_left
        · show Act.put _ (some 69) _ = _
          simp only [Act.put, List.setIfInBounds_toArray, List.set_cons_zero, List.set_cons_succ, i64_w, i32_w]
          rfl
        refine pure_ (i := 14) (N := some 9) (v := ?_) (a' := ?_) #[true, true, true, true, true, true, true, true, true, true, true, true, true, true, true, false] rfl rfl (by kernel_rfl) (fun _ _ _ h => h) (Or.inl ⟨by rfl, ?_⟩) ?_ ?_
        rotate_left
        · intro w'
          go_simp
          with_reducible rfl
        rotate_left
        · simp only [Act.put, List.setIfInBounds_toArray, List.set_cons_zero, List.set_cons_succ, i64_w, i32_w]
          rfl
        refine pure_ (i := 15) (N := some 10) (v := ?_) (a' := ?_) #[true, true, true, true, true, true, true, true, true, true, true, true, true, true, true, true] rfl rfl (by kernel_rfl) (fun _ _ _ h => h) (Or.inl ⟨by rfl, ?_⟩) ?_ ?_
        rotate_left
        · intro w'
          go_simp
          with_reducible rfl
        rotate_left
        · simp only [Act.put, List.setIfInBounds_toArray, List.set_cons_zero, List.set_cons_succ, i64_w, i32_w]
          rfl
        refine done_ (by kernel_rfl) ?_
        go_wp2
        go_step3
        rename_i K0 hK0
        show K0 _ _
        refine hK0 _ _ ?_
        clear hK0 K0
        obtain ⟨hR6, hB6, hF6, hat6⟩ := HQg2x.out
        obtain ⟨hR5, hB5, hB45, hat5⟩ := HQk2.out
        obtain ⟨hR4, hB4, hF4, hat4⟩ := HQg1x.out
        have hw2 : w.heap.size ≤ w2.heap.size := HN2.out.2.size
        obtain ⟨hnn, hfin, _, _, _⟩ := HN.out
        obtain ⟨hnv, hlr⟩ := HL.out
        have sz4 : w2.heap.size ≤ w4.heap.size := hB4.size
        have hR4' : RB w6 (fun b => w.heap.size ≤ b) (.slice Ag1x E cg1x) (padTo f.1 E) := hR4.same (fun b hb => (hF6.block b (Nat.lt_of_lt_of_le (hR4.lt hb) hB45.size) (fun e => by have h1 := hat5 b e; have h2 := hR4.lt hb; omega)).trans (hB45.block b (hR4.lt hb))) (fun b hb => by have := hR4.1 b hb; omega)
        refine HRest.out _ _ ⟨Ag1x, cg1x, Ag2x, cg2x, 0, ⟨rfl, rfl, rfl, rfl, rfl, rfl, rfl, by rw [hnv]; rfl, rfl, rfl, rfl, rfl⟩, 0, padTo f.1 E, (lenF f ps).2, rfl, by omega, hfin.symm, ?_, hR4'.same (fun _ _ => rfl) hR4'.1, hR6.same (fun _ _ => rfl) (fun b hb => by have := hR6.1 b hb; omega), ?_, ?_, ?_⟩
        · obtain ⟨_, _, q1, _⟩ := HN.out
          rw [padTo_length, q1]; exact Nat.max_eq_right hLE1
        · intro b hb e
          have h1 := hR4.lt hb
          have h5 := hB45.size
          rcases hat6 b e with h | h
          · have := hat5 b h; omega
          · omega
        · rw [hlr]
          exact HN2.out.1.keep (fun b hb => hB6.block b (by omega)) hB6.size
        · exact (HN2.out.2.trans (Fr.of_below (ok := fun _ => False) hB6) (fun b hb => hb.elim)).drewN 0
end Go.Proofs.Ytgpniaplpibhfaa

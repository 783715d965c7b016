/-
  The walk of the reference's May, without troubles.
-/
import Derived.Test.YtgpniaplpibhfaaPlain
import Derived.Deep.QuietTactic
import Derived.BigQuiet
import Derived.LoopTactic
namespace Go.Proofs.Ytgpniaplpibhfaa
open Go.RowKit Go.Maps Go.Proofs.YtgpniaplpibhfaaW.PrintWords Go.Proofs.YtgpniaplpibhfaaW.PrintLast Go.Proofs.YtgpniaplpibhfaaW.PrintMore
open Go.Proofs.Ytgpniaplpibhfaa.PDiskSafe
set_option linter.unusedVariables false
set_option linter.unusedSimpArgs false

/-- what May answers -/
def MayR (l : List S50) (w : World) (e : Ending) (w' : World) : Prop := ∃ r n, e = .returned (.bool r) ∧ (r = true → FilesOk l) ∧ w' = w.drewN n
def NameR (s : ByteArray) (r : Bool) : Prop := r = true ↔ GoodN s
theorem name_any (s : ByteArray) (hs : s.size ≤ maxLen) : ∃ r, NameR s r ∧ ∀ w : World, Calls Try.prog 25 #[.string s] w fun e w' => e = .returned (.bool r) ∧ ∃ n, w' = w.drewN n := by
  obtain ⟨r, k, hr, hi⟩ := name_some s (by unfold maxLen at hs; exact hs)
  exact ⟨r, hi, fun w => (cadastreref9_Name.calls k s r w hr).mono fun e w' ⟨he, hw⟩ => ⟨he, hw.out⟩⟩
/-- the first i files may be -/
def Upto (l : List S50) (i : Nat) : Prop := (∀ j, j < i → GoodN (rd_T50 l (j : Nat)).f0 ∧ (rd_T50 l (j : Nat)).f1.length ≤ 4194304) ∧ ∀ j, j + 1 < i → nm (rd_T50 l (j : Nat)).f0 < nm (rd_T50 l ((j + 1 : Nat) : Int)).f0
theorem Upto.step {l : List S50} {i : Nat} (h : Upto l i) (h1 : GoodN (rd_T50 l (i : Nat)).f0) (h2 : (rd_T50 l (i : Nat)).f1.length ≤ 4194304) (h3 : ∀ j, i = j + 1 → nm (rd_T50 l (j : Nat)).f0 < nm (rd_T50 l (i : Nat)).f0) : Upto l (i + 1) := by
  refine ⟨fun j hj => ?_, fun j hj => ?_⟩
  · by_cases e : j = i
    · subst e; exact ⟨h1, h2⟩
    · exact h.1 j (by omega)
  · by_cases e : j + 1 = i
    · subst e; exact h3 j rfl
    · exact h.2 j (by omega)
theorem Upto.all {l : List S50} (h : Upto l l.length) (h16 : l.length ≤ 16) : FilesOk l where
  few := h16
  each := fun x hx => by
    obtain ⟨j, hj, rfl⟩ := List.getElem_of_mem hx
    have := h.1 j hj
    rwa [rd50_nat l j hj] at this
  rise := by
    rw [List.pairwise_iff_getElem]
    intro i j hi hj hij
    have key : ∀ d, ∀ (i j : Nat) (hi : i < l.length) (hj : j < l.length), j = i + 1 + d → nm l[i].f0 < nm l[j].f0 := by
      intro d
      induction d with
      | zero =>
        intro i j hi hj e
        have := h.2 i (by omega)
        rw [rd50_nat l i hi, rd50_nat l (i + 1) (by omega)] at this
        subst e
        exact this
      | succ d ih =>
        intro i j hi hj e
        have h1 := ih i (j - 1) hi (by omega) (by omega)
        have h2 := h.2 (j - 1) (by omega)
        rw [rd50_nat l (j - 1) (by omega), rd50_nat l (j - 1 + 1) (by omega)] at h2
        have e2 : j - 1 + 1 = j := by omega
        simp only [e2] at h2
        exact List.lt_trans h1 h2
    exact key (j - i - 1) i j hi hj (by omega)

set_option maxRecDepth 100000 in
set_option maxHeartbeats 1000000 in
theorem may_any {w : World} {A : Option Addr} {c : Nat} {l : List S50} (hC : Kd.C k50 w A l.length l) (hc : l.length ≤ c) (hN : ∀ j : Nat, j < l.length → (rd_T50 l j).f0.size ≤ maxLen) :
    Calls Try.prog 7 #[.slice A l.length c, .slice none 0 0] w (MayR l w) := by
  obtain ⟨Ln, hLn⟩ : ∃ n, n = l.length := ⟨_, rfl⟩
  rw [← hLn]
  have HR := Aside0.mk hC
  rw [← hLn] at HR
  have HLn := Aside0.mk hLn
  have HNN := Aside0.mk hN
  have HC := Aside0.mk hc
  have hmax : Ln ≤ 9223372036854775807 := by rw [hLn]; exact hC.2.1
  clear hC hN hc hLn
  by_cases h16 : Ln ≤ 16
  · have b16 : decide ((16 : Int) < (Ln : Int)) = false := by simp; omega
    go_enter Try.func7, Try.ntmps7
    go_wp2
    go_loopg [5] Ln (fun kq v5 w' => ∃ x : Int, v5 = .int .i64 x ∧ Aside0 (∃ i : Nat, x = i ∧ i + kq = Ln ∧ Upto l i ∧ ∃ n, w' = w.drewN n))
    case atStart => exact ⟨0, rfl, ⟨0, rfl, by omega, ⟨fun j hj => absurd hj (Nat.not_lt_zero _), fun j hj => absurd hj (Nat.not_lt_zero _)⟩, ⟨0, rfl⟩⟩⟩
    case round =>
      obtain ⟨x, rfl, HI⟩ := hrel
      cases gk with
      | zero =>
        have c2b0 : decide (x < (Ln : Int)) = false := by obtain ⟨i, h1, h2, _⟩ := HI.out; simp; omega
        go_wp2
        go_loop [6] (fun t => t = .int .i64 0) (fun _ => 0)
        case atStart => rfl
        case round =>
          subst hrel
          go_wp2
          go_ret
          obtain ⟨i, h1, h2, h3, n, h4⟩ := HI.out
          have hl := HLn.out
          obtain rfl : i = l.length := by omega
          exact ⟨true, n, rfl, fun _ => h3.all (by omega), h4⟩
      | succ k1 =>
        obtain ⟨i, hxi, hik, hU, n0, hw0⟩ := HI.out
        have hcw : ∀ p, wr.cell? p = w.cell? p := fun p => by rw [hw0]; rfl
        have HW0 := Aside0.mk hw0
        clear hw0
        have c2b0 : decide (x < (Ln : Int)) = true := by simp; omega
        have p256 : 0 ≤ x := by omega
        have q256 : x < (Ln : Int) := by omega
        obtain ⟨ad, A1, c1, e, hx0, hx1, hl1, hi1⟩ := at_T50 HR.out x p256 q256
        cases e
        replace hx0 := (hcw _).trans hx0
        replace hx1 := (hcw _).trans hx1
        obtain ⟨r, hr, hcall⟩ := name_any (rd_T50 l x).f0 (by rw [hxi]; exact HNN.out i (by rw [← HLn.out]; omega))
        have HG := Aside0.mk hcall
        have HRX := Aside0.mk hr
        obtain ⟨x1, hx1w⟩ : ∃ x1, IntKind.i64.wrap (x + 1) = x1 := ⟨_, rfl⟩
        have HX1 : Aside0 (x1 = x + 1) := ⟨by rw [← hx1w, IntKind.wrap_i64]; omega⟩
        have HUP := Aside0.mk (And.intro hxi (And.intro hik hU))
        clear hcall hr hl1 hi1 hU
        generalize hy : rd_T50 l x = y at *
        have HY := Aside0.mk hy
        clear hy
        generalize hL1g : y.f1.length = L1 at *
        have HL1 := Aside0.mk hL1g
        clear hL1g
        cases r with
        | false =>
          clear hxi hik HI hcw
          go_wp2
          go_quiet ((go_at_call 25; exact Calls.quiet_of (HG.out _)))
          go_wp2
          go_ret
          exact ⟨false, _, rfl, fun h => by (cases h), by rw [HW0.out]; exact (World.drewN_drewN _ _ _)⟩
        | true =>
        by_cases hb : (4194304 : Int) < (L1 : Int)
        · have b1 : decide ((4194304 : Int) < (L1 : Int)) = true := decide_eq_true hb
          clear hxi hik HI hcw
          go_wp2
          go_quiet ((go_at_call 25; exact Calls.quiet_of (HG.out _)))
          go_wp2
          go_ret
          exact ⟨false, _, rfl, fun h => by (cases h), by rw [HW0.out]; exact (World.drewN_drewN _ _ _)⟩
        · have b1 : decide ((4194304 : Int) < (L1 : Int)) = false := decide_eq_false hb
          by_cases h0 : 0 < x
          · have b2 : decide (0 < x) = true := decide_eq_true h0
            obtain ⟨z, hz⟩ : ∃ z, IntKind.i64.wrap (x - 1) = z := ⟨_, rfl⟩
            have hz' : z = x - 1 := by rw [← hz, IntKind.wrap_i64]; omega
            have p2 : 0 ≤ z := by omega
            have q2 : z < (Ln : Int) := by omega
            obtain ⟨ad2, A2, c2, e2, hz0, hz1, _, _⟩ := at_T50 HR.out z p2 q2
            cases e2
            replace hz0 := (hcw _).trans hz0
            clear hcw
            have HZ := Aside0.mk hz'
            clear hz1 hz' hxi hik HI
            cases hless : Op.bytesLess (rd_T50 l z).f0.toList y.f0.toList with
            | false =>
              go_wp2
              go_quiet ((go_at_call 25; exact Calls.quiet_of (HG.out _)))
              go_wp2
              go_ret
              exact ⟨false, _, rfl, fun h => by (cases h), by rw [HW0.out]; exact (World.drewN_drewN _ _ _)⟩
            | true =>
              go_wp2
              go_quiet ((go_at_call 25; exact Calls.quiet_of (HG.out _)))
              have HB := Aside0.mk (And.intro hb (And.intro h0 hless))
              clear hless hb h0 hx0 hx1 hz0 b2 b1 p2 q2 hz
              go_wp2
              go_roundg k1
              case measure => omega
              case rel =>
                obtain ⟨hxi, hik, hU⟩ := HUP.out
                obtain ⟨hb, h0, hless⟩ := HB.out
                refine ⟨x1, rfl, ⟨i + 1, by rw [HX1.out]; omega, by omega, ?_, ⟨_, by rw [HW0.out]; exact (World.drewN_drewN _ _ _)⟩⟩⟩
                have hz' := HZ.out
                have hy := HY.out
                have hl1 := HL1.out
                rw [hxi] at hy
                refine hU.step ?_ ?_ (fun j hj => ?_)
                · rw [hy]; exact HRX.out.1 rfl
                · rw [hy]; omega
                · rw [less_nm, show z = (j : Int) from by omega] at hless
                  rw [hy]
                  exact of_decide_eq_true hless
          · have b2 : decide (0 < x) = false := decide_eq_false h0
            have HH := Aside0.mk (And.intro h0 hb)
            clear HI hcw hxi hik h0 hb
            go_wp2
            go_quiet ((go_at_call 25; exact Calls.quiet_of (HG.out _)))
            clear hx0 hx1 b2 b1
            go_wp2
            go_roundg k1
            case measure => omega
            case rel =>
              obtain ⟨hxi, hik, hU⟩ := HUP.out
              refine ⟨x1, rfl, ⟨i + 1, by rw [HX1.out]; omega, by omega, ?_, ⟨_, by rw [HW0.out]; exact (World.drewN_drewN _ _ _)⟩⟩⟩
              have hy := HY.out
              have hl1 := HL1.out
              rw [hxi] at hy
              refine hU.step ?_ ?_ (fun j hj => ?_)
              · rw [hy]; exact HRX.out.1 rfl
              · rw [hy]; have := HH.out.2; omega
              · have := HH.out.1; omega
  · have b16 : decide ((16 : Int) < (Ln : Int)) = true := by simp; omega
    go_enter Try.func7, Try.ntmps7
    go_wp2
    go_ret
    exact ⟨false, 0, rfl, fun h => by (cases h), rfl⟩
end Go.Proofs.Ytgpniaplpibhfaa

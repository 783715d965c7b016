/-
  The walk of LocksShare.
-/
import Derived.Test.YtoocokmkghfgmaaWakes
namespace Go.Proofs.Ytoocokmkghfgmaa
open Go.ChangeShapes Go.WideShapes Go.ChangeAt Go.RowKit Go.Deep
set_option linter.unusedVariables false

def s2 (m : Int) := rX s0 m 1
def s3 (m : Int) := rX (s2 m) m 2
def s4 (m : Int) := rX (s3 m) ((m + 1) % 4) 1
def s6 (m : Int) := rX (s4 m) m 4
def s8 (m : Int) := lX (s6 m) ((m + 1) % 4) 0
def s9 (m : Int) := rX (s8 m) m 4
def s11 (m : Int) := lX (s9 m) m 1

structure Steps (m : Int) : Prop where
  e1 : rE s0 m 2 = 11
  x1 : ∀ j, j < 4 → rX s0 m 2 j = s0 j
  e2 : rE s0 m 1 = 0
  e3 : rE (s2 m) m 2 = 0
  e4 : rE (s3 m) ((m + 1) % 4) 1 = 0
  e5 : rE (s4 m) ((m + 1) % 4) 2 = 8
  x5 : ∀ j, j < 4 → rX (s4 m) ((m + 1) % 4) 2 j = s4 m j
  e6 : rE (s4 m) m 4 = 8
  e7 : rE (s6 m) ((m + 2) % 4) 1 = 8
  x7 : ∀ j, j < 4 → rX (s6 m) ((m + 2) % 4) 1 j = s6 m j
  e8 : lE ((m + 1) % 4) 0 = 0
  e9 : rE (s8 m) m 4 = 0
  e10 : rE (s9 m) ((m + 2) % 4) 1 = 8
  x10 : ∀ j, j < 4 → rX (s9 m) ((m + 2) % 4) 1 j = s9 m j
  e11 : lE m 1 = 0
  e12 : rE (s11 m) ((m + 2) % 4) 1 = 0

theorem steps (m : Int) (h0 : 0 ≤ m) (h1 : m < 4) : Steps m := by
  have : m = 0 ∨ m = 1 ∨ m = 2 ∨ m = 3 := by omega
  rcases this with rfl | rfl | rfl | rfl <;> constructor <;> decide

set_option maxRecDepth 100000 in
theorem share_any (A : Option Addr) (len cap : Nat) (D C L : Nat → Int) (w : World) (hl : len ≤ 9223372036854775807) (ha : Acts w A len D C L) :
    Calls Try.prog 5 #[.slice A len cap] w fun e w' => e = .returned (.bool true) ∧ Below w.heap.size w w' := by
  have HA : Hid (Acts w A len D C L) := ha
  clear ha
  go_enter Try.func5, Try.ntmps5
  go_wp2
  go_loopw [3] (fun i wr => ∃ k : Nat, i = .int .i64 k ∧ k ≤ len ∧ Below w.heap.size w wr) (fun i _ => len - (intOf i).toNat)
  case atStart => exact ⟨0, rfl, by omega, Below.refl _ _⟩
  case round =>
    obtain ⟨k, rfl, hk, hb⟩ := hrel
    by_cases h1 : k < len
    · by_cases h2 : k < 10
      · obtain ⟨b, off, rfl, hbw, hcells⟩ := HA.out (by omega)
        obtain ⟨_, hc, _⟩ := hcells k h1
        have hc' : wr.cell? ⟨b, off + k * 3 + 1, none⟩ = some (.int .i64 (C k)) := (hb.cell (p := ⟨b, off + k * 3 + 1, none⟩) hbw).trans hc
        clear hcells hc
        obtain ⟨m, m0, m1, hm⟩ := within_to (C k) 4 (by omega) (by omega)
        have S := steps m m0 m1
        go_wp2_with fail
        refine (new_abs _).mono ?_
        rintro e w1 ⟨rfl, ht, hb1⟩
        have hc1 := (hb1.cell (p := ⟨b, off + k * 3 + 1, none⟩) (Nat.lt_of_lt_of_le hbw hb.size)).trans hc'
        have hle := hb.size
        have hbb := hb.trans (hb1.mono hb.size)
        clear hc' hb1 hb
        go_wp2_with (go_at_call 7; refine (hm _).mono ?_; rintro e w' ⟨rfl, rfl⟩)
        clear hc1 hm
        refine (raise_to s0 ht S.e1 S.x1).mono ?_
        clear ht
        rintro e w2 ⟨rfl, ht, ho⟩
        replace hbb := hbb.trans (ho.below hle)
        clear ho
        go_wp2_with (go_at_call 8; refine (num_any _ _).mono ?_; rintro e w' ⟨rfl, rfl⟩)
        refine (raise_to (s2 m) ht S.e2 (fun _ _ => rfl)).mono ?_
        clear ht
        rintro e w3 ⟨rfl, ht, ho⟩
        replace hbb := hbb.trans (ho.below hle)
        clear ho
        go_wp2_with (go_at_call 8; refine (num_any _ _).mono ?_; rintro e w' ⟨rfl, rfl⟩)
        refine (raise_to (s3 m) ht S.e3 (fun _ _ => rfl)).mono ?_
        clear ht
        rintro e w4 ⟨rfl, ht, ho⟩
        replace hbb := hbb.trans (ho.below hle)
        clear ho
        go_wp2_with (go_at_call 8; refine (num_any _ _).mono ?_; rintro e w' ⟨rfl, rfl⟩)
        refine (raise_to (s4 m) ht S.e4 (fun _ _ => rfl)).mono ?_
        clear ht
        rintro e w5 ⟨rfl, ht, ho⟩
        replace hbb := hbb.trans (ho.below hle)
        clear ho
        go_wp2_with (go_at_call 8; refine (num_any _ _).mono ?_; rintro e w' ⟨rfl, rfl⟩)
        refine (raise_to (s4 m) ht S.e5 S.x5).mono ?_
        clear ht
        rintro e w6 ⟨rfl, ht, ho⟩
        replace hbb := hbb.trans (ho.below hle)
        clear ho
        go_wp2_with (go_at_call 8; refine (num_any _ _).mono ?_; rintro e w' ⟨rfl, rfl⟩)
        refine (raise_to (s6 m) ht S.e6 (fun _ _ => rfl)).mono ?_
        clear ht
        rintro e w7 ⟨rfl, ht, ho⟩
        replace hbb := hbb.trans (ho.below hle)
        clear ho
        go_wp2_with (go_at_call 8; refine (num_any _ _).mono ?_; rintro e w' ⟨rfl, rfl⟩)
        refine (raise_to (s6 m) ht S.e7 S.x7).mono ?_
        clear ht
        rintro e w8 ⟨rfl, ht, ho⟩
        replace hbb := hbb.trans (ho.below hle)
        clear ho
        go_wp2_with (go_at_call 8; refine (num_any _ _).mono ?_; rintro e w' ⟨rfl, rfl⟩)
        refine (lower_to (s8 m) ht S.e8 (fun _ _ => rfl)).mono ?_
        clear ht
        rintro e w9 ⟨rfl, ht, ho⟩
        replace hbb := hbb.trans (ho.below hle)
        clear ho
        go_wp2_with (go_at_call 8; refine (num_any _ _).mono ?_; rintro e w' ⟨rfl, rfl⟩)
        refine (raise_to (s9 m) ht S.e9 (fun _ _ => rfl)).mono ?_
        clear ht
        rintro e w10 ⟨rfl, ht, ho⟩
        replace hbb := hbb.trans (ho.below hle)
        clear ho
        go_wp2_with (go_at_call 8; refine (num_any _ _).mono ?_; rintro e w' ⟨rfl, rfl⟩)
        refine (raise_to (s9 m) ht S.e10 S.x10).mono ?_
        clear ht
        rintro e w11 ⟨rfl, ht, ho⟩
        replace hbb := hbb.trans (ho.below hle)
        clear ho
        go_wp2_with (go_at_call 8; refine (num_any _ _).mono ?_; rintro e w' ⟨rfl, rfl⟩)
        refine (lower_to (s11 m) ht S.e11 (fun _ _ => rfl)).mono ?_
        clear ht
        rintro e w12 ⟨rfl, ht, ho⟩
        replace hbb := hbb.trans (ho.below hle)
        clear ho
        go_wp2_with (go_at_call 8; refine (num_any _ _).mono ?_; rintro e w' ⟨rfl, rfl⟩)
        refine (raise_to (rX (s11 m) ((m + 2) % 4) 1) ht S.e12 (fun _ _ => rfl)).mono ?_
        clear ht
        rintro e w13 ⟨rfl, ht, ho⟩
        replace hbb := hbb.trans (ho.below hle)
        clear ho
        go_wp2_with (go_at_call 8; refine (num_any _ _).mono ?_; rintro e w' ⟨rfl, rfl⟩)
        go_roundw
        case rel => exact ⟨k + 1, by go_num, by omega, hbb⟩
        case measure => simp [intOf]; omega
      · go_wp2_with (go_at_call 15; refine (wakes_any _).mono ?_; rintro e w' ⟨rfl, hb2⟩)
        go_ret
        exact ⟨rfl, hb.trans (hb2.mono hb.size)⟩
    · go_wp2_with (go_at_call 15; refine (wakes_any _).mono ?_; rintro e w' ⟨rfl, hb2⟩)
      go_ret
      exact ⟨rfl, hb.trans (hb2.mono hb.size)⟩
end Go.Proofs.Ytoocokmkghfgmaa

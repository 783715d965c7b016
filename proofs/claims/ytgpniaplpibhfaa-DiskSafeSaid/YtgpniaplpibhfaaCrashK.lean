/-
  A file of a crash: its bytes lie in a row, or in the head of one.
-/
import Derived.Test.YtgpniaplpibhfaaFoundP
namespace Go.Proofs.Ytgpniaplpibhfaa
open Go.RowKit Go.Maps Go.Proofs.YtgpniaplpibhfaaW.PrintWords Go.Proofs.YtgpniaplpibhfaaW.PrintLast Go.Proofs.YtgpniaplpibhfaaW.PrintMore
open Go.Proofs.Ytgpniaplpibhfaa.PDiskSafe
set_option linter.unusedVariables false
set_option linter.unusedSimpArgs false

def KB : Kd Bytes where
  sz := 1
  E := [5]
  K := fun w xs cs => ∃ A c, cs = [.slice A xs.length c] ∧ xs.length ≤ c ∧ U8.C w A xs.length xs
  M := fun w base ok xs cs => ∃ v, cs = [v] ∧ RB w ok v xs ∧ ∀ k, v.ownBlock = some k → base ≤ k
  K_len := by
    rintro w x cs ⟨A, c, rfl, _⟩
    rfl
  K_one := by
    rintro w x cs ⟨A, c, rfl, _⟩ u hu
    rw [List.mem_singleton.1 hu]
    rfl
  K_below := by
    rintro w w1 x cs hb ⟨A, c, rfl, hl, hr⟩
    exact ⟨A, c, rfl, hl, Kd.C_below hr hb⟩
  K_of_M := by
    rintro w base ok x cs ⟨v, rfl, h, _⟩
    obtain ⟨A, c, rfl, hl, hr⟩ := h.reads
    exact ⟨A, c, rfl, hl, hr⟩
  M_mono := by
    rintro w base ok ok' x cs hok ⟨v, rfl, h, hb⟩
    exact ⟨v, rfl, h.mono hok, hb⟩
  M_bound := by
    rintro w base ok x cs ⟨v, rfl, h, hb⟩
    refine ⟨v, rfl, ⟨fun k hk => ?_, h.rep⟩, hb⟩
    obtain ⟨cells, hc⟩ := h.block hk
    exact ⟨h.1 k hk, hb k hk, h.lt hk, 5, by simp, cells, hc⟩
  M_move := by
    rintro w w1 base ok x cs hm ⟨v, rfl, h, hb⟩
    exact ⟨v, rfl, h.same (fun k hk => hm k (h.1 k hk)) h.1, hb⟩
  M_lower := by
    rintro w base base' ok x cs hb ⟨v, rfl, h, hb'⟩
    exact ⟨v, rfl, h, fun k hk => Nat.le_trans hb (hb' k hk)⟩

def kF : Kd S50 := Kd.iso (Kd.pair Kd.string KB) (fun x : S50 => (x.f0, x.f1))
theorem kF_mkM (w : World) (base : Nat) (ok : Nat → Prop) (x : S50) {v1 : Value} (g1 : RB w ok v1 x.f1) (gb : ∀ k, v1.ownBlock = some k → base ≤ k) : kF.M w base ok x [.string x.f0, v1] := ⟨[.string x.f0], [v1], rfl, rfl, ⟨v1, rfl, g1, gb⟩⟩
theorem kF_C {w : World} {A : Option Addr} {n : Nat} {xs : List S50} (h : Kd.C kF w A n xs) : Kd.C k50 w A n xs := h

/-- what a crash tells -/
def crashF (fs : Files) : List Name → List Int → List S50
  | [], _ => []
  | y :: r, ps => ⟨strL y, (foundF ((fs y).getD ([], [])) ps).1⟩ :: crashF fs r (foundF ((fs y).getD ([], [])) ps).2

theorem PBox.up {B B' : Nat} {w : World} {bp : Nat} {l : List Int} (h : PBox B w bp l) (h1 : B ≤ B') (h2 : B' ≤ w.heap.size) : PBox B' w bp l := by
  obtain ⟨a, b, A, c, q1, q2, q3, q4⟩ := h
  exact ⟨by omega, h2, A, c, q1, q2, q3, fun ad hn e => ⟨(q4 ad hn e).1, by have := (q4 ad hn e).2; omega⟩⟩
end Go.Proofs.Ytgpniaplpibhfaa

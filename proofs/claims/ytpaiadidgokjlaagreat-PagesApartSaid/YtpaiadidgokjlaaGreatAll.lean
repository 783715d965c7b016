/-
  all: a file's bytes.
-/
import Derived.Test.YtpaiadidgokjlaaGreatTurnB
import Derived.Test.YtpaiadidgokjlaaGreatSMap
import Derived.OwnWalk
namespace Go.Proofs.YtpaiadidgokjlaaGreat
open Go.RowKit Go.Maps Go.Proofs.YtpaiadidgokjlaaGreatW.PrintWords Go.Proofs.YtpaiadidgokjlaaGreatW.PrintLast Go.Proofs.YtpaiadidgokjlaaGreatW.PrintMore
open Go.Proofs.YtpaiadidgokjlaaGreat.PPagesModel
set_option linter.unusedVariables false
set_option linter.unusedSimpArgs false

theorem all_none {w : World} {d p : Nat} {M : DM} {ok : Nat → Prop} (h : DiskAt w d M ok) (hp : w.cell? ⟨p, 0, none⟩ = some (dptr d)) {s : ByteArray} (hg : GoodN s) (ho : M.off = false) (hx : M.fs (nm s) = none) :
    Calls Tryz.prog 143 #[dptr p, .string s] w fun e w' => e = .returned (.tuple #[.slice none 0 0, .bool false, .int .i64 0]) ∧ ∃ n, w' = w.drewN n := by
  have HS := Aside0.mk (size_none h hg ho hx)
  clear h hg ho hx
  go_enter Tryz.func143, Tryz.ntmps143
  go_wp2_with (go_at_call 194; refine (HS.out).mono ?_; rintro e w' ⟨rfl, n, rfl⟩)
  all_goals (go_ret3; exact ⟨rfl, _, rfl⟩)
theorem all_off {w : World} {d p : Nat} {M : DM} {ok : Nat → Prop} (h : DiskAt w d M ok) (hp : w.cell? ⟨p, 0, none⟩ = some (dptr d)) {s : ByteArray} (hg : GoodN s) (ho : M.off = true) :
    Calls Tryz.prog 143 #[dptr p, .string s] w fun e w' => e = .returned (.tuple #[.slice none 0 0, .bool false, .int .i64 9]) ∧ ∃ n, w' = w.drewN n := by
  have HS := Aside0.mk (size_off h hg ho)
  clear h hg ho
  go_enter Tryz.func143, Tryz.ntmps143
  go_wp2_with (go_at_call 194; refine (HS.out).mono ?_; rintro e w' ⟨rfl, n, rfl⟩)
  all_goals (go_ret3; exact ⟨rfl, _, rfl⟩)
theorem all_some {w : World} {d p : Nat} {M : DM} {ok : Nat → Prop} (h : DiskAt w d M ok) (hp : w.cell? ⟨p, 0, none⟩ = some (dptr d)) {s : ByteArray} (hg : GoodN s) (ho : M.off = false) {f : Bytes × Bytes} (hx : M.fs (nm s) = some f) (hlen : f.2.length ≤ 4194304) :
    Calls Tryz.prog 143 #[dptr p, .string s] w fun e w' => ∃ v, e = .returned (.tuple #[v, .bool true, .int .i64 0]) ∧ U8.R 5 w' w.heap.size (fun k => w.heap.size ≤ k) v f.2 ∧ Below w.heap.size w w' := by
  have HS := Aside0.mk (size_some h hg ho hx)
  have HR := Aside0.mk (fun n => read_some (w := w.drewN n) (h.drewN n) hg 0 f.2.length (by omega) hlen ho hx hlen)
  clear h hg ho hx hlen
  go_enter Tryz.func143, Tryz.ntmps143
  go_wp2_with (first
    | (go_at_call 194; refine (HS.out).mono ?_; rintro e w' ⟨rfl, n, rfl⟩)
    | (go_at_call 195; refine (HR.out _).mono ?_; rintro e w' ⟨v, rfl, hv, hvb⟩; obtain ⟨A3, c3, rfl⟩ := Kd.R_slice hv; have HV := Aside0.mk hv; have HVB := Aside0.mk hvb; clear hv hvb))
  all_goals (go_ret3; exact ⟨_, rfl, by simpa using HV.out, below_undrawn HVB.out⟩)
end Go.Proofs.YtpaiadidgokjlaaGreat

/-
  The law's own model of held pages in memory: find, drop, add.
-/
import Derived.Test.YtmdpgjdepflbmaaGreatCC
import Derived.Maps.AppendAt
namespace Go.Proofs.YtmdpgjdepflbmaaGreat
open Go.RowKit Go.Maps Go.Proofs.YtmdpgjdepflbmaaGreatW.PrintWords Go.Proofs.YtmdpgjdepflbmaaGreatW.PrintLast Go.Proofs.YtmdpgjdepflbmaaGreatW.PrintMore
open Go.Proofs.YtmdpgjdepflbmaaGreat.PPagerFolds
set_option linter.unusedVariables false
set_option linter.unusedSimpArgs false

section
variable {α : Type} {enc : α → Value} {h1 : ∀ x, (enc x).oneCell' = true}
/-- append(v, ys...), its run -/
theorem app_run (W : World) (base : Nat) (t ty e : TypeId) (z : Value) (bytes : Nat) (ht : Tryz.prog.underlying t = some (.slice e)) (hinfo : (Tryz.prog.info? e).map (fun i => (i.zero, i.size, i.bytes)) = some (some z, 1, bytes)) (hz : z.cells.size = 1) (hb0 : 0 < bytes)
    (v : Value) (xs ys : List α) (A : Option Addr) (m c : Nat) (ok : Nat → Prop) (HO : (Kd.scalar enc h1).R e W base ok v xs) (HR : (Kd.scalar enc h1).C W A m ys) (hfresh : ∀ k, W.heap.size ≤ k → ok k) (hbase : base ≤ W.heap.size) (hl : (xs.length + m) * bytes ≤ 140737488355328) :
    ∃ v1 w1, (Builtin.append_ #[t, t] ty #[v, .slice A m c]).run Tryz.prog W = .ok v1 w1 ∧ (Kd.scalar enc h1).R e w1 base ok v1 (xs ++ ys) ∧ W.grownBy w1 v.ownBlock := by
  obtain ⟨i0, hi, hzz⟩ := Option.map_eq_some_iff.1 hinfo
  simp only [Prod.mk.injEq] at hzz
  obtain ⟨hz0, hz1, hz2⟩ := hzz
  have hm : ys.length = m := HR.1
  have hlen : xs.length + m ≤ maxLen := by have := Nat.le_trans (Nat.le_mul_of_pos_right (xs.length + m) hb0) hl; simp only [maxLen]; omega
  have hown := Kd.own_of_R HO
  rcases A with _ | ad
  · have h0 : m = 0 := by
      rcases Nat.eq_zero_or_pos m with h0 | h0
      · exact h0
      · obtain ⟨ad, h, _⟩ := HR.2.2 h0
        cases h
    subst h0
    obtain rfl : ys = [] := List.eq_nil_of_length_eq_zero hm
    refine ⟨v, W, ?_, by rw [List.append_nil]; exact HO, World.grownBy.refl W _⟩
    rcases hown.2 with ⟨rfl, hn⟩ | ⟨g, cap, cur, rfl, _, _, hnc, _⟩
    · simp [Builtin.append_, run_underlying ht, sizeOf, typeInfo, hi, Builtin.lenOf, Builtin.firstCells]
    · simp [Builtin.append_, run_underlying ht, sizeOf, typeInfo, hi, Builtin.lenOf, Builtin.firstCells, hnc, storeCells]
  · obtain ⟨news, hnr, hnc⟩ := ReadsRow.inner_ HR
    have he : news = encs enc ys := by
      apply List.ext_getElem?
      intro j
      have hnl : news.length = ys.length * 1 := hnr.1
      rw [Nat.mul_one] at hnl
      by_cases hj : j < ys.length
      · have h2 := hnr.2 j _ (List.getElem?_eq_getElem hj)
        have h3 : ((news.drop (j * 1)).take 1) = [enc ys[j]] := h2
        have h4 : news[j]? = ((news.drop (j * 1)).take 1)[0]? := by simp
        rw [h4, h3]
        simp [encs, hj]
      · rw [List.getElem?_eq_none (by omega), List.getElem?_eq_none (by simp [encs]; omega)]
    subst he
    obtain ⟨v1, w1, hrun, h2, hg, _, hat⟩ := run_append_own_at (P := Tryz.prog) W base t ty e i0 z 1 bytes ht hi hz0 hz1 hz2 hz (by decide) v xs.length (encs enc xs) hown ad m c (encs enc ys) (by rw [hnr.1, hm]; rfl) hnc (fun u hu => by obtain ⟨x, _, rfl⟩ := List.mem_map.1 hu; exact h1 x) hlen hl hbase
    refine ⟨v1, w1, hrun, Kd.R_of_own (by rw [encs_append, List.length_append, hm]; exact h2) (fun k hk => ?_), hg⟩
    rcases hat with hat | hat
    · exact HO.1 k (hat ▸ hk)
    · rw [hat] at hk
      injection hk with hk
      exact hfresh k (by omega)
end

/-- a store to the model's block -/
theorem md_set {w : World} {mb : Nat} {cs : List Value} {ty : Nat} (h : w.heap[mb]? = some (.cells cs.toArray ty (0, 0))) (j : Nat) (u : Value) : (w.setCell ⟨mb, j, none⟩ u).heap[mb]? = some (.cells (cs.set j u).toArray ty (0, 0)) ∧ w.grownBy (w.setCell ⟨mb, j, none⟩ u) (some mb) := by
  refine ⟨by simp [World.setCell, Array.getElem?_modify, h], ⟨rfl, rfl, rfl, by simp [World.setCell], fun k hk hne => Below.heap_setCell _ _ _ _ (fun e => hne (by rw [e]))⟩⟩
end Go.Proofs.YtmdpgjdepflbmaaGreat
namespace Go.Proofs.YtmdpgjdepflbmaaGreat
open Go.RowKit Go.Maps Go.Proofs.YtmdpgjdepflbmaaGreatW.PrintWords Go.Proofs.YtmdpgjdepflbmaaGreatW.PrintLast Go.Proofs.YtmdpgjdepflbmaaGreatW.PrintMore
open Go.Proofs.YtmdpgjdepflbmaaGreat.PPagerFolds
set_option linter.unusedVariables false
set_option linter.unusedSimpArgs false

section
variable {α : Type} {enc : α → Value} {h1 : ∀ x, (enc x).oneCell' = true}
end
/-- add, from the place on -/
theorem app_exec {o : Oper} {ev : Operand → Value} {W : World} (s x : Operand) (t : TypeId) (ho : o.op = .call { callee := .builtin .append, args := #[s, x], argTypes := #[t, t] })
    (v y : Value) (hs : ev s = v) (hx : ev x = y) {v1 : Value} {w1 : World} (hrun : (Builtin.append_ #[t, t] o.type #[v, y]).run Tryz.prog W = .ok v1 w1) : (execOp ev o).run Tryz.prog W = .ok (.value v1) w1 := by
  unfold execOp
  simp only [ho, resolve, invoke, builtin, Sem.run_bind, Sem.run_pure, Result.andThen_ok, List.map_toArray, List.map_cons, List.map_nil, hs, hx, hrun]

end Go.Proofs.YtmdpgjdepflbmaaGreat

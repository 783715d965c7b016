/-
  The contract of longer, and of what Write does to a file.
-/
import Derived.Test.YtgpniaplpibhfaaTurnB
import Derived.Deep.RegionHeld3
import Derived.RegionTactic
import Derived.Deep.RegionLaw
import Derived.StillTailTactics
namespace Go.Proofs.Ytgpniaplpibhfaa
open Go.RowKit Go.Maps Go.Proofs.YtgpniaplpibhfaaW.PrintWords Go.Proofs.YtgpniaplpibhfaaW.PrintLast Go.Proofs.YtgpniaplpibhfaaW.PrintMore
open Go.Proofs.Ytgpniaplpibhfaa.PDiskSafe
set_option linter.unusedVariables false
set_option linter.unusedSimpArgs false

/-- at least n bytes, with noughts behind -/
def padTo (l : Bytes) (n : Nat) : Bytes := l ++ List.replicate (n - l.length) 0
theorem padTo_length (l : Bytes) (n : Nat) : (padTo l n).length = max l.length n := by simp [padTo]; omega

theorem longer_f (l : Bytes) (n : Nat) (hl : l.length ≤ 8388608) (hn : n ≤ 8388608) : disk_longer.f l n = some (padTo l n) := by
  unfold disk_longer.f
  have hw : wrap64 ((n : Int) - (l.length : Int)) = (n : Int) - (l.length : Int) := by unfold wrap64; omega
  by_cases h : (l.length : Int) ≥ n
  · rw [if_pos h]
    have : n - l.length = 0 := by omega
    simp [padTo, this]
  · rw [if_neg h, hw, if_pos (by omega), if_pos (by omega)]
    have : ((n : Int) - (l.length : Int)).toNat = n - l.length := by omega
    rw [this]; rfl

/-- append(v, make([]byte, m)...), v without room -/
theorem run_zeros_cut (w : World) (ty : TypeId) {i : TypeInfo} (hi : Try.prog.info? 5 = some i) (hz : i.zero = some (.int .u8 0)) (hsize : i.size = 1) (hby : i.bytes = 1) (g n m : Nat) (l : Bytes) (kx : IntKind) (hm : 0 < m) (hl : l.length = n)
    (hcells : ∀ j u, (l.map (Value.int .u8))[j]? = some u → w.cell? ((⟨g, 0, none⟩ : Addr).add j) = some u) (hb : n + m ≤ 16777216) :
    ∃ v' w', (Builtin.append_ #[30, 3] ty #[.slice (some ⟨g, 0, none⟩) n n, .int kx m]).run Try.prog w = .ok v' w' ∧ RB w' (fun k => w.heap.size ≤ k) v' (l ++ List.replicate m 0) ∧ w.grownBy w' none := by
  have hw : IntKind.i64.wrap (m : Int) = m := by rw [IntKind.wrap_i64]; omega
  have hneg : ¬ ((m : Int) < 0) := by omega
  have hbig : ¬ (281474976710656 < (m : Int) * (i.bytes : Int)) := by rw [hby]; omega
  have hn : ¬ (n + m ≤ n) := by omega
  have h63' : ¬ (9223372036854775807 < ((n : Int) + (m : Int))) := by omega
  have hfit := growslice_fits (show n < n + m by omega) (show (n + m) * i.bytes ≤ 140737488355328 by rw [hby]; omega)
  have h48' : ¬ (281474976710656 < Builtin.nextslicecap (n + m) n * i.bytes) := by omega
  have hmz : ¬ (m * i.size = 0) := by rw [hsize]; omega
  have hfo : (Builtin.firstCells i.size n (.slice (some ⟨g, 0, none⟩) n n)).run Try.prog w.drew = .ok (l.map (Value.int .u8)).toArray w.drew := by
    refine run_firstCells_some (P := Try.prog) w.drew i.size n _ n n _ (by rw [hsize]; simp [hl]) (by simpa using hcells)
  have h63 : n + m ≤ maxLen := by simp only [maxLen]; omega
  have hge := grownCap_ge w (n + m) n 5
  have hcm : grownCap w (n + m) n 5 ≤ maxLen := grownCap_le_maxLen w (n + m) n 5 h63
  have hnews : (Builtin.zeroCells (Value.int .u8 0).cells m).toList = (List.replicate m (0 : Int)).map (Value.int .u8) := by
    apply List.ext_getElem
    · simp [size_zeroCells, Value.cells]
    · intro j h1 h2
      simp [Builtin.zeroCells, Value.cells, Nat.mod_one]
  obtain ⟨cap, hcap⟩ : ∃ cap, cap = grownCap w (n + m) n 5 := ⟨_, rfl⟩
  rw [← hcap] at hge hcm
  have hszz : ∀ j, (Builtin.zeroCells (Value.int .u8 0).cells j).size = j := fun j => by rw [size_zeroCells]; simp [Value.cells]
  refine ⟨.slice (some ⟨w.heap.size, 0, none⟩) (n + m) cap, w.drew.alloc (.cells ((l.map (Value.int .u8)).toArray ++ Builtin.zeroCells (Value.int .u8 0).cells m ++ Builtin.zeroCells (Value.int .u8 0).cells (cap - (n + m))) 5), ?_, ⟨?_, .inr ⟨w.heap.size, cap, _, ?_, heap_alloc_new w.drew _, ?_, hcm, ?_, ?_, ?_⟩⟩, ⟨rfl, rfl, rfl, by simp, fun k hk _ => Below.heap_alloc w.drew _ k hk⟩⟩
  · simp [Builtin.append_, run_underlying Try.underlying30, run_underlying Try.underlying3, sizeOf, typeInfo, zeroValue, hi, hz, asInt, asIntOf, hw, hneg, hbig, hn, h63', h48', Question.forced, hfo, newRow, grownCap, hmz, hcap]
  · intro k hk
    have : w.heap.size = k := by simpa [Value.ownBlock] using hk
    omega
  · simp [hl]
  · simp [hl]; omega
  · simp [hszz, hl]; omega
  · left; simp [hszz, hl]; omega
  · have e1 : (l ++ List.replicate m (0 : Int)).length = (l.map (Value.int .u8)).length + m := by simp
    rw [e1]
    simp only [Array.toList_append, hnews, List.map_append]
    rw [List.take_append_of_le_length (by simp)]
    rw [List.take_of_length_le (by simp)]

/-- append by its run -/
theorem appendL_ {P : Program} {ops : Array Oper} {rest : List Oper} {o : Oper} {a : Act} {Q : Exit → Act → World → Prop} {W w1 : World} {v1 : Value} (hgd : o.guard = none) (s x : Operand) (t u : TypeId) (ho : o.op = .call { callee := .builtin .append, args := #[s, x], argTypes := #[t, u] }) {vs vx : Value} (hs : a.eval s = vs) (hx : a.eval x = vx)
    (hrun : (Builtin.append_ #[t, u] o.type #[vs, vx]).run P W = .ok v1 w1) (h : wpList P ops Q rest (a.put o.dst v1) w1) : wpList P ops Q (o :: rest) a W := by
  refine wpList_plain hgd fun K hK => ?_
  unfold Oper.wp execOp
  simp only [ho, resolve, invoke, builtin, Sem.run_bind, Sem.run_pure, Result.andThen_ok, List.map_toArray, List.map_cons, List.map_nil, hs, hx, hrun]
  exact hK _ _ h

set_option maxRecDepth 100000 in
theorem longer_cut {w : World} {P : Nat → Prop} {g : Nat} {cur : Array Value} {l : Bytes} (n : Nat) (hg : w.heap[g]? = some (.cells cur 5 (0, 0))) (hP : P g) (hlm : l.length ≤ maxLen) (hlc : l.length ≤ cur.size) (ht : cur.toList.take l.length = l.map (Value.int .u8)) (hl : l.length ≤ 8388608) (hn : n ≤ 8388608) :
    Calls Try.prog 33 #[.slice (some ⟨g, 0, none⟩) l.length l.length, .int .i64 n] w fun e w' => ∃ v', e = .returned v' ∧ RB w' (fun k => P k ∨ w.heap.size ≤ k) v' (padTo l n) ∧ Fr (fun k => (Value.slice (some ⟨g, 0, none⟩) l.length l.length).ownBlock = some k) w w' ∧
      (∀ b, v'.ownBlock = some b → (Value.slice (some ⟨g, 0, none⟩) l.length l.length).ownBlock = some b ∨ w.heap.size ≤ b) := by
  have hRB : RB w P (.slice (some ⟨g, 0, none⟩) l.length l.length) l := ⟨fun k hk => by have : g = k := by simpa [Value.ownBlock] using hk
                                                                                        subst this; exact hP, .inr ⟨g, l.length, cur, rfl, hg, Nat.le_refl _, hlm, hlc, .inr rfl, ht⟩⟩
  obtain ⟨A, c, hv, hle, hC⟩ := hRB.reads
  have hcells : ∀ j u, (l.map (Value.int .u8))[j]? = some u → w.cell? ((⟨g, 0, none⟩ : Addr).add j) = some u := by
    intro j u hu
    have e : ((⟨g, 0, none⟩ : Addr).add j) = ⟨g, j, none⟩ := by simp [Addr.add]; intro h; exact h.symm
    obtain ⟨hj1, _⟩ := List.getElem?_eq_some_iff.1 hu
    rw [List.length_map] at hj1
    rw [e, cell_of_row w g j cur 5 (0, 0) hg, ← hu, ← ht]
    simp [List.getElem?_take, hj1]
  by_cases c1 : (n : Int) ≤ l.length
  · have b1 : decide ((n : Int) ≤ (l.length : Int)) = true := decide_eq_true c1
    have hp : padTo l n = l := by have : n - l.length = 0 := by omega
                                  simp [padTo, this]
    rw [hp]
    have HR := Aside0.mk hRB
    clear hRB hv hC hcells ht hg hlc
    go_enter Try.func33, Try.ntmps33
    go_wp2
    go_ret
    exact ⟨_, rfl, HR.out.mono (fun k hk => .inl hk), Fr.refl _ _, fun b hb => .inl hb⟩
  · have b1 : decide ((n : Int) ≤ (l.length : Int)) = false := decide_eq_false c1
    obtain ⟨i5, hi, hz⟩ := Option.map_eq_some_iff.1 info5
    simp only [Prod.mk.injEq] at hz
    obtain ⟨m, hm⟩ : ∃ m : Nat, (m : Int) = (n : Int) - l.length := ⟨n - l.length, by omega⟩
    obtain ⟨v', w', hrun, hR, hgr⟩ := run_zeros_cut w 30 hi hz.1 hz.2.1 hz.2.2 g l.length m l .i64 (by omega) rfl hcells (by omega)
    have hsub : IntKind.i64.wrap ((n : Int) - (l.length : Int)) = m := by rw [IntKind.wrap_i64]; omega
    have hp : padTo l n = l ++ List.replicate m 0 := by have : n - l.length = m := by omega
                                                        simp [padTo, this]
    rw [hp]
    have HR := Aside0.mk (And.intro hR hgr)
    have hm0 : decide ((0 : Int) ≤ (m : Int)) = true := by simp
    clear hRB hv hC hcells ht hg hlc hi hz hR hgr hp hm hlm
    generalize l.length = L at *
    go_enter Try.func33, Try.ntmps33
    go_wp2_with (at_builtin; refine appendL_ rfl (.tmp 10) (.tmp 14) 30 3 rfl rfl rfl hrun ?_)
    go_ret
    exact ⟨_, rfl, HR.out.1.mono (fun k hk => .inr hk), (Fr.refl _ w).grown HR.out.2 (fun k hk => by cases hk), fun b hb => .inr (HR.out.1.1 b hb)⟩

theorem longer_any {w : World} {P : Nat → Prop} {v : Value} {l : Bytes} (n : Nat) (hR : RB w P v l) (hl : l.length ≤ 8388608) (hn : n ≤ 8388608) :
    Calls Try.prog 33 #[v, .int .i64 n] w fun e w' => ∃ v', e = .returned v' ∧ RB w' (fun k => P k ∨ w.heap.size ≤ k) v' (padTo l n) ∧ Fr (fun k => v.ownBlock = some k) w w' ∧
      (∀ b, v'.ownBlock = some b → v.ownBlock = some b ∨ w.heap.size ≤ b) := by
  rcases hR.cases with hRR | ⟨g, cur, rfl, hg, h1, h2, h3⟩
  · have hB : Below ({ w with heap := #[] } : World).heap.size { w with heap := #[] } w := ⟨rfl, rfl, rfl, Nat.zero_le _, fun k hk => absurd hk (Nat.not_lt_zero _)⟩
    have hR' : U8.R 5 w ({ w with heap := #[] } : World).heap.size (fun k => v.ownBlock = some k) v l := Kd.R_of_own (own_move (Kd.own_of_R hRR) (fun _ _ => rfl)) (fun k hk => hk)
    refine (disk_longer.calls (fun k => v.ownBlock = some k) v l n _ { w with heap := #[] } w hB hR' (longer_f l n hl hn)).mono ?_
    rintro e w' ⟨v', he, h1, h2, h3⟩
    have h1' : RB w' (fun k => v.ownBlock = some k ∨ w.heap.size ≤ k) v' (padTo l n) := RB.of_R h1
    exact ⟨v', he, h1'.same (fun _ _ => rfl) (fun k hk => (h1.1 k hk).imp (hR.1 k) id), ⟨h2.os, h2.tape, h2.output, h3.1, h3.2⟩, h1.1⟩
  · exact longer_cut n hg (hR.1 g (by simp [Value.ownBlock])) h1 h2 h3 hl hn

/-- what Write makes of a file's bytes -/
def writeB (l : Bytes) (a : Nat) (b : Bytes) : Bytes := splice (padTo l (a + b.length)) a b
theorem writeB_length (l : Bytes) (a : Nat) (b : Bytes) : (writeB l a b).length = max l.length (a + b.length) := by
  unfold writeB
  rw [length_splice _ _ _ (by rw [padTo_length]; omega), padTo_length]

/-- a variable that a closure has caught -/
def Box (w : World) (ok : Nat → Prop) (b : Nat) (v : Value) (t : TypeId) : Prop := w.heap[b]? = some (.cells #[v] t (0, 0)) ∧ ¬ ok b
theorem Box.cell {w : World} {ok : Nat → Prop} {b : Nat} {v : Value} {t : TypeId} (h : Box w ok b v t) : w.cell? ⟨b, 0, none⟩ = some v := cell_of_row w b 0 _ t (0, 0) h.1
theorem Box.fr {w w' : World} {ok ok' : Nat → Prop} {b : Nat} {v : Value} {t : TypeId} (h : Box w ok b v t) (hf : Fr ok' w w') (hs : ∀ k, k < w.heap.size → ok' k → ok k) : w'.cell? ⟨b, 0, none⟩ = some v :=
  (World.cell?_of_block (a := ⟨b, 0, none⟩) (hf.block b (heap_lt h.1) (fun hk => h.2 (hs b (heap_lt h.1) hk)))).trans h.cell

/-- a row of bytes that is read, and stays -/
def Src (w : World) (ok : Nat → Prop) (A : Option Addr) (n : Nat) (b : Bytes) : Prop := U8.C w A n b ∧ ∀ ad, A = some ad → ¬ ok ad.block
theorem Src.fr {w w' : World} {ok ok' : Nat → Prop} {A : Option Addr} {n : Nat} {b : Bytes} (h : Src w ok A n b) (hf : Fr ok' w w') (hs : ∀ k, k < w.heap.size → ok' k → ok k) : U8.C w' A n b := by
  obtain ⟨hC, hA⟩ := h
  refine ⟨hC.1, hC.2.1, fun hn => ?_⟩
  obtain ⟨ad, rfl, hc⟩ := hC.2.2 hn
  refine ⟨ad, rfl, fun j p hj => ?_⟩
  obtain ⟨c, hl, hK, hcell⟩ := hc j p hj
  refine ⟨c, hl, hK, fun i u hu => ?_⟩
  have h1 := hcell i u hu
  have hb : (ad.add (j * U8.sz + i)).block = ad.block := by unfold Addr.add; split <;> rfl
  have hlt := World.block_lt_of_cell? _ _ h1
  rw [hb] at hlt
  refine (World.cell?_of_block ?_).trans h1
  rw [hb]
  exact hf.block _ hlt (fun hk => hA ad rfl (hs _ hlt hk))
end Go.Proofs.Ytgpniaplpibhfaa

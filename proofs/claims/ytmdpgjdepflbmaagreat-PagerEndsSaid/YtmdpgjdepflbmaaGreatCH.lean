/-
  The contract of longer, and of what Write does to a file.
-/
import Derived.Test.YtmdpgjdepflbmaaGreatCA
import Derived.Deep.RegionHeld3
import Derived.RegionTactic
import Derived.Deep.RegionLaw
import Derived.StillTailTactics
namespace Go.Proofs.YtmdpgjdepflbmaaGreat
open Go.RowKit Go.Maps Go.Proofs.YtmdpgjdepflbmaaGreatW.PrintWords Go.Proofs.YtmdpgjdepflbmaaGreatW.PrintLast Go.Proofs.YtmdpgjdepflbmaaGreatW.PrintMore
open Go.Proofs.YtmdpgjdepflbmaaGreat.PPagerFolds
set_option linter.unusedVariables false
set_option linter.unusedSimpArgs false

/-- at least n bytes, with noughts behind -/
def padTo (l : Bytes) (n : Nat) : Bytes := l ++ List.replicate (n - l.length) 0
theorem padTo_length (l : Bytes) (n : Nat) : (padTo l n).length = max l.length n := by simp [padTo]; omega

theorem longer_f (l : Bytes) (n : Nat) (hl : l.length ≤ 8388608) (hn : n ≤ 8388608) : disk_longer.f l n = some (padTo l n) := by
  unfold disk_longer.f
  have hw : wrap64 ((n : Int) - (l.length : Int)) = (n : Int) - (l.length : Int) := by unfold wrap64; omega
  by_cases h : (l.length : Int) ≥ n
  · rw [if_pos h]
    have : n - l.length = 0 := by omega
    simp [padTo, this]
  · rw [if_neg h, hw, if_pos (by omega), if_pos (by omega)]
    have : ((n : Int) - (l.length : Int)).toNat = n - l.length := by omega
    rw [this]; rfl

/-- append(v, make([]byte, m)...), v without room -/
theorem run_zeros_cut (w : World) (ty : TypeId) {i : TypeInfo} (hi : Tryz.prog.info? 5 = some i) (hz : i.zero = some (.int .u8 0)) (hsize : i.size = 1) (hby : i.bytes = 1) (g n m : Nat) (l : Bytes) (kx : IntKind) (hm : 0 < m) (hl : l.length = n)
    (hcells : ∀ j u, (l.map (Value.int .u8))[j]? = some u → w.cell? ((⟨g, 0, none⟩ : Addr).add j) = some u) (hb : n + m ≤ 16777216) :
    ∃ v' w', (Builtin.append_ #[48, 3] ty #[.slice (some ⟨g, 0, none⟩) n n, .int kx m]).run Tryz.prog w = .ok v' w' ∧ RB w' (fun k => w.heap.size ≤ k) v' (l ++ List.replicate m 0) ∧ w.grownBy w' none := by
  have hw : IntKind.i64.wrap (m : Int) = m := by rw [IntKind.wrap_i64]; omega
  have hneg : ¬ ((m : Int) < 0) := by omega
  have hbig : ¬ (281474976710656 < (m : Int) * (i.bytes : Int)) := by rw [hby]; omega
  have hn : ¬ (n + m ≤ n) := by omega
  have h63' : ¬ (9223372036854775807 < ((n : Int) + (m : Int))) := by omega
  have hfit := growslice_fits (show n < n + m by omega) (show (n + m) * i.bytes ≤ 140737488355328 by rw [hby]; omega)
  have h48' : ¬ (281474976710656 < Builtin.nextslicecap (n + m) n * i.bytes) := by omega
  have hmz : ¬ (m * i.size = 0) := by rw [hsize]; omega
  have hfo : (Builtin.firstCells i.size n (.slice (some ⟨g, 0, none⟩) n n)).run Tryz.prog w.drew = .ok (l.map (Value.int .u8)).toArray w.drew := by
    refine run_firstCells_some (P := Tryz.prog) w.drew i.size n _ n n _ (by rw [hsize]; simp [hl]) (by simpa using hcells)
  have h63 : n + m ≤ maxLen := by simp only [maxLen]; omega
  have hge := grownCap_ge w (n + m) n 5
  have hcm : grownCap w (n + m) n 5 ≤ maxLen := grownCap_le_maxLen w (n + m) n 5 h63
  have hnews : (Builtin.zeroCells (Value.int .u8 0).cells m).toList = (List.replicate m (0 : Int)).map (Value.int .u8) := by
    apply List.ext_getElem
    · simp [size_zeroCells, Value.cells]
    · intro j h1 h2
      simp [Builtin.zeroCells, Value.cells, Nat.mod_one]
  obtain ⟨cap, hcap⟩ : ∃ cap, cap = grownCap w (n + m) n 5 := ⟨_, rfl⟩
  rw [← hcap] at hge hcm
  have hszz : ∀ j, (Builtin.zeroCells (Value.int .u8 0).cells j).size = j := fun j => by rw [size_zeroCells]; simp [Value.cells]
  refine ⟨.slice (some ⟨w.heap.size, 0, none⟩) (n + m) cap, w.drew.alloc (.cells ((l.map (Value.int .u8)).toArray ++ Builtin.zeroCells (Value.int .u8 0).cells m ++ Builtin.zeroCells (Value.int .u8 0).cells (cap - (n + m))) 5), ?_, ⟨?_, .inr ⟨w.heap.size, cap, _, ?_, heap_alloc_new w.drew _, ?_, hcm, ?_, ?_, ?_⟩⟩, ⟨rfl, rfl, rfl, by simp, fun k hk _ => Below.heap_alloc w.drew _ k hk⟩⟩
  · simp [Builtin.append_, run_underlying Tryz.underlying48, run_underlying Tryz.underlying3, sizeOf, typeInfo, zeroValue, hi, hz, asInt, asIntOf, hw, hneg, hbig, hn, h63', h48', Question.forced, hfo, newRow, grownCap, hmz, hcap]
  · intro k hk
    have : w.heap.size = k := by simpa [Value.ownBlock] using hk
    omega
  · simp [hl]
  · simp [hl]; omega
  · simp [hszz, hl]; omega
  · left; simp [hszz, hl]; omega
  · have e1 : (l ++ List.replicate m (0 : Int)).length = (l.map (Value.int .u8)).length + m := by simp
    rw [e1]
    simp only [Array.toList_append, hnews, List.map_append]
    rw [List.take_append_of_le_length (by simp)]
    rw [List.take_of_length_le (by simp)]

/-- append by its run -/
theorem appendL_ {P : Program} {ops : Array Oper} {rest : List Oper} {o : Oper} {a : Act} {Q : Exit → Act → World → Prop} {W w1 : World} {v1 : Value} (hgd : o.guard = none) (s x : Operand) (t u : TypeId) (ho : o.op = .call { callee := .builtin .append, args := #[s, x], argTypes := #[t, u] }) {vs vx : Value} (hs : a.eval s = vs) (hx : a.eval x = vx)
    (hrun : (Builtin.append_ #[t, u] o.type #[vs, vx]).run P W = .ok v1 w1) (h : wpList P ops Q rest (a.put o.dst v1) w1) : wpList P ops Q (o :: rest) a W := by
  refine wpList_plain hgd fun K hK => ?_
  unfold Oper.wp execOp
  simp only [ho, resolve, invoke, builtin, Sem.run_bind, Sem.run_pure, Result.andThen_ok, List.map_toArray, List.map_cons, List.map_nil, hs, hx, hrun]
  exact hK _ _ h

set_option maxRecDepth 100000 in
theorem longer_cut {w : World} {P : Nat → Prop} {g : Nat} {cur : Array Value} {l : Bytes} (n : Nat) (hg : w.heap[g]? = some (.cells cur 5 (0, 0))) (hP : P g) (hlm : l.length ≤ maxLen) (hlc : l.length ≤ cur.size) (ht : cur.toList.take l.length = l.map (Value.int .u8)) (hl : l.length ≤ 8388608) (hn : n ≤ 8388608) :
    Calls Tryz.prog 100 #[.slice (some ⟨g, 0, none⟩) l.length l.length, .int .i64 n] w fun e w' => ∃ v', e = .returned v' ∧ RB w' (fun k => P k ∨ w.heap.size ≤ k) v' (padTo l n) ∧ Fr (fun k => (Value.slice (some ⟨g, 0, none⟩) l.length l.length).ownBlock = some k) w w' ∧
      (∀ b, v'.ownBlock = some b → (Value.slice (some ⟨g, 0, none⟩) l.length l.length).ownBlock = some b ∨ w.heap.size ≤ b) := by
  have hRB : RB w P (.slice (some ⟨g, 0, none⟩) l.length l.length) l := ⟨fun k hk => by have : g = k := by simpa [Value.ownBlock] using hk
                                                                                        subst this; exact hP, .inr ⟨g, l.length, cur, rfl, hg, Nat.le_refl _, hlm, hlc, .inr rfl, ht⟩⟩
  obtain ⟨A, c, hv, hle, hC⟩ := hRB.reads
  have hcells : ∀ j u, (l.map (Value.int .u8))[j]? = some u → w.cell? ((⟨g, 0, none⟩ : Addr).add j) = some u := by
    intro j u hu
    have e : ((⟨g, 0, none⟩ : Addr).add j) = ⟨g, j, none⟩ := by simp [Addr.add]; intro h; exact h.symm
    obtain ⟨hj1, _⟩ := List.getElem?_eq_some_iff.1 hu
    rw [List.length_map] at hj1
    rw [e, cell_of_row w g j cur 5 (0, 0) hg, ← hu, ← ht]
    simp [List.getElem?_take, hj1]
  by_cases c1 : (n : Int) ≤ l.length
  · have b1 : decide ((n : Int) ≤ (l.length : Int)) = true := decide_eq_true c1
    have hp : padTo l n = l := by have : n - l.length = 0 := by omega
                                  simp [padTo, this]
    rw [hp]
    have HR := Aside0.mk hRB
    clear hRB hv hC hcells ht hg hlc
    go_enter Tryz.func100, Tryz.ntmps100
    go_wp2
    go_ret
    exact ⟨_, rfl, HR.out.mono (fun k hk => .inl hk), Fr.refl _ _, fun b hb => .inl hb⟩
  · have b1 : decide ((n : Int) ≤ (l.length : Int)) = false := decide_eq_false c1
    obtain ⟨i5, hi, hz⟩ := Option.map_eq_some_iff.1 info5
    simp only [Prod.mk.injEq] at hz
    obtain ⟨m, hm⟩ : ∃ m : Nat, (m : Int) = (n : Int) - l.length := ⟨n - l.length, by omega⟩
    obtain ⟨v', w', hrun, hR, hgr⟩ := run_zeros_cut w 48 hi hz.1 hz.2.1 hz.2.2 g l.length m l .i64 (by omega) rfl hcells (by omega)
    have hsub : IntKind.i64.wrap ((n : Int) - (l.length : Int)) = m := by rw [IntKind.wrap_i64]; omega
    have hp : padTo l n = l ++ List.replicate m 0 := by have : n - l.length = m := by omega
                                                        simp [padTo, this]
    rw [hp]
    have HR := Aside0.mk (And.intro hR hgr)
    have hm0 : decide ((0 : Int) ≤ (m : Int)) = true := by simp
    clear hRB hv hC hcells ht hg hlc hi hz hR hgr hp hm hlm
    generalize l.length = L at *
    go_enter Tryz.func100, Tryz.ntmps100
    go_wp2_with (at_builtin; refine appendL_ rfl (.tmp 10) (.tmp 14) 48 3 rfl rfl rfl hrun ?_)
    go_ret
    exact ⟨_, rfl, HR.out.1.mono (fun k hk => .inr hk), (Fr.refl _ w).grown HR.out.2 (fun k hk => by cases hk), fun b hb => .inr (HR.out.1.1 b hb)⟩

theorem longer_any {w : World} {P : Nat → Prop} {v : Value} {l : Bytes} (n : Nat) (hR : RB w P v l) (hl : l.length ≤ 8388608) (hn : n ≤ 8388608) :
    Calls Tryz.prog 100 #[v, .int .i64 n] w fun e w' => ∃ v', e = .returned v' ∧ RB w' (fun k => P k ∨ w.heap.size ≤ k) v' (padTo l n) ∧ Fr (fun k => v.ownBlock = some k) w w' ∧
      (∀ b, v'.ownBlock = some b → v.ownBlock = some b ∨ w.heap.size ≤ b) := by
  rcases hR.cases with hRR | ⟨g, cur, rfl, hg, h1, h2, h3⟩
  · have hB : Below ({ w with heap := #[] } : World).heap.size { w with heap := #[] } w := ⟨rfl, rfl, rfl, Nat.zero_le _, fun k hk => absurd hk (Nat.not_lt_zero _)⟩
    have hR' : U8.R 5 w ({ w with heap := #[] } : World).heap.size (fun k => v.ownBlock = some k) v l := Kd.R_of_own (own_move (Kd.own_of_R hRR) (fun _ _ => rfl)) (fun k hk => hk)
    refine (disk_longer.calls (fun k => v.ownBlock = some k) v l n _ { w with heap := #[] } w hB hR' (longer_f l n hl hn)).mono ?_
    rintro e w' ⟨v', he, h1, h2, h3⟩
    have h1' : RB w' (fun k => v.ownBlock = some k ∨ w.heap.size ≤ k) v' (padTo l n) := RB.of_R h1
    exact ⟨v', he, h1'.same (fun _ _ => rfl) (fun k hk => (h1.1 k hk).imp (hR.1 k) id), ⟨h2.os, h2.tape, h2.output, h3.1, h3.2⟩, h1.1⟩
  · exact longer_cut n hg (hR.1 g (by simp [Value.ownBlock])) h1 h2 h3 hl hn

/-- what Write makes of a file's bytes -/
def writeB (l : Bytes) (a : Nat) (b : Bytes) : Bytes := splice (padTo l (a + b.length)) a b
theorem writeB_length (l : Bytes) (a : Nat) (b : Bytes) : (writeB l a b).length = max l.length (a + b.length) := by
  unfold writeB
  rw [length_splice _ _ _ (by rw [padTo_length]; omega), padTo_length]

/-- a variable that a closure has caught -/
def Box (w : World) (ok : Nat → Prop) (b : Nat) (v : Value) (t : TypeId) : Prop := w.heap[b]? = some (.cells #[v] t (0, 0)) ∧ ¬ ok b
theorem Box.cell {w : World} {ok : Nat → Prop} {b : Nat} {v : Value} {t : TypeId} (h : Box w ok b v t) : w.cell? ⟨b, 0, none⟩ = some v := cell_of_row w b 0 _ t (0, 0) h.1
theorem Box.fr {w w' : World} {ok ok' : Nat → Prop} {b : Nat} {v : Value} {t : TypeId} (h : Box w ok b v t) (hf : Fr ok' w w') (hs : ∀ k, k < w.heap.size → ok' k → ok k) : w'.cell? ⟨b, 0, none⟩ = some v :=
  (World.cell?_of_block (a := ⟨b, 0, none⟩) (hf.block b (heap_lt h.1) (fun hk => h.2 (hs b (heap_lt h.1) hk)))).trans h.cell

/-- a row of bytes that is read, and stays -/
def Src (w : World) (ok : Nat → Prop) (A : Option Addr) (n : Nat) (b : Bytes) : Prop := U8.C w A n b ∧ ∀ ad, A = some ad → ¬ ok ad.block
theorem Src.fr {w w' : World} {ok ok' : Nat → Prop} {A : Option Addr} {n : Nat} {b : Bytes} (h : Src w ok A n b) (hf : Fr ok' w w') (hs : ∀ k, k < w.heap.size → ok' k → ok k) : U8.C w' A n b := by
  obtain ⟨hC, hA⟩ := h
  refine ⟨hC.1, hC.2.1, fun hn => ?_⟩
  obtain ⟨ad, rfl, hc⟩ := hC.2.2 hn
  refine ⟨ad, rfl, fun j p hj => ?_⟩
  obtain ⟨c, hl, hK, hcell⟩ := hc j p hj
  refine ⟨c, hl, hK, fun i u hu => ?_⟩
  have h1 := hcell i u hu
  have hb : (ad.add (j * U8.sz + i)).block = ad.block := by unfold Addr.add; split <;> rfl
  have hlt := World.block_lt_of_cell? _ _ h1
  rw [hb] at hlt
  refine (World.cell?_of_block ?_).trans h1
  rw [hb]
  exact hf.block _ hlt (fun hk => hA ad rfl (hs _ hlt hk))
end Go.Proofs.YtmdpgjdepflbmaaGreat
namespace Go.Proofs.YtmdpgjdepflbmaaGreat
open Go.RowKit Go.Maps Go.Proofs.YtmdpgjdepflbmaaGreatW.PrintWords Go.Proofs.YtmdpgjdepflbmaaGreatW.PrintLast Go.Proofs.YtmdpgjdepflbmaaGreatW.PrintMore
open Go.Proofs.YtmdpgjdepflbmaaGreat.PPagerFolds
set_option linter.unusedVariables false
set_option linter.unusedSimpArgs false

abbrev bptr (b : Nat) : Value := .pointer (some ⟨b, 0, none⟩)

set_option maxRecDepth 100000 in
theorem write_old {w : World} {d : Nat} {M : DM} {ok : Nat → Prop} (h : DiskAt w d M ok) {bd bn ba bb : Nat} {s : ByteArray} {a nb cb : Nat} {Ab : Option Addr} {b : Bytes} {f : Bytes × Bytes}
    (hbd : Box w ok bd (dptr d) 25) (hbn : Box w ok bn (.string s) 9) (hba : Box w ok ba (.int .i64 a) 3) (hbb : Box w ok bb (.slice Ab nb cb) 48)
    (hs : s.size ≤ maxLen) (hsrc : Src w ok Ab nb b) (hnb : 0 < nb) (ha : a + nb ≤ 4194304) (hx : M.fs (nm s) = some f) (hf : f.2.length ≤ 4194304) :
    Calls Tryz.prog 131 #[bptr bd, bptr bn, bptr ba, bptr bb] w fun e w' => e = .returned (.int .i64 0) ∧ Left w d { M with fs := fun y => if y = nm s then some (f.1, writeB f.2 a b) else M.fs y } ok w' := by
  obtain ⟨bf, bt, blk, sv, ev, sz, h⟩ := h
  obtain ⟨g, hg⟩ := h.some_ hx
  obtain ⟨hcells, _, hR⟩ := h.file _ _ _ hg hx
  have hl := (h.move (w' := w.drew) (fun _ _ _ => rfl)).look hs
  rw [show blk s.data.toList = some g from hg] at hl
  simp only [ptrV] at hl
  have h0 := h.c0
  have cd := hbd.cell
  have cn := hbn.cell
  have ca := hba.cell
  have cb' := hbb.cell
  have cg : w.cell? ⟨g, 1, none⟩ = some (ev (nm s)) := cell_of_row w g 1 _ 105 (0, 0) hcells
  obtain ⟨Ae, ce, hev⟩ := RB.slice hR
  have HL := fun (W : World) (hW : RB W ok (ev (nm s)) f.2) => longer_any (a + nb) hW (by omega) (by omega)
  have H := Aside0.mk HL
  have HH := Aside0.mk h
  clear hl
  have hl := (h.move (w' := w.drew) (fun _ _ _ => rfl)).look hs
  rw [show blk s.data.toList = some g from hg] at hl
  simp only [ptrV] at hl
  clear HL h
  rw [hev] at cg
  go_enter Tryz.func131, Tryz.ntmps131
  go_wp2
  go_region
  clear hl
  go_wp2
  obtain ⟨w1, hw1⟩ : ∃ w1, w1 = w.drew := ⟨_, rfl⟩
  rw [← hw1]
  replace cg : w1.cell? ⟨g, 1, none⟩ = some (.slice Ae f.2.length ce) := by rw [hw1]; exact cg
  replace ca : w1.cell? ⟨ba, 0, none⟩ = some (.int .i64 a) := by rw [hw1]; exact ca
  replace cb' : w1.cell? ⟨bb, 0, none⟩ = some (.slice Ab nb cb) := by rw [hw1]; exact cb'
  have hfz : w1.frozen? ⟨g, 1, none⟩ = false := by rw [hw1]; exact frozen_of_cells hcells 1
  have hR1 : RB w1.drew ok (.slice Ae f.2.length ce) f.2 := by rw [← hev, hw1]; exact R_same hR (fun _ _ => rfl) hR.1
  have hfr : Fr ok w w1 := by rw [hw1]; exact (Fr.refl ok w).drew
  have hcells1 : w1.heap[g]? = some (.cells #[sv (nm s), .slice Ae f.2.length ce] 105 (0, 0)) := by rw [hw1, ← hev]; exact hcells
  have hrow := fun k hk => cells_ne (w := w1) hcells1 (Exists.choose_spec (R_block (w := w1) (R_same hR1 (fun _ _ => rfl) hR1.1) (k := k) hk)) (by decide)
  have HW1 := Aside0.mk hw1
  clear hw1
  have hsum : IntKind.i64.wrap ((a : Int) + nb) = (a : Int) + nb := IntWalk.i64_in _ (by omega)
  have LG : Calls Tryz.prog 100 #[.slice Ae f.2.length ce, .int .i64 ((a : Int) + nb)] w1.drew fun e w' => ∃ A2 c2, e = .returned (.slice A2 (padTo f.2 (a + nb)).length c2) ∧
      (RB w' (fun k => ok k ∨ w1.heap.size ≤ k) (.slice A2 (padTo f.2 (a + nb)).length c2) (padTo f.2 (a + nb)) ∧ Fr (fun k => (Value.slice Ae f.2.length ce).ownBlock = some k) w1 w' ∧
      (∀ b, (Value.slice A2 (padTo f.2 (a + nb)).length c2).ownBlock = some b → (Value.slice Ae f.2.length ce).ownBlock = some b ∨ w1.heap.size ≤ b)) ∧
      w'.cell? ⟨g, 1, none⟩ = some (.slice Ae f.2.length ce) ∧ w'.frozen? ⟨g, 1, none⟩ = false ∧ w'.cell? ⟨ba, 0, none⟩ = some (.int .i64 a) ∧ w'.cell? ⟨bb, 0, none⟩ = some (.slice Ab nb cb) := by
    have := longer_any (a + nb) hR1 (by omega) (by omega)
    rw [show (((a + nb : Nat)) : Int) = (a : Int) + nb from by omega] at this
    refine this.mono ?_
    rintro e w' ⟨v', rfl, r1, r2, r3⟩
    replace r2 := r2.undrew
    obtain ⟨A2, c2, rfl⟩ := RB.slice r1
    have hg1 : w'.heap[g]? = w1.heap[g]? := r2.block g (heap_lt hcells1) (fun e => hrow g e rfl)
    have hb1 : ∀ {b v t}, Box w ok b v t → w'.heap[b]? = w1.heap[b]? := fun {b v t} hb => r2.block b (by rw [HW1.out]; exact heap_lt hb.1) (fun e => hb.2 (hR1.1 b e))
    refine ⟨A2, c2, rfl, ⟨r1, r2, r3⟩, ?_, ?_, ?_, ?_⟩
    · rw [World.cell?_of_block (a := ⟨g, 1, none⟩) hg1]; exact cg
    · rw [World.frozen?_of_block (a := ⟨g, 1, none⟩) hg1]; exact hfz
    · rw [World.cell?_of_block (a := ⟨ba, 0, none⟩) (hb1 hba)]; exact ca
    · rw [World.cell?_of_block (a := ⟨bb, 0, none⟩) (hb1 hbb)]; exact cb'
  have HLG := Aside0.mk LG
  have HR1 := Aside0.mk hR1
  have HFR := Aside0.mk hfr
  have HC1 := Aside0.mk hcells1
  have HROW := Aside0.mk hrow
  have HHR := Aside0.mk hR
  have HCELLS := Aside0.mk hcells
  have HEV := Aside0.mk hev
  have HGX := Aside0.mk hg
  have HX := Aside0.mk hx
  clear LG hR1 hfr hcells1 hrow hR hcells hev H hg hx
  generalize hL2 : (padTo f.2 (a + nb)).length = L2 at *
  generalize hL1 : f.2.length = L1 at *
  have HL2 := Aside0.mk hL2
  have HL1 := Aside0.mk hL1
  clear hL2 hL1
  refine start_ (n := 13) (S := fun w' => w'.cell? ⟨g, 1, none⟩ = some (.slice Ae L1 ce) ∧ w'.cell? ⟨ba, 0, none⟩ = some (.int .i64 a) ∧ w'.cell? ⟨bb, 0, none⟩ = some (.slice Ab nb cb)) (ds := [12]) #[false, false, false, false, false, false, false, false, false, false, false, false, false] (by kernel_rfl) rfl rfl ⟨cg, ca, cb'⟩ (fun hHeld => ?_)
  refine pure_ (i := 0) (N := some 28) (v := ?_) (a' := ?_) #[true, false, false, false, false, false, false, false, false, false, false, false, false] rfl rfl (by kernel_rfl) (fun _ _ _ h => h) (Or.inl ⟨by rfl, ?_⟩) ?_ ?_
  rotate_left
  · intro w'
    go_simp
    with_reducible rfl
  rotate_left
  · simp only [Act.put, List.setIfInBounds_toArray, List.set_cons_zero, List.set_cons_succ, i64_w, i32_w]
    rfl
  refine pure_ (i := 1) (N := some 29) (v := ?_) (a' := ?_) #[true, true, false, false, false, false, false, false, false, false, false, false, false] rfl rfl (by kernel_rfl) (fun _ _ _ h => h) (Or.inl ⟨by rfl, ?_⟩) ?_ ?_
  rotate_left
  · intro w'
    go_simp
    with_reducible rfl
  rotate_left
  · simp only [Act.put, List.setIfInBounds_toArray, List.set_cons_zero, List.set_cons_succ, i64_w, i32_w]
    rfl
  refine pure_ (i := 2) (N := some 30) (v := ?_) (a' := ?_) #[true, true, true, false, false, false, false, false, false, false, false, false, false] rfl rfl (by kernel_rfl) (fun _ _ _ h => h) (Or.inl ⟨by rfl, ?_⟩) ?_ ?_
  rotate_left
  · intro w'
    go_simp
    with_reducible rfl
  rotate_left
  · simp only [Act.put, List.setIfInBounds_toArray, List.set_cons_zero, List.set_cons_succ, i64_w, i32_w]
    rfl
  refine pure_ (i := 3) (N := some 31) (v := ?_) (a' := ?_) #[true, true, true, true, false, false, false, false, false, false, false, false, false] rfl rfl (by kernel_rfl) (fun _ _ _ h => h) (Or.inl ⟨by rfl, ?_⟩) ?_ ?_
  rotate_left
  · intro w'
    go_simp
    with_reducible rfl
  rotate_left
  · simp only [Act.put, List.setIfInBounds_toArray, List.set_cons_zero, List.set_cons_succ, i64_w, i32_w]
    rfl
  refine take_ (i := 4) (N := some 32) (v := ?_) (a' := ?_) #[true, true, true, true, true, false, false, false, false, false, false, false, false] rfl rfl (by kernel_rfl) (fun _ _ _ h => h) (Or.inl ⟨by rfl, ?_⟩) hHeld ?_ ?_
  rotate_left
  · rintro w' ⟨s0, s1, s2⟩
    go_simp
    with_reducible rfl
  rotate_left
  · simp only [Act.put, List.setIfInBounds_toArray, List.set_cons_zero, List.set_cons_succ, i64_w, i32_w]
    rfl
  refine take_ (i := 5) (N := some 33) (v := ?_) (a' := ?_) #[true, true, true, true, true, true, false, false, false, false, false, false, false] rfl rfl (by kernel_rfl) (fun _ _ _ h => h) (Or.inl ⟨by rfl, ?_⟩) hHeld ?_ ?_
  rotate_left
  · rintro w' ⟨s0, s1, s2⟩
    go_simp
    with_reducible rfl
  rotate_left
  · simp only [Act.put, List.setIfInBounds_toArray, List.set_cons_zero, List.set_cons_succ, i64_w, i32_w]
    rfl
  refine take_ (i := 6) (N := some 34) (v := ?_) (a' := ?_) #[true, true, true, true, true, true, true, false, false, false, false, false, false] rfl rfl (by kernel_rfl) (fun _ _ _ h => h) (Or.inl ⟨by rfl, ?_⟩) hHeld ?_ ?_
  rotate_left
  · rintro w' ⟨s0, s1, s2⟩
    go_simp
    with_reducible rfl
  rotate_left
  · simp only [Act.put, List.setIfInBounds_toArray, List.set_cons_zero, List.set_cons_succ, i64_w, i32_w]
    rfl
  refine pure_ (i := 7) (N := some 35) (v := ?_) (a' := ?_) #[true, true, true, true, true, true, true, true, false, false, false, false, false] rfl rfl (by kernel_rfl) (fun _ _ _ h => h) (Or.inl ⟨by rfl, ?_⟩) ?_ ?_
  rotate_left
  · intro w'
    go_simp
    with_reducible rfl
  rotate_left
  · simp only [Act.put, List.setIfInBounds_toArray, List.set_cons_zero, List.set_cons_succ, i64_w, i32_w]
    rfl
  refine pure_ (i := 8) (N := some 36) (v := ?_) (a' := ?_) #[true, true, true, true, true, true, true, true, true, false, false, false, false] rfl rfl (by kernel_rfl) (fun _ _ _ h => h) (Or.inl ⟨by rfl, ?_⟩) ?_ ?_
  rotate_left
  · intro w'
    go_simp
    with_reducible rfl
  rotate_left
  · simp only [Act.put, List.setIfInBounds_toArray, List.set_cons_zero, List.set_cons_succ, i64_w, i32_w]
    rfl
  refine one_ (i := 9) (N := some 37) #[true, true, true, true, true, true, true, true, true, true, false, false, false] rfl rfl (by kernel_rfl) (by decide) (fun K hK => ?_)
  refine goes_ Tryz.func100 (by kernel_rfl) rfl #[.slice Ae L1 ce, .int .i64 ((a : Int) + nb)] (by rfl) rfl rfl (by simp only [List.map_toArray, List.map_cons, List.map_nil]; rfl) ?_
  refine HLG.out.mono ?_
  rintro e w2 ⟨A2, c2, rfl, hq2, cg2, fz2, ca2, cb2⟩
  have HQ2 := Aside0.mk hq2
  clear hq2
  refine ⟨_, rfl, ?_⟩
  refine hK.out _ _ ⟨cg2, ca2, cb2⟩ (fun hHeld => ?_)
  clear hK K
  refine norm_ (a' := ?_) ?_ ?_
  rotate_left
  · show Act.put _ (some 37) _ = _
    simp only [Act.put, List.setIfInBounds_toArray, List.set_cons_zero, List.set_cons_succ, i64_w, i32_w]
    rfl
  refine pure_ (i := 10) (N := some 38) (v := ?_) (a' := ?_) #[true, true, true, true, true, true, true, true, true, true, true, false, false] rfl rfl (by kernel_rfl) (fun _ _ _ h => h) (Or.inl ⟨by rfl, ?_⟩) ?_ ?_
  rotate_left
  · intro w'
    go_simp
    with_reducible rfl
  rotate_left
  · simp only [Act.put, List.setIfInBounds_toArray, List.set_cons_zero, List.set_cons_succ, i64_w, i32_w]
    rfl
  refine pure_ (i := 11) (N := some 39) (v := ?_) (a' := ?_) #[true, true, true, true, true, true, true, true, true, true, true, true, false] rfl rfl (by kernel_rfl) (fun _ _ _ h => h) (Or.inl ⟨by rfl, ?_⟩) ?_ ?_
  rotate_left
  · intro w'
    go_simp
    with_reducible rfl
  rotate_left
  · simp only [Act.put, List.setIfInBounds_toArray, List.set_cons_zero, List.set_cons_succ, i64_w, i32_w]
    rfl
  refine last_ (i := 12) (N := none) #[true, true, true, true, true, true, true, true, true, true, true, true, true] rfl rfl (by kernel_rfl) (by decide) (fun K hK => ?_)
  refine skip_ (w1 := ?_) (by rfl) rfl ?_ ?_
  rotate_left
  · go_simp
    rfl
  refine hK.out _ _ ?_
  clear hK K
  refine done_ (by kernel_rfl) ?_
  go_wp2
  obtain ⟨hR2, hF2, hat2⟩ := HQ2.out
  -- the world behind the store
  obtain ⟨w3, hw3⟩ : ∃ w3, w3 = w2.setCell ⟨g, 1, none⟩ (.slice A2 L2 c2) := ⟨_, rfl⟩
  rw [← hw3]
  have hfr := HFR.out
  have hcells1 := HC1.out
  have hg2 : w2.heap[g]? = w1.heap[g]? := hF2.block g (heap_lt hcells1) (fun e => HROW.out g e rfl)
  have hg3 : w3.heap[g]? = some (.cells #[sv (nm s), .slice A2 L2 c2] 105 (0, 0)) := by rw [hw3]; rw [hcells1] at hg2; simp [World.setCell, Array.getElem?_modify, hg2]
  have hgw : w.heap[g]? = some (.cells #[sv (nm s), .slice Ae L1 ce] 105 (0, 0)) := by rw [← HEV.out]; exact HCELLS.out
  have hF23 : Fr ok w w3 := by
    rw [hw3]
    refine (hfr.trans hF2 (fun k hk => .inl (HR1.out.1 k hk))).set_ (p := ⟨g, 1, none⟩) (.inl (HH.out.okb _ _ HGX.out)) _
  have hbox : ∀ {b v t}, Box w ok b v t → w3.cell? ⟨b, 0, none⟩ = some v := fun hb => hb.fr hF23 (fun _ _ hk => hk)
  have cg3 : w3.cell? ⟨g, 1, none⟩ = some (.slice A2 L2 c2) := cell_of_row w3 g 1 _ 105 (0, 0) hg3
  have ca3 := hbox hba
  have cb3 := hbox hbb
  have hR3 : RB w3 (fun k => ok k ∨ w1.heap.size ≤ k) (.slice A2 L2 c2) (padTo f.2 (a + nb)) := by
    refine R_same hR2 (fun k hk => ?_) hR2.1
    rw [hw3]
    refine Below.heap_setCell _ _ _ _ ?_
    rintro rfl
    obtain ⟨cs, hcs⟩ := R_block hR2 hk
    rw [hg2, hcells1] at hcs
    injection hcs with hcs
    injection hcs with _ e
    exact absurd e (by decide)
  have hC3 : U8.C w3 Ab nb b := hsrc.fr hF23 (fun _ _ hk => hk)
  have hbl : b.length = nb := hC3.1
  obtain ⟨A', m, c', w4, hcut, hcopy, hR4, hg4⟩ := copyB (cb := cb) hR3 a hC3 hnb (by rw [padTo_length]; omega)
  have hcp : ∀ ty, (Builtin.copy_ #[48, 48] ty #[.slice A' m c', .slice Ab nb cb]).run Tryz.prog w3.drew = .ok (.int .i64 nb) w4.drew := fun ty => hcopy 1 ty
  clear hcopy
  have HRest := Aside0.mk (And.intro hR4 (And.intro hg4 (And.intro hg3 (And.intro hF23 (And.intro hg2 (And.intro hF2 hat2))))))
  have HW3 := Aside0.mk hw3
  clear hw3
  clear hR4 hg4 hR3 hC3 hR2 hF2 hat2 hbox hF23 hgw hg3 hg2 hfr hcells1
  refine start_ (n := 8) (S := fun w' => w'.cell? ⟨g, 1, none⟩ = some (.slice A2 L2 c2) ∧ w'.cell? ⟨ba, 0, none⟩ = some (.int .i64 a) ∧ w'.cell? ⟨bb, 0, none⟩ = some (.slice Ab nb cb)) (ds := [7]) #[false, false, false, false, false, false, false, false] (by kernel_rfl) rfl rfl ⟨cg3, ca3, cb3⟩ (fun hHeld => ?_)
  refine pure_ (i := 0) (N := some 40) (v := ?_) (a' := ?_) #[true, false, false, false, false, false, false, false] rfl rfl (by kernel_rfl) (fun _ _ _ h => h) (Or.inl ⟨by rfl, ?_⟩) ?_ ?_
  rotate_left
  · intro w'
    go_simp
    with_reducible rfl
  rotate_left
  · simp only [Act.put, List.setIfInBounds_toArray, List.set_cons_zero, List.set_cons_succ, i64_w, i32_w]
    rfl
  refine pure_ (i := 1) (N := some 41) (v := ?_) (a' := ?_) #[true, true, false, false, false, false, false, false] rfl rfl (by kernel_rfl) (fun _ _ _ h => h) (Or.inl ⟨by rfl, ?_⟩) ?_ ?_
  rotate_left
  · intro w'
    go_simp
    with_reducible rfl
  rotate_left
  · simp only [Act.put, List.setIfInBounds_toArray, List.set_cons_zero, List.set_cons_succ, i64_w, i32_w]
    rfl
  refine pure_ (i := 2) (N := some 42) (v := ?_) (a' := ?_) #[true, true, true, false, false, false, false, false] rfl rfl (by kernel_rfl) (fun _ _ _ h => h) (Or.inl ⟨by rfl, ?_⟩) ?_ ?_
  rotate_left
  · intro w'
    go_simp
    with_reducible rfl
  rotate_left
  · simp only [Act.put, List.setIfInBounds_toArray, List.set_cons_zero, List.set_cons_succ, i64_w, i32_w]
    rfl
  refine take_ (i := 3) (N := some 43) (v := ?_) (a' := ?_) #[true, true, true, true, false, false, false, false] rfl rfl (by kernel_rfl) (fun _ _ _ h => h) (Or.inl ⟨by rfl, ?_⟩) hHeld ?_ ?_
  rotate_left
  · rintro w' ⟨s0, s1, s2⟩
    go_simp
    with_reducible rfl
  rotate_left
  · simp only [Act.put, List.setIfInBounds_toArray, List.set_cons_zero, List.set_cons_succ, i64_w, i32_w]
    rfl
  refine take_ (i := 4) (N := some 44) (v := ?_) (a' := ?_) #[true, true, true, true, true, false, false, false] rfl rfl (by kernel_rfl) (fun _ _ _ h => h) (Or.inl ⟨by rfl, ?_⟩) hHeld ?_ ?_
  rotate_left
  · rintro w' ⟨s0, s1, s2⟩
    go_simp
    with_reducible rfl
  rotate_left
  · simp only [Act.put, List.setIfInBounds_toArray, List.set_cons_zero, List.set_cons_succ, i64_w, i32_w]
    rfl
  refine pure_ (i := 5) (N := some 45) (v := ?_) (a' := ?_) #[true, true, true, true, true, true, false, false] rfl rfl (by kernel_rfl) (fun _ _ _ h => h) (Or.inl ⟨by rfl, ?_⟩) ?_ ?_
  rotate_left
  · intro w'
    go_simp
    with_reducible rfl
  rotate_left
  · simp only [Act.put, List.setIfInBounds_toArray, List.set_cons_zero, List.set_cons_succ, i64_w, i32_w]
    rfl
  refine take_ (i := 6) (N := some 46) (v := ?_) (a' := ?_) #[true, true, true, true, true, true, true, false] rfl rfl (by kernel_rfl) (fun _ _ _ h => h) (Or.inl ⟨by rfl, ?_⟩) hHeld ?_ ?_
  rotate_left
  · rintro w' ⟨s0, s1, s2⟩
    go_simp
    with_reducible rfl
  rotate_left
  · simp only [Act.put, List.setIfInBounds_toArray, List.set_cons_zero, List.set_cons_succ, i64_w, i32_w]
    rfl
  refine last_ (i := 7) (N := some 47) #[true, true, true, true, true, true, true, true] rfl rfl (by kernel_rfl) (by decide) (fun K hK => ?_)
  refine value_ (v := .int .i64 nb) (w1 := w4.drew) (by rfl) rfl ?_ ?_
  · go_simp
  refine hK.out _ _ ?_
  clear hK K
  refine norm_ (a' := ?_) ?_ ?_
  rotate_left
  · show Act.put _ (some 47) _ = _
    simp only [Act.put, List.setIfInBounds_toArray, List.set_cons_zero, List.set_cons_succ, i64_w, i32_w]
    rfl
  refine done_ (by kernel_rfl) ?_
  go_wp2
  go_ret
  obtain ⟨hR4, hg4, hg3, hF23, hg2, hF2, hat2⟩ := HRest.out
  have hsz : w1.heap.size = w.heap.size := by rw [HW1.out]; rfl
  rw [hsz] at hat2 hR4
  have hold : ∀ k, (Value.slice A2 L2 c2).ownBlock = some k → k ≠ g := by
    rintro k hk rfl
    rcases hat2 k hk with h | h
    · exact HROW.out k h rfl
    · have := heap_lt HCELLS.out; omega
  refine ⟨rfl, fun k => ok k ∨ w.heap.size ≤ k, ⟨bf, bt, blk, sv, _, sz, HH.out.setSeen (w1 := w4.drew) (v1 := .slice A2 L2 c2) (l1 := writeB f.2 a b) HGX.out HX.out ?_ ?_ ?_ ?_ (fun k hk => .inl hk)⟩, fun k hk => hk, ?_⟩
  · exact (hg4.block g (heap_lt hg3) (fun e => hold g e.symm rfl)).trans hg3
  · intro k hok hk hne hno
    have e1 : (Value.slice A2 L2 c2).ownBlock ≠ some k := fun e => by
      rcases hat2 k e with h | h
      · rw [HEV.out] at hno; exact hno h
      · omega
    have s1 : w3.heap.size = w2.heap.size := by rw [HW3.out]; simp [World.setCell]
    have s2 : w1.heap.size ≤ w2.heap.size := hF2.size
    refine (hg4.block k (by omega) (fun e => e1 e.symm)).trans ?_
    rw [HW3.out, Below.heap_setCell _ _ _ _ (by exact hne), hF2.block k (by omega) (fun e => hno (by rw [HEV.out]; exact e)), HW1.out]
    rfl
  · have hbl : b.length = nb := hsrc.1.1
    have e : writeB f.2 a b = splice (padTo f.2 (a + nb)) a b := by unfold writeB; rw [hbl]
    rw [e]
    exact R_same hR4 (fun _ _ => rfl) hR4.1
  · intro k hk
    rw [HEV.out]
    exact hat2 k hk
  · refine (hF23.grown hg4 (fun k hk => ?_)).drew
    rcases hat2 k hk with h | h
    · exact .inl (HR1.out.1 k h)
    · exact .inr h
end Go.Proofs.YtmdpgjdepflbmaaGreat

/-
  The walk of Write's closure at a file that is not there.
-/
namespace Go.Proofs.YtmdpgjdepflbmaaGreat
open Go.RowKit Go.Maps Go.Proofs.YtmdpgjdepflbmaaGreatW.PrintWords Go.Proofs.YtmdpgjdepflbmaaGreatW.PrintLast Go.Proofs.YtmdpgjdepflbmaaGreatW.PrintMore
open Go.Proofs.YtmdpgjdepflbmaaGreat.PPagerFolds
set_option linter.unusedVariables false
set_option linter.unusedSimpArgs false

theorem DRep.sz_eq {w : World} {d : Nat} {M : DM} {ok : Nat → Prop} {bf bt : Nat} {blk : Name → Option Nat} {sv ev : Name → Value} {sz : Nat} (h : DRep w d M ok bf bt blk sv ev sz) {L : List Name} (hL : L.Pairwise (· < ·)) (hm : ∀ x, x ∈ L ↔ (M.fs x).isSome = true) : L.length = sz :=
  h.hf.size_names Tryz.underlying9 ⟨hL, fun x => by rw [hm, h.dom]⟩

theorem write_full {w : World} {d : Nat} {M : DM} {ok : Nat → Prop} (h : DiskAt w d M ok) {bd bn ba bb : Nat} {s : ByteArray}
    (hbd : Box w ok bd (dptr d) 25) (hbn : Box w ok bn (.string s) 9) (hs : s.size ≤ maxLen) (hx : M.fs (nm s) = none)
    {L : List Name} (hL : L.Pairwise (· < ·)) (hm : ∀ x, x ∈ L ↔ (M.fs x).isSome = true) (h16 : L.length = 16) :
    Calls Tryz.prog 131 #[bptr bd, bptr bn, bptr ba, bptr bb] w fun e w' => e = .returned (.int .i64 10) ∧ ∃ n, w' = w.drewN n := by
  obtain ⟨bf, bt, blk, sv, ev, sz, h⟩ := h
  have hsz := h.sz_eq hL hm
  have hl := (h.move (w' := w.drew) (fun _ _ _ => rfl)).look hs
  rw [show blk s.data.toList = none from h.none_ hx] at hl
  simp only [ptrV] at hl
  have hlen := fun ty => PMap.len (h.move (w' := w.drew) (fun _ _ _ => rfl)).hf Tryz.underlying97 ty
  rw [← hsz, h16] at hlen
  have h0 := h.c0
  have cd := hbd.cell
  have cn := hbn.cell
  clear h hsz hL hm h16 hx hs
  go_enter Tryz.func131, Tryz.ntmps131
  go_wp2
  go_region
  go_wp2
  go_ret
  exact ⟨rfl, 1, rfl⟩

set_option maxRecDepth 100000 in
theorem write_new {w : World} {d : Nat} {M : DM} {ok : Nat → Prop} (h : DiskAt w d M ok) {bd bn ba bb : Nat} {s : ByteArray} {a nb cb : Nat} {Ab : Option Addr} {b : Bytes}
    (hbd : Box w ok bd (dptr d) 25) (hbn : Box w ok bn (.string s) 9) (hba : Box w ok ba (.int .i64 a) 3) (hbb : Box w ok bb (.slice Ab nb cb) 48)
    (hs : s.size ≤ maxLen) (hsrc : Src w ok Ab nb b) (hnb : 0 < nb) (ha : a + nb ≤ 4194304) (hx : M.fs (nm s) = none)
    {L : List Name} (hL : L.Pairwise (· < ·)) (hm : ∀ x, x ∈ L ↔ (M.fs x).isSome = true) (h16 : L.length < 16) :
    Calls Tryz.prog 131 #[bptr bd, bptr bn, bptr ba, bptr bb] w fun e w' => e = .returned (.int .i64 0) ∧ Left w d { M with fs := fun y => if y = nm s then some ([], writeB [] a b) else M.fs y } ok w' := by
  obtain ⟨bf, bt, blk, sv, ev, sz, h⟩ := h
  have hsz := h.sz_eq hL hm
  have hl := (h.move (w' := w.drew) (fun _ _ _ => rfl)).look hs
  rw [show blk s.data.toList = none from h.none_ hx] at hl
  simp only [ptrV] at hl
  have hlen := fun ty => PMap.len (h.move (w' := w.drew) (fun _ _ _ => rfl)).hf Tryz.underlying97 ty
  have hne : ((sz : Int) == 16) = false := by simp; omega
  have h0 := h.c0
  have cd := hbd.cell
  have cn := hbn.cell
  have hW6 : ∀ k, ok k → k < w.heap.size → (((w.alloc (.cells #[.slice none 0 0, .slice none 0 0] 105)).drew).drew).heap[k]? = w.heap[k]? := fun k _ hk => Below.heap_alloc w _ k hk
  obtain ⟨wI, hrun, hP, hturn⟩ := (h.move hW6).hf.store Tryz.underlying9 Tryz.underlying97 (s := s) hs (by unfold maxLen; omega) w.heap.size
  have HT := Aside0.mk (And.intro hP hturn)
  have HH0 := Aside0.mk h
  have HLS := Aside0.mk (And.intro hsz h16)
  have hltd : d < w.heap.size := h.lt
  have c1 : ∀ o, (w.alloc o).cell? ⟨bd, 0, none⟩ = some (dptr d) := fun o => (World.cell?_alloc_lt w o ⟨bd, 0, none⟩ (heap_lt hbd.1)).trans cd
  have c2 : ∀ o, (w.alloc o).cell? ⟨bn, 0, none⟩ = some (.string s) := fun o => (World.cell?_alloc_lt w o ⟨bn, 0, none⟩ (heap_lt hbn.1)).trans cn
  have c3 : ∀ o, (w.alloc o).cell? ⟨d, 0, none⟩ = some (.map (some bf)) := fun o => (World.cell?_alloc_lt w o ⟨d, 0, none⟩ hltd).trans h0
  clear h hsz hP hturn hW6 h16 hL hm
  go_enter Tryz.func131, Tryz.ntmps131
  go_wp2
  go_region
  go_wp2
  go_region
  go_wp2
  -- TAIL
  obtain ⟨hP, hturn⟩ := HT.out
  have h0' := HH0.out
  have hgr := hturn.grown
  obtain ⟨g, hgeq⟩ : ∃ g, g = w.heap.size := ⟨_, rfl⟩
  obtain ⟨ok1, hok1⟩ : ∃ ok1 : Nat → Prop, ok1 = fun k => ok k ∨ k = w.heap.size := ⟨_, rfl⟩
  have hbf : bf < w.heap.size := h0'.hf.lt
  have hsame : ∀ k, k < w.heap.size → k ≠ bf → wI.heap[k]? = w.heap[k]? := fun k hk hne =>
    (hgr.block k (by show k < (w.heap.push _).size; simp; omega) (fun e => hne (Option.some.inj e))).trans (Below.heap_alloc w _ k hk)
  have hnew : wI.heap[g]? = some (.cells #[.slice none 0 0, .slice none 0 0] 105 (0, 0)) := by
    rw [hgeq]
    refine (hgr.block w.heap.size (by show _ < (w.heap.push _).size; simp) (fun e => ?_)).trans (by show (w.heap.push _)[w.heap.size]? = _; simp)
    have := Option.some.inj e; omega
  have hszI : w.heap.size + 1 ≤ wI.heap.size := by
    have h1 := hgr.size
    have e : (((w.alloc (.cells #[.slice none 0 0, .slice none 0 0] 105)).drew).drew).heap.size = w.heap.size + 1 := by show (w.heap.push _).size = _; exact Array.size_push ..
    rw [e] at h1; exact h1
  have hI := h0'.insert (w1 := wI) (g := g) (ok' := ok1) hx (by rw [hgeq]; exact hP) hnew (by omega) (fun k _ hk hne => hsame k hk hne) (fun k hk => by rw [hok1]; exact .inl hk) (by rw [hok1]; exact .inr hgeq)
  have hboxI : ∀ {b v t}, Box w ok b v t → Box wI ok1 b v t := fun {b v t} hb =>
    ⟨(hsame b (heap_lt hb.1) (fun e => hb.2 (e ▸ h0'.okf))).trans hb.1, by rw [hok1]; rintro (hk | hk); exact hb.2 hk; have := heap_lt hb.1; omega⟩
  have hFr0 : Fr ok w wI := ⟨hgr.os, hgr.tape, hgr.output, by omega, fun k hk hn => hsame k hk (fun e => hn (e ▸ h0'.okf))⟩
  have hsrcI : Src wI ok1 Ab nb b := ⟨hsrc.fr hFr0 (fun _ _ hk => hk), fun ad e => by
    rw [hok1]; rintro (hk | hk)
    · exact hsrc.2 ad e hk
    · obtain ⟨ad', e', hc⟩ := hsrc.1.2.2 hnb
      rw [e] at e'
      obtain rfl := Option.some.inj e'
      have hbl := hsrc.1.1
      obtain ⟨p, l, rfl⟩ : ∃ p l, b = p :: l := by cases b with | nil => simp at hbl; omega | cons p l => exact ⟨_, _, rfl⟩
      obtain ⟨c, hl, hK, hcell⟩ := hc 0 p rfl
      have hcc : c = [Value.int .u8 p] := hK
      subst hcc
      have h3 := World.block_lt_of_cell? _ _ (hcell 0 _ rfl)
      have hb : (ad.add (0 * U8.sz + 0)).block = ad.block := by unfold Addr.add; split <;> rfl
      rw [hb] at h3; omega⟩
  have hbaI := hboxI hba
  have hbbI := hboxI hbb
  obtain ⟨f, hfd⟩ : ∃ f : Bytes × Bytes, f = ([], []) := ⟨_, rfl⟩
  have hf : f.2.length ≤ 4194304 := by rw [hfd]; simp
  have HEND : Aside0 (∀ W, Left wI d { M with fs := fun y => if y = nm s then some (f.1, writeB f.2 a b) else if y = nm s then some ([], []) else M.fs y } ok1 W → Left w d { M with fs := fun y => if y = nm s then some ([], writeB [] a b) else M.fs y } ok W) := ⟨fun W hL => by
    have e : (fun y => if y = nm s then some (f.1, writeB f.2 a b) else if y = nm s then some ([], []) else M.fs y) = fun y => if y = nm s then some ([], writeB [] a b) else M.fs y := by
      funext y; by_cases e : y = nm s
      · simp [e, hfd]
      · simp [e]
    rw [e] at hL
    exact Left.trans (M := M) (fun k hk => by rw [hok1] at hk; rcases hk with hk | hk; exact .inl hk; exact .inr (by omega)) hFr0 hL⟩
  have hgeq' := hgeq.symm
  obtain ⟨M1, hM1⟩ : ∃ M1 : DM, M1 = { M with fs := fun y => if y = nm s then some ([], []) else M.fs y } := ⟨_, rfl⟩
  obtain ⟨blk1, hblk1⟩ : ∃ blk1 : Name → Option Nat, blk1 = fun y => if y = nm s then some g else blk y := ⟨_, rfl⟩
  obtain ⟨sv1, hsv1⟩ : ∃ sv1 : Name → Value, sv1 = fun y => if y = nm s then .slice none 0 0 else sv y := ⟨_, rfl⟩
  obtain ⟨ev1, hev1⟩ : ∃ ev1 : Name → Value, ev1 = fun y => if y = nm s then .slice none 0 0 else ev y := ⟨_, rfl⟩
  obtain ⟨sz1, hsz1⟩ : ∃ sz1 : Nat, sz1 = if (blk s.data.toList).isSome then sz else sz + 1 := ⟨_, rfl⟩
  rw [show ({ M with fs := fun y => if y = nm s then some (f.1, writeB f.2 a b) else if y = nm s then some ([], []) else M.fs y } : DM) = { M1 with fs := fun y => if y = nm s then some (f.1, writeB f.2 a b) else M1.fs y } from by subst hM1; rfl] at HEND
  have hx1 : M1.fs (nm s) = some f := by rw [hM1, hfd]; simp
  have hg : blk1 (nm s) = some g := by rw [hblk1]; simp
  have hI' : DRep wI d M1 ok1 bf bt blk1 sv1 ev1 sz1 := by rw [hM1, hblk1, hsv1, hev1, hsz1]; exact hI
  clear hM1 hblk1 hsv1 hev1 hsz1 hI hboxI hok1 hsrc hba hbb hfd HT HH0 HLS h0' hgr hturn hP hrun hsame hnew hx hFr0
  obtain ⟨hcells, _, hR⟩ := hI'.file _ _ _ hg hx1
  obtain ⟨Ae, ce, hev⟩ := RB.slice hR
  have ca := hbaI.cell
  have cb' := hbbI.cell
  have cg : wI.cell? ⟨g, 1, none⟩ = some (ev1 (nm s)) := cell_of_row wI g 1 _ 105 (0, 0) hcells
  rw [hev] at cg
  have HH := Aside0.mk hI'
  have H := Aside0.mk hx1
  clear hI'
  obtain ⟨w1, hw1⟩ : ∃ w1, w1 = wI := ⟨_, rfl⟩
  rw [hgeq', ← hw1]
  clear hgeq hgeq' hl hlen hne c1 c2 c3 hszI hltd
  replace cg : w1.cell? ⟨g, 1, none⟩ = some (.slice Ae f.2.length ce) := by rw [hw1]; exact cg
  replace ca : w1.cell? ⟨ba, 0, none⟩ = some (.int .i64 a) := by rw [hw1]; exact ca
  replace cb' : w1.cell? ⟨bb, 0, none⟩ = some (.slice Ab nb cb) := by rw [hw1]; exact cb'
  have hfz : w1.frozen? ⟨g, 1, none⟩ = false := by rw [hw1]; exact frozen_of_cells hcells 1
  have hR1 : RB w1.drew ok1 (.slice Ae f.2.length ce) f.2 := by rw [← hev, hw1]; exact R_same hR (fun _ _ => rfl) hR.1
  have hfr : Fr ok1 wI w1 := by rw [hw1]; exact Fr.refl ok1 wI
  have hcells1 : w1.heap[g]? = some (.cells #[sv1 (nm s), .slice Ae f.2.length ce] 105 (0, 0)) := by rw [hw1, ← hev]; exact hcells
  have hrow := fun k hk => cells_ne (w := w1) hcells1 (Exists.choose_spec (R_block (w := w1) (R_same hR1 (fun _ _ => rfl) hR1.1) (k := k) hk)) (by decide)
  have HW1 := Aside0.mk hw1
  clear hw1
  have hsum : IntKind.i64.wrap ((a : Int) + nb) = (a : Int) + nb := IntWalk.i64_in _ (by omega)
  have LG : Calls Tryz.prog 100 #[.slice Ae f.2.length ce, .int .i64 ((a : Int) + nb)] w1.drew fun e w' => ∃ A2 c2, e = .returned (.slice A2 (padTo f.2 (a + nb)).length c2) ∧
      (RB w' (fun k => ok1 k ∨ w1.heap.size ≤ k) (.slice A2 (padTo f.2 (a + nb)).length c2) (padTo f.2 (a + nb)) ∧ Fr (fun k => (Value.slice Ae f.2.length ce).ownBlock = some k) w1 w' ∧
      (∀ b, (Value.slice A2 (padTo f.2 (a + nb)).length c2).ownBlock = some b → (Value.slice Ae f.2.length ce).ownBlock = some b ∨ w1.heap.size ≤ b)) ∧
      w'.cell? ⟨g, 1, none⟩ = some (.slice Ae f.2.length ce) ∧ w'.frozen? ⟨g, 1, none⟩ = false ∧ w'.cell? ⟨ba, 0, none⟩ = some (.int .i64 a) ∧ w'.cell? ⟨bb, 0, none⟩ = some (.slice Ab nb cb) := by
    have := longer_any (a + nb) hR1 (by omega) (by omega)
    rw [show (((a + nb : Nat)) : Int) = (a : Int) + nb from by omega] at this
    refine this.mono ?_
    rintro e w' ⟨v', rfl, r1, r2, r3⟩
    replace r2 := r2.undrew
    obtain ⟨A2, c2, rfl⟩ := RB.slice r1
    have hg1 : w'.heap[g]? = w1.heap[g]? := r2.block g (heap_lt hcells1) (fun e => hrow g e rfl)
    have hb1 : ∀ {b v t}, Box wI ok1 b v t → w'.heap[b]? = w1.heap[b]? := fun {b v t} hb => r2.block b (by rw [HW1.out]; exact heap_lt hb.1) (fun e => hb.2 (hR1.1 b e))
    refine ⟨A2, c2, rfl, ⟨r1, r2, r3⟩, ?_, ?_, ?_, ?_⟩
    · rw [World.cell?_of_block (a := ⟨g, 1, none⟩) hg1]; exact cg
    · rw [World.frozen?_of_block (a := ⟨g, 1, none⟩) hg1]; exact hfz
    · rw [World.cell?_of_block (a := ⟨ba, 0, none⟩) (hb1 hbaI)]; exact ca
    · rw [World.cell?_of_block (a := ⟨bb, 0, none⟩) (hb1 hbbI)]; exact cb'
  have HLG := Aside0.mk LG
  have HR1 := Aside0.mk hR1
  have HFR := Aside0.mk hfr
  have HC1 := Aside0.mk hcells1
  have HROW := Aside0.mk hrow
  have HHR := Aside0.mk hR
  have HCELLS := Aside0.mk hcells
  have HEV := Aside0.mk hev
  have HGX := Aside0.mk hg
  have HX := Aside0.mk hx1
  clear LG hR1 hfr hcells1 hrow hR hcells hev H hg hx1
  generalize hL2 : (padTo f.2 (a + nb)).length = L2 at *
  generalize hL1 : f.2.length = L1 at *
  have HL2 := Aside0.mk hL2
  have HL1 := Aside0.mk hL1
  clear hL2 hL1
  refine start_ (n := 13) (S := fun w' => w'.cell? ⟨g, 1, none⟩ = some (.slice Ae L1 ce) ∧ w'.cell? ⟨ba, 0, none⟩ = some (.int .i64 a) ∧ w'.cell? ⟨bb, 0, none⟩ = some (.slice Ab nb cb)) (ds := [12]) #[false, false, false, false, false, false, false, false, false, false, false, false, false] (by kernel_rfl) rfl rfl ⟨cg, ca, cb'⟩ (fun hHeld => ?_)
  refine pure_ (i := 0) (N := some 28) (v := ?_) (a' := ?_) #[true, false, false, false, false, false, false, false, false, false, false, false, false] rfl rfl (by kernel_rfl) (fun _ _ _ h => h) (Or.inl ⟨by rfl, ?_⟩) ?_ ?_
  rotate_left
  · intro w'
    go_simp
    with_reducible rfl
  rotate_left
  · simp only [Act.put, List.setIfInBounds_toArray, List.set_cons_zero, List.set_cons_succ, i64_w, i32_w]
    rfl
  refine pure_ (i := 1) (N := some 29) (v := ?_) (a' := ?_) #[true, true, false, false, false, false, false, false, false, false, false, false, false] rfl rfl (by kernel_rfl) (fun _ _ _ h => h) (Or.inl ⟨by rfl, ?_⟩) ?_ ?_
  rotate_left
  · intro w'
    go_simp
    with_reducible rfl
  rotate_left
  · simp only [Act.put, List.setIfInBounds_toArray, List.set_cons_zero, List.set_cons_succ, i64_w, i32_w]
    rfl
  refine pure_ (i := 2) (N := some 30) (v := ?_) (a' := ?_) #[true, true, true, false, false, false, false, false, false, false, false, false, false] rfl rfl (by kernel_rfl) (fun _ _ _ h => h) (Or.inl ⟨by rfl, ?_⟩) ?_ ?_
  rotate_left
  · intro w'
    go_simp
    with_reducible rfl
  rotate_left
  · simp only [Act.put, List.setIfInBounds_toArray, List.set_cons_zero, List.set_cons_succ, i64_w, i32_w]
    rfl
  refine pure_ (i := 3) (N := some 31) (v := ?_) (a' := ?_) #[true, true, true, true, false, false, false, false, false, false, false, false, false] rfl rfl (by kernel_rfl) (fun _ _ _ h => h) (Or.inl ⟨by rfl, ?_⟩) ?_ ?_
  rotate_left
  · intro w'
    go_simp
    with_reducible rfl
  rotate_left
  · simp only [Act.put, List.setIfInBounds_toArray, List.set_cons_zero, List.set_cons_succ, i64_w, i32_w]
    rfl
  refine take_ (i := 4) (N := some 32) (v := ?_) (a' := ?_) #[true, true, true, true, true, false, false, false, false, false, false, false, false] rfl rfl (by kernel_rfl) (fun _ _ _ h => h) (Or.inl ⟨by rfl, ?_⟩) hHeld ?_ ?_
  rotate_left
  · rintro w' ⟨s0, s1, s2⟩
    go_simp
    with_reducible rfl
  rotate_left
  · simp only [Act.put, List.setIfInBounds_toArray, List.set_cons_zero, List.set_cons_succ, i64_w, i32_w]
    rfl
  refine take_ (i := 5) (N := some 33) (v := ?_) (a' := ?_) #[true, true, true, true, true, true, false, false, false, false, false, false, false] rfl rfl (by kernel_rfl) (fun _ _ _ h => h) (Or.inl ⟨by rfl, ?_⟩) hHeld ?_ ?_
  rotate_left
  · rintro w' ⟨s0, s1, s2⟩
    go_simp
    with_reducible rfl
  rotate_left
  · simp only [Act.put, List.setIfInBounds_toArray, List.set_cons_zero, List.set_cons_succ, i64_w, i32_w]
    rfl
  refine take_ (i := 6) (N := some 34) (v := ?_) (a' := ?_) #[true, true, true, true, true, true, true, false, false, false, false, false, false] rfl rfl (by kernel_rfl) (fun _ _ _ h => h) (Or.inl ⟨by rfl, ?_⟩) hHeld ?_ ?_
  rotate_left
  · rintro w' ⟨s0, s1, s2⟩
    go_simp
    with_reducible rfl
  rotate_left
  · simp only [Act.put, List.setIfInBounds_toArray, List.set_cons_zero, List.set_cons_succ, i64_w, i32_w]
    rfl
  refine pure_ (i := 7) (N := some 35) (v := ?_) (a' := ?_) #[true, true, true, true, true, true, true, true, false, false, false, false, false] rfl rfl (by kernel_rfl) (fun _ _ _ h => h) (Or.inl ⟨by rfl, ?_⟩) ?_ ?_
  rotate_left
  · intro w'
    go_simp
    with_reducible rfl
  rotate_left
  · simp only [Act.put, List.setIfInBounds_toArray, List.set_cons_zero, List.set_cons_succ, i64_w, i32_w]
    rfl
  refine pure_ (i := 8) (N := some 36) (v := ?_) (a' := ?_) #[true, true, true, true, true, true, true, true, true, false, false, false, false] rfl rfl (by kernel_rfl) (fun _ _ _ h => h) (Or.inl ⟨by rfl, ?_⟩) ?_ ?_
  rotate_left
  · intro w'
    go_simp
    with_reducible rfl
  rotate_left
  · simp only [Act.put, List.setIfInBounds_toArray, List.set_cons_zero, List.set_cons_succ, i64_w, i32_w]
    rfl
  refine one_ (i := 9) (N := some 37) #[true, true, true, true, true, true, true, true, true, true, false, false, false] rfl rfl (by kernel_rfl) (by decide) (fun K hK => ?_)
  refine goes_ Tryz.func100 (by kernel_rfl) rfl #[.slice Ae L1 ce, .int .i64 ((a : Int) + nb)] (by rfl) rfl rfl (by simp only [List.map_toArray, List.map_cons, List.map_nil]; rfl) ?_
  refine HLG.out.mono ?_
  rintro e w2 ⟨A2, c2, rfl, hq2, cg2, fz2, ca2, cb2⟩
  have HQ2 := Aside0.mk hq2
  clear hq2
  refine ⟨_, rfl, ?_⟩
  refine hK.out _ _ ⟨cg2, ca2, cb2⟩ (fun hHeld => ?_)
  clear hK K
  refine norm_ (a' := ?_) ?_ ?_
  rotate_left
  · show Act.put _ (some 37) _ = _
    simp only [Act.put, List.setIfInBounds_toArray, List.set_cons_zero, List.set_cons_succ, i64_w, i32_w]
    rfl
  refine pure_ (i := 10) (N := some 38) (v := ?_) (a' := ?_) #[true, true, true, true, true, true, true, true, true, true, true, false, false] rfl rfl (by kernel_rfl) (fun _ _ _ h => h) (Or.inl ⟨by rfl, ?_⟩) ?_ ?_
  rotate_left
  · intro w'
    go_simp
    with_reducible rfl
  rotate_left
  · simp only [Act.put, List.setIfInBounds_toArray, List.set_cons_zero, List.set_cons_succ, i64_w, i32_w]
    rfl
  refine pure_ (i := 11) (N := some 39) (v := ?_) (a' := ?_) #[true, true, true, true, true, true, true, true, true, true, true, true, false] rfl rfl (by kernel_rfl) (fun _ _ _ h => h) (Or.inl ⟨by rfl, ?_⟩) ?_ ?_
  rotate_left
  · intro w'
    go_simp
    with_reducible rfl
  rotate_left
  · simp only [Act.put, List.setIfInBounds_toArray, List.set_cons_zero, List.set_cons_succ, i64_w, i32_w]
    rfl
  refine last_ (i := 12) (N := none) #[true, true, true, true, true, true, true, true, true, true, true, true, true] rfl rfl (by kernel_rfl) (by decide) (fun K hK => ?_)
  refine skip_ (w1 := ?_) (by rfl) rfl ?_ ?_
  rotate_left
  · go_simp
    rfl
  refine hK.out _ _ ?_
  clear hK K
  refine done_ (by kernel_rfl) ?_
  go_wp2
  obtain ⟨hR2, hF2, hat2⟩ := HQ2.out
  -- the world behind the store
  obtain ⟨w3, hw3⟩ : ∃ w3, w3 = w2.setCell ⟨g, 1, none⟩ (.slice A2 L2 c2) := ⟨_, rfl⟩
  rw [← hw3]
  have hfr := HFR.out
  have hcells1 := HC1.out
  have hg2 : w2.heap[g]? = w1.heap[g]? := hF2.block g (heap_lt hcells1) (fun e => HROW.out g e rfl)
  have hg3 : w3.heap[g]? = some (.cells #[sv1 (nm s), .slice A2 L2 c2] 105 (0, 0)) := by rw [hw3]; rw [hcells1] at hg2; simp [World.setCell, Array.getElem?_modify, hg2]
  have hgw : wI.heap[g]? = some (.cells #[sv1 (nm s), .slice Ae L1 ce] 105 (0, 0)) := by rw [← HEV.out]; exact HCELLS.out
  have hF23 : Fr ok1 wI w3 := by
    rw [hw3]
    refine (hfr.trans hF2 (fun k hk => .inl (HR1.out.1 k hk))).set_ (p := ⟨g, 1, none⟩) (.inl (HH.out.okb _ _ HGX.out)) _
  have hbox : ∀ {b v t}, Box wI ok1 b v t → w3.cell? ⟨b, 0, none⟩ = some v := fun hb => hb.fr hF23 (fun _ _ hk => hk)
  have cg3 : w3.cell? ⟨g, 1, none⟩ = some (.slice A2 L2 c2) := cell_of_row w3 g 1 _ 105 (0, 0) hg3
  have ca3 := hbox hbaI
  have cb3 := hbox hbbI
  have hR3 : RB w3 (fun k => ok1 k ∨ w1.heap.size ≤ k) (.slice A2 L2 c2) (padTo f.2 (a + nb)) := by
    refine R_same hR2 (fun k hk => ?_) hR2.1
    rw [hw3]
    refine Below.heap_setCell _ _ _ _ ?_
    rintro rfl
    obtain ⟨cs, hcs⟩ := R_block hR2 hk
    rw [hg2, hcells1] at hcs
    injection hcs with hcs
    injection hcs with _ e
    exact absurd e (by decide)
  have hC3 : U8.C w3 Ab nb b := hsrcI.fr hF23 (fun _ _ hk => hk)
  have hbl : b.length = nb := hC3.1
  obtain ⟨A', m, c', w4, hcut, hcopy, hR4, hg4⟩ := copyB (cb := cb) hR3 a hC3 hnb (by rw [padTo_length]; omega)
  have hcp : ∀ ty, (Builtin.copy_ #[48, 48] ty #[.slice A' m c', .slice Ab nb cb]).run Tryz.prog w3.drew = .ok (.int .i64 nb) w4.drew := fun ty => hcopy 1 ty
  clear hcopy
  have HRest := Aside0.mk (And.intro hR4 (And.intro hg4 (And.intro hg3 (And.intro hF23 (And.intro hg2 (And.intro hF2 hat2))))))
  have HW3 := Aside0.mk hw3
  clear hw3
  clear hR4 hg4 hR3 hC3 hR2 hF2 hat2 hbox hF23 hgw hg3 hg2 hfr hcells1
  refine start_ (n := 8) (S := fun w' => w'.cell? ⟨g, 1, none⟩ = some (.slice A2 L2 c2) ∧ w'.cell? ⟨ba, 0, none⟩ = some (.int .i64 a) ∧ w'.cell? ⟨bb, 0, none⟩ = some (.slice Ab nb cb)) (ds := [7]) #[false, false, false, false, false, false, false, false] (by kernel_rfl) rfl rfl ⟨cg3, ca3, cb3⟩ (fun hHeld => ?_)
  refine pure_ (i := 0) (N := some 40) (v := ?_) (a' := ?_) #[true, false, false, false, false, false, false, false] rfl rfl (by kernel_rfl) (fun _ _ _ h => h) (Or.inl ⟨by rfl, ?_⟩) ?_ ?_
  rotate_left
  · intro w'
    go_simp
    with_reducible rfl
  rotate_left
  · simp only [Act.put, List.setIfInBounds_toArray, List.set_cons_zero, List.set_cons_succ, i64_w, i32_w]
    rfl
  refine pure_ (i := 1) (N := some 41) (v := ?_) (a' := ?_) #[true, true, false, false, false, false, false, false] rfl rfl (by kernel_rfl) (fun _ _ _ h => h) (Or.inl ⟨by rfl, ?_⟩) ?_ ?_
  rotate_left
  · intro w'
    go_simp
    with_reducible rfl
  rotate_left
  · simp only [Act.put, List.setIfInBounds_toArray, List.set_cons_zero, List.set_cons_succ, i64_w, i32_w]
    rfl
  refine pure_ (i := 2) (N := some 42) (v := ?_) (a' := ?_) #[true, true, true, false, false, false, false, false] rfl rfl (by kernel_rfl) (fun _ _ _ h => h) (Or.inl ⟨by rfl, ?_⟩) ?_ ?_
  rotate_left
  · intro w'
    go_simp
    with_reducible rfl
  rotate_left
  · simp only [Act.put, List.setIfInBounds_toArray, List.set_cons_zero, List.set_cons_succ, i64_w, i32_w]
    rfl
  refine take_ (i := 3) (N := some 43) (v := ?_) (a' := ?_) #[true, true, true, true, false, false, false, false] rfl rfl (by kernel_rfl) (fun _ _ _ h => h) (Or.inl ⟨by rfl, ?_⟩) hHeld ?_ ?_
  rotate_left
  · rintro w' ⟨s0, s1, s2⟩
    go_simp
    with_reducible rfl
  rotate_left
  · simp only [Act.put, List.setIfInBounds_toArray, List.set_cons_zero, List.set_cons_succ, i64_w, i32_w]
    rfl
  refine take_ (i := 4) (N := some 44) (v := ?_) (a' := ?_) #[true, true, true, true, true, false, false, false] rfl rfl (by kernel_rfl) (fun _ _ _ h => h) (Or.inl ⟨by rfl, ?_⟩) hHeld ?_ ?_
  rotate_left
  · rintro w' ⟨s0, s1, s2⟩
    go_simp
    with_reducible rfl
  rotate_left
  · simp only [Act.put, List.setIfInBounds_toArray, List.set_cons_zero, List.set_cons_succ, i64_w, i32_w]
    rfl
  refine pure_ (i := 5) (N := some 45) (v := ?_) (a' := ?_) #[true, true, true, true, true, true, false, false] rfl rfl (by kernel_rfl) (fun _ _ _ h => h) (Or.inl ⟨by rfl, ?_⟩) ?_ ?_
  rotate_left
  · intro w'
    go_simp
    with_reducible rfl
  rotate_left
  · simp only [Act.put, List.setIfInBounds_toArray, List.set_cons_zero, List.set_cons_succ, i64_w, i32_w]
    rfl
  refine take_ (i := 6) (N := some 46) (v := ?_) (a' := ?_) #[true, true, true, true, true, true, true, false] rfl rfl (by kernel_rfl) (fun _ _ _ h => h) (Or.inl ⟨by rfl, ?_⟩) hHeld ?_ ?_
  rotate_left
  · rintro w' ⟨s0, s1, s2⟩
    go_simp
    with_reducible rfl
  rotate_left
  · simp only [Act.put, List.setIfInBounds_toArray, List.set_cons_zero, List.set_cons_succ, i64_w, i32_w]
    rfl
  refine last_ (i := 7) (N := some 47) #[true, true, true, true, true, true, true, true] rfl rfl (by kernel_rfl) (by decide) (fun K hK => ?_)
  refine value_ (v := .int .i64 nb) (w1 := w4.drew) (by rfl) rfl ?_ ?_
  · go_simp
  refine hK.out _ _ ?_
  clear hK K
  refine norm_ (a' := ?_) ?_ ?_
  rotate_left
  · show Act.put _ (some 47) _ = _
    simp only [Act.put, List.setIfInBounds_toArray, List.set_cons_zero, List.set_cons_succ, i64_w, i32_w]
    rfl
  refine done_ (by kernel_rfl) ?_
  go_wp2
  go_ret
  obtain ⟨hR4, hg4, hg3, hF23, hg2, hF2, hat2⟩ := HRest.out
  have hsz : w1.heap.size = wI.heap.size := by rw [HW1.out]
  rw [hsz] at hat2 hR4
  have hold : ∀ k, (Value.slice A2 L2 c2).ownBlock = some k → k ≠ g := by
    rintro k hk rfl
    rcases hat2 k hk with h | h
    · exact HROW.out k h rfl
    · have := heap_lt HCELLS.out; omega
  refine ⟨rfl, HEND.out _ ⟨fun k => ok1 k ∨ wI.heap.size ≤ k, ⟨bf, bt, blk1, sv1, _, sz1, HH.out.setSeen (w1 := w4.drew) (v1 := .slice A2 L2 c2) (l1 := writeB f.2 a b) HGX.out HX.out ?_ ?_ ?_ ?_ (fun k hk => .inl hk)⟩, fun k hk => hk, ?_⟩⟩
  · exact (hg4.block g (heap_lt hg3) (fun e => hold g e.symm rfl)).trans hg3
  · intro k hok hk hne hno
    have e1 : (Value.slice A2 L2 c2).ownBlock ≠ some k := fun e => by
      rcases hat2 k e with h | h
      · rw [HEV.out] at hno; exact hno h
      · omega
    have s1 : w3.heap.size = w2.heap.size := by rw [HW3.out]; simp [World.setCell]
    have s2 : w1.heap.size ≤ w2.heap.size := hF2.size
    refine (hg4.block k (by omega) (fun e => e1 e.symm)).trans ?_
    rw [HW3.out, Below.heap_setCell _ _ _ _ (by exact hne), hF2.block k (by omega) (fun e => hno (by rw [HEV.out]; exact e)), HW1.out]
  · have hbl : b.length = nb := hsrcI.1.1
    have e : writeB f.2 a b = splice (padTo f.2 (a + nb)) a b := by unfold writeB; rw [hbl]
    rw [e]
    exact R_same hR4 (fun _ _ => rfl) hR4.1
  · intro k hk
    rw [HEV.out]
    exact hat2 k hk
  · refine (hF23.grown hg4 (fun k hk => ?_)).drew
    rcases hat2 k hk with h | h
    · exact .inl (HR1.out.1 k h)
    · exact .inr h
end Go.Proofs.YtmdpgjdepflbmaaGreat
namespace Go.Proofs.YtmdpgjdepflbmaaGreat
open Go.RowKit Go.Maps Go.Proofs.YtmdpgjdepflbmaaGreatW.PrintWords Go.Proofs.YtmdpgjdepflbmaaGreatW.PrintLast Go.Proofs.YtmdpgjdepflbmaaGreatW.PrintMore
open Go.Proofs.YtmdpgjdepflbmaaGreat.PPagerFolds
set_option linter.unusedVariables false
set_option linter.unusedSimpArgs false

/-- a call through a function value in a slot, as an arm of go_wp2_with -/
theorem goesV_ {P : Program} {ops : Array Oper} {Q : Exit → Act → World → Prop} {rest : List Oper} {oi : Oper} {a : Act} {w : World} (N : Option Tmp) (hd : oi.dst = N) (hg : oi.guard = none) {f : FuncId} {fn : Func} {t : Operand} {xs : Array Operand} {ts : Array TypeId} (hop : oi.op = .call { callee := .value t, args := xs, argTypes := ts })
    (hf : P.funcs[f]? = some fn) (hname : (fn.name == "runtime.NumGoroutine") = false) (hb : fn.body.isSome = true) (caps args : Array Value)
    (ht : a.eval t = .func (.func f) #[] caps) (hargs : xs.map a.eval ++ caps = args)
    (h : Calls P f args w fun e w' => ∃ v, e = .returned v ∧ wpList P ops Q rest (a.put N v) w') : wpList P ops Q (oi :: rest) a w := by
  refine wpList_plain hg fun K hK => ?_
  have he := enters_ hf hname hb args w
  have hrun : (execOp a.eval oi).run P w = .ok (.enter f args) w := by
    unfold execOp
    simp [hop, resolve, Deferred.ofValue, invoke, ht, hargs, he]
  unfold Oper.wp
  rw [hrun, Oper.upon_enter]
  refine h.mono fun e w'' hh => ?_
  obtain ⟨v, rfl, hk⟩ := hh
  subst hd
  exact hK _ _ hk

theorem stroke_off {w : World} {d : Nat} {M : DM} {ok : Nat → Prop} (h : DiskAt w d M ok) (vdo vsafe : Value) (hoff : M.off = true) (hst : 0 ≤ M.st) (hst2 : M.st < 1000000) :
    Calls Tryz.prog 111 #[dptr d, vdo, vsafe] w fun e w' => e = .returned (.int .i64 9) ∧ Left w d { M with st := M.st + 1 } ok w' := by
  obtain ⟨bf, bt, blk, sv, ev, sz, h⟩ := h
  have hset := h.setHeadCell (M.st + 1)
  have h2 := h.c2
  have h3 := h.c3
  have f2 := h.frozen 2
  have h3' : (w.setCell ⟨d, 2, none⟩ (.int .i64 (M.st + 1))).cell? ⟨d, 3, none⟩ = some (.bool true) := by rw [hset.c3]; simp [hoff]
  have H := Aside0.mk hset
  have H2 := Aside0.mk h
  clear h hset
  go_enter Tryz.func111, Tryz.ntmps111
  go_wp2
  go_ret
  exact ⟨rfl, ok, ⟨_, _, _, _, _, _, H.out⟩, fun k hk => .inl hk, (Fr.refl ok w).set_ (.inl H2.out.okd) _⟩

theorem stroke_io {w : World} {d : Nat} {M : DM} {ok : Nat → Prop} (h : DiskAt w d M ok) (vdo vsafe : Value) (htr : M.tr (M.st + 1) = 1) (hoff : M.off = false) (hst : 0 ≤ M.st) (hst2 : M.st < 1000000) :
    Calls Tryz.prog 111 #[dptr d, vdo, vsafe] w fun e w' => e = .returned (.int .i64 9) ∧ Left w d { M with st := M.st + 1 } ok w' := by
  obtain ⟨bf, bt, blk, sv, ev, sz, h⟩ := h
  have hset := h.setHeadCell (M.st + 1)
  have h2 := h.c2
  have h3 := h.c3
  have f2 := h.frozen 2
  have h1' := hset.c1
  have h2' := hset.c2
  have h3' := hset.c3
  simp only [hoff] at h3'
  have hwf : (Lit.int .i64 (M.st + 1)).wf = true := WalkArith.wf_i64 (by omega)
  have hl := (hset.ht.move (w' := (w.setCell ⟨d, 2, none⟩ (.int .i64 (M.st + 1))).drew) rfl).look Tryz.underlying3 Tryz.underlying3 Tryz.underlying98 zero3 hwf
  generalize htg : M.tr (M.st + 1) = t at *
  subst htr
  have H := Aside0.mk hset
  have H2 := Aside0.mk h
  clear h hset htg
  go_enter Tryz.func111, Tryz.ntmps111
  go_wp2
  go_region
  go_wp2
  go_ret
  exact ⟨rfl, ok, ⟨_, _, _, _, _, _, H.out.move (fun _ _ _ => rfl)⟩, fun k hk => .inl hk, ((Fr.refl ok w).set_ (p := ⟨d, 2, none⟩) (.inl H2.out.okd) (.int .i64 (M.st + 1))).drew⟩

theorem stroke_full {w : World} {d : Nat} {M : DM} {ok : Nat → Prop} (h : DiskAt w d M ok) (vdo vsafe : Value) (htr : M.tr (M.st + 1) = 2) (hoff : M.off = false) (hst : 0 ≤ M.st) (hst2 : M.st < 1000000) :
    Calls Tryz.prog 111 #[dptr d, vdo, vsafe] w fun e w' => e = .returned (.int .i64 10) ∧ Left w d { M with st := M.st + 1 } ok w' := by
  obtain ⟨bf, bt, blk, sv, ev, sz, h⟩ := h
  have hset := h.setHeadCell (M.st + 1)
  have h2 := h.c2
  have h3 := h.c3
  have f2 := h.frozen 2
  have h1' := hset.c1
  have h2' := hset.c2
  have h3' := hset.c3
  simp only [hoff] at h3'
  have hwf : (Lit.int .i64 (M.st + 1)).wf = true := WalkArith.wf_i64 (by omega)
  have hl := (hset.ht.move (w' := (w.setCell ⟨d, 2, none⟩ (.int .i64 (M.st + 1))).drew) rfl).look Tryz.underlying3 Tryz.underlying3 Tryz.underlying98 zero3 hwf
  generalize htg : M.tr (M.st + 1) = t at *
  subst htr
  have H := Aside0.mk hset
  have H2 := Aside0.mk h
  clear h hset htg
  go_enter Tryz.func111, Tryz.ntmps111
  go_wp2
  go_region
  go_wp2
  go_ret
  exact ⟨rfl, ok, ⟨_, _, _, _, _, _, H.out.move (fun _ _ _ => rfl)⟩, fun k hk => .inl hk, ((Fr.refl ok w).set_ (p := ⟨d, 2, none⟩) (.inl H2.out.okd) (.int .i64 (M.st + 1))).drew⟩

theorem stroke_refused {w : World} {d : Nat} {M : DM} {ok : Nat → Prop} (h : DiskAt w d M ok) {M2 : DM} {e0 : Int} {F : FuncId} {fnF : Func} {caps : Array Value} (hf : Tryz.prog.funcs[F]? = some fnF) (hname : (fnF.name == "runtime.NumGoroutine") = false) (hb : fnF.body.isSome = true)
    (hdo : ∀ W, Fr ok w W → DiskAt W d { M with st := M.st + 1 } ok → Calls Tryz.prog F caps W fun e w' => e = .returned (.int .i64 e0) ∧ Left W d M2 ok w') (vsafe : Value) (htr : M.tr (M.st + 1) ≠ 1 ∧ M.tr (M.st + 1) ≠ 2 ∧ M.tr (M.st + 1) ≠ 3) (he0 : e0 ≠ 0) (hoff : M.off = false) (hst : 0 ≤ M.st) (hst2 : M.st < 1000000) :
    Calls Tryz.prog 111 #[dptr d, .func (.func F) #[] caps, vsafe] w fun e w' => e = .returned (.int .i64 e0) ∧ Left w d M2 ok w' := by
  obtain ⟨bf, bt, blk, sv, ev, sz, h⟩ := h
  have hset := h.setHeadCell (M.st + 1)
  have h2 := h.c2
  have h3 := h.c3
  have f2 := h.frozen 2
  have h1' := hset.c1
  have h2' := hset.c2
  have h3' := hset.c3
  simp only [hoff] at h3'
  have hwf : (Lit.int .i64 (M.st + 1)).wf = true := WalkArith.wf_i64 (by omega)
  have hl := (hset.ht.move (w' := (w.setCell ⟨d, 2, none⟩ (.int .i64 (M.st + 1))).drew) rfl).look Tryz.underlying3 Tryz.underlying3 Tryz.underlying98 zero3 hwf
  generalize htg : M.tr (M.st + 1) = t at *
  obtain ⟨t1, t2, t3⟩ := htr
  have b1 : (t == (1 : Int)) = false := by simpa using t1
  have b2 : (t == (2 : Int)) = false := by simpa using t2
  have b3 : (t == (3 : Int)) = false := by simpa using t3
  have b4 : (e0 == (0 : Int)) = false := by simpa using he0
  have H := Aside0.mk hset
  have H2 := Aside0.mk h
  have HDO := Aside0.mk hdo
  clear h hset htg hdo
  go_enter Tryz.func111, Tryz.ntmps111
  go_wp2
  go_region
  go_wp2_with (first | (refine goesV_ (f := F) (some 40) rfl rfl rfl hf hname hb caps caps rfl (by simp) ?_; refine (HDO.out _ (((Fr.refl ok w).set_ (p := ⟨d, 2, none⟩) (.inl H2.out.okd) (.int .i64 (M.st + 1))).drew) ⟨_, _, _, _, _, _, H.out.move (fun _ _ _ => rfl)⟩).mono ?_; rintro e w' ⟨rfl, hL⟩; have HL := Aside0.mk hL; clear hL; refine ⟨_, rfl, ?_⟩))
  go_ret
  exact ⟨rfl, Left.trans (M := M) (fun k hk => .inl hk) (((Fr.refl ok w).set_ (p := ⟨d, 2, none⟩) (.inl H2.out.okd) (.int .i64 (M.st + 1))).drew) HL.out⟩

theorem stroke_done {w : World} {d : Nat} {M : DM} {ok : Nat → Prop} (h : DiskAt w d M ok) {M2 : DM} {M3 : DM} {F : FuncId} {fnF : Func} {caps : Array Value} (hf : Tryz.prog.funcs[F]? = some fnF) (hname : (fnF.name == "runtime.NumGoroutine") = false) (hb : fnF.body.isSome = true)
    (hdo : ∀ W, Fr ok w W → DiskAt W d { M with st := M.st + 1 } ok → Calls Tryz.prog F caps W fun e w' => e = .returned (.int .i64 0) ∧ Left W d M2 ok w')
    {G : FuncId} {fnG : Func} {capsG : Array Value} (hfG : Tryz.prog.funcs[G]? = some fnG) (hnameG : (fnG.name == "runtime.NumGoroutine") = false) (hbG : fnG.body.isSome = true)
    (hsafe : ∀ W ok', (∀ k, ok' k → ok k ∨ w.heap.size ≤ k) → Fr ok w W → DiskAt W d M2 ok' → Calls Tryz.prog G capsG W fun e w' => (∃ v, e = .returned v) ∧ Left W d M3 ok' w') (htr : M.tr (M.st + 1) ≠ 1 ∧ M.tr (M.st + 1) ≠ 2 ∧ M.tr (M.st + 1) ≠ 3) (hoff : M.off = false) (hst : 0 ≤ M.st) (hst2 : M.st < 1000000) :
    Calls Tryz.prog 111 #[dptr d, .func (.func F) #[] caps, .func (.func G) #[] capsG] w fun e w' => e = .returned (.int .i64 0) ∧ Left w d M3 ok w' := by
  obtain ⟨bf, bt, blk, sv, ev, sz, h⟩ := h
  have hset := h.setHeadCell (M.st + 1)
  have h2 := h.c2
  have h3 := h.c3
  have f2 := h.frozen 2
  have h1' := hset.c1
  have h2' := hset.c2
  have h3' := hset.c3
  simp only [hoff] at h3'
  have hwf : (Lit.int .i64 (M.st + 1)).wf = true := WalkArith.wf_i64 (by omega)
  have hl := (hset.ht.move (w' := (w.setCell ⟨d, 2, none⟩ (.int .i64 (M.st + 1))).drew) rfl).look Tryz.underlying3 Tryz.underlying3 Tryz.underlying98 zero3 hwf
  generalize htg : M.tr (M.st + 1) = t at *
  obtain ⟨t1, t2, t3⟩ := htr
  have b1 : (t == (1 : Int)) = false := by simpa using t1
  have b2 : (t == (2 : Int)) = false := by simpa using t2
  have b3 : (t == (3 : Int)) = false := by simpa using t3
  have H := Aside0.mk hset
  have H2 := Aside0.mk h
  have HDO := Aside0.mk hdo
  have HSF := Aside0.mk hsafe
  clear h hset htg hdo hsafe
  go_enter Tryz.func111, Tryz.ntmps111
  go_wp2
  go_region
  go_wp2_with (first
    | (refine goesV_ (f := F) (some 40) rfl rfl rfl hf hname hb caps caps rfl (by simp) ?_; refine (HDO.out _ (((Fr.refl ok w).set_ (p := ⟨d, 2, none⟩) (.inl H2.out.okd) (.int .i64 (M.st + 1))).drew) ⟨_, _, _, _, _, _, H.out.move (fun _ _ _ => rfl)⟩).mono ?_; rintro e w' ⟨rfl, hL⟩; have HL := Aside0.mk hL; clear hL; refine ⟨_, rfl, ?_⟩)
    | (refine goesV_ (f := G) (some 44) rfl rfl rfl hfG hnameG hbG capsG capsG rfl (by simp) ?_
       obtain ⟨ok', hD, hks, hFr⟩ := HL.out
       have hFr0 := ((Fr.refl ok w).set_ (p := ⟨d, 2, none⟩) (.inl H2.out.okd) (.int .i64 (M.st + 1))).drew
       refine (HSF.out _ ok' (fun k hk => (hks k hk).imp id (fun h => Nat.le_trans hFr0.size h)) (hFr0.trans hFr (fun k hk => .inl hk)) hD).mono ?_
       rintro e w'' ⟨⟨v, rfl⟩, hL⟩
       have HL2 := Aside0.mk (Left.trans (M := M) (fun k hk => (hks k hk).imp id (fun h => Nat.le_trans hFr0.size h)) (hFr0.trans hFr (fun k hk => .inl hk)) hL)
       clear hL hD hks hFr hFr0
       refine ⟨_, rfl, ?_⟩))
  go_ret
  exact ⟨rfl, HL2.out⟩

theorem stroke_power {w : World} {d : Nat} {M : DM} {ok : Nat → Prop} (h : DiskAt w d M ok) {M2 : DM} {e0 : Int} {F : FuncId} {fnF : Func} {caps : Array Value} (hf : Tryz.prog.funcs[F]? = some fnF) (hname : (fnF.name == "runtime.NumGoroutine") = false) (hb : fnF.body.isSome = true)
    (hdo : ∀ W, Fr ok w W → DiskAt W d { M with st := M.st + 1 } ok → Calls Tryz.prog F caps W fun e w' => e = .returned (.int .i64 e0) ∧ Left W d M2 ok w') (vsafe : Value) (htr : M.tr (M.st + 1) = 3) (hoff : M.off = false) (hst : 0 ≤ M.st) (hst2 : M.st < 1000000) :
    Calls Tryz.prog 111 #[dptr d, .func (.func F) #[] caps, vsafe] w fun e w' => e = .returned (.int .i64 9) ∧ Left w d { M2 with off := true } ok w' := by
  obtain ⟨bf, bt, blk, sv, ev, sz, h⟩ := h
  have hset := h.setHeadCell (M.st + 1)
  have h2 := h.c2
  have h3 := h.c3
  have f2 := h.frozen 2
  have h1' := hset.c1
  have h2' := hset.c2
  have h3' := hset.c3
  simp only [hoff] at h3'
  have hwf : (Lit.int .i64 (M.st + 1)).wf = true := WalkArith.wf_i64 (by omega)
  have hl := (hset.ht.move (w' := (w.setCell ⟨d, 2, none⟩ (.int .i64 (M.st + 1))).drew) rfl).look Tryz.underlying3 Tryz.underlying3 Tryz.underlying98 zero3 hwf
  generalize htg : M.tr (M.st + 1) = t at *
  subst htr
  have H := Aside0.mk hset
  have H2 := Aside0.mk h
  have HDO := Aside0.mk hdo
  clear h hset htg hdo
  go_enter Tryz.func111, Tryz.ntmps111
  go_wp2
  go_region
  go_wp2_with (first
    | (refine goesV_ (f := F) (some 35) rfl rfl rfl hf hname hb caps caps rfl (by simp) ?_
       refine (HDO.out _ (((Fr.refl ok w).set_ (p := ⟨d, 2, none⟩) (.inl H2.out.okd) (.int .i64 (M.st + 1))).drew) ⟨_, _, _, _, _, _, H.out.move (fun _ _ _ => rfl)⟩).mono ?_
       rintro e w' ⟨rfl, hL⟩
       obtain ⟨ok', ⟨bf', bt', blk', sv', ev', sz', hD⟩, hks, hFr⟩ := hL
       have f3 := hD.frozen 3
       have hFr0 := ((Fr.refl ok w).set_ (p := ⟨d, 2, none⟩) (.inl H2.out.okd) (.int .i64 (M.st + 1))).drew
       have HL := Aside0.mk (And.intro hD (And.intro hks (hFr0.trans hFr (fun k hk => .inl hk))))
       have HS := Aside0.mk hFr0.size
       clear hD hks hFr hFr0
       have c3 := HL.out.1.c3
       refine ⟨_, rfl, ?_⟩))
  go_ret
  obtain ⟨hD, hks, hFr⟩ := HL.out
  exact ⟨rfl, ok', ⟨_, _, _, _, _, _, hD.setOff true⟩, fun k hk => (hks k hk).imp id (fun h => Nat.le_trans HS.out h), hFr.set_ (p := ⟨d, 3, none⟩) ((hks d hD.okd).imp id (fun h => Nat.le_trans HS.out h)) _⟩

end Go.Proofs.YtmdpgjdepflbmaaGreat
namespace Go.Proofs.YtmdpgjdepflbmaaGreat
open Go.RowKit Go.Maps Go.Proofs.YtmdpgjdepflbmaaGreatW.PrintWords Go.Proofs.YtmdpgjdepflbmaaGreatW.PrintLast Go.Proofs.YtmdpgjdepflbmaaGreatW.PrintMore
open Go.Proofs.YtmdpgjdepflbmaaGreat.PPagerFolds
set_option linter.unusedVariables false
set_option linter.unusedSimpArgs false

end Go.Proofs.YtmdpgjdepflbmaaGreat

/-
  The walks of Sync's closures and of Delete's.
-/
namespace Go.Proofs.YtmdpgjdepflbmaaGreat
open Go.RowKit Go.Maps Go.Proofs.YtmdpgjdepflbmaaGreatW.PrintWords Go.Proofs.YtmdpgjdepflbmaaGreatW.PrintLast Go.Proofs.YtmdpgjdepflbmaaGreatW.PrintMore
open Go.Proofs.YtmdpgjdepflbmaaGreat.PPagerFolds
set_option linter.unusedVariables false
set_option linter.unusedSimpArgs false

section
variable {w : World} {d : Nat} {M : DM} {ok : Nat → Prop} {bd bn : Nat} {s : ByteArray}

theorem sync_none (h : DiskAt w d M ok) (hbd : Box w ok bd (dptr d) 25) (hbn : Box w ok bn (.string s) 9) (hs : s.size ≤ maxLen) (hx : M.fs (nm s) = none) :
    Calls Tryz.prog 112 #[bptr bd, bptr bn] w fun e w' => e = .returned (.int .i64 2) ∧ Left w d M ok w' := by
  have HD := Aside0.mk h
  have cd := hbd.cell
  have cn := hbn.cell
  clear h
  go_enter Tryz.func112, Tryz.ntmps112
  go_wp2_with (go_at_call 113; refine (there_no HD.out hs hx).mono ?_; rintro e w' ⟨rfl, rfl⟩)
  go_ret
  exact ⟨rfl, Left.same HD.out⟩
theorem sync_some (h : DiskAt w d M ok) (hbd : Box w ok bd (dptr d) 25) (hbn : Box w ok bn (.string s) 9) (hs : s.size ≤ maxLen) {f : Bytes × Bytes} (hx : M.fs (nm s) = some f) :
    Calls Tryz.prog 112 #[bptr bd, bptr bn] w fun e w' => e = .returned (.int .i64 0) ∧ Left w d M ok w' := by
  have HD := Aside0.mk h
  have cd := hbd.cell
  have cn := hbn.cell
  clear h
  go_enter Tryz.func112, Tryz.ntmps112
  go_wp2_with (go_at_call 113; refine (there_yes HD.out hs hx).mono ?_; rintro e w' ⟨rfl, rfl⟩)
  go_ret
  exact ⟨rfl, Left.same HD.out⟩

set_option maxRecDepth 100000 in
theorem sync_safe (h : DiskAt w d M ok) (hbd : Box w ok bd (dptr d) 25) (hbn : Box w ok bn (.string s) 9) (hs : s.size ≤ maxLen) {f : Bytes × Bytes} (hx : M.fs (nm s) = some f) (hf : f.2.length ≤ 4194304) :
    Calls Tryz.prog 114 #[bptr bd, bptr bn] w fun e w' => (∃ v, e = .returned v) ∧ Left w d { M with fs := fun y => if y = nm s then some (f.2, f.2) else M.fs y } ok w' := by
  obtain ⟨bf, bt, blk, sv, ev, sz, h⟩ := h
  obtain ⟨g, hg⟩ := h.some_ hx
  obtain ⟨hcells, _, hR⟩ := h.file _ _ _ hg hx
  have hl := (h.move (w' := w.drew) (fun _ _ _ => rfl)).look hs
  rw [show blk s.data.toList = some g from hg] at hl
  simp only [ptrV] at hl
  have h0 := h.c0
  have cd := hbd.cell
  have cn := hbn.cell
  have cg : w.cell? ⟨g, 1, none⟩ = some (ev (nm s)) := cell_of_row w g 1 _ 105 (0, 0) hcells
  obtain ⟨Ae, ce, hev, _, hC⟩ := hR.reads
  have hfz : w.frozen? ⟨g, 0, none⟩ = false := frozen_of_cells hcells 0
  have hzero : w.cell? ⟨g, 0, none⟩ = some (sv (nm s)) := cell_of_row w g 0 _ 105 (0, 0) hcells
  have HH := Aside0.mk h
  have HC := Aside0.mk (C_drewN hC 1)
  have HX := Aside0.mk hx
  have HG := Aside0.mk hg
  have HCELLS := Aside0.mk hcells
  have HF := Aside0.mk hf
  rw [hev] at cg
  clear h hC hx hcells hf hg hR
  generalize hL1 : f.2.length = L1 at *
  have HL1 := Aside0.mk hL1
  clear hL1
  go_enter Tryz.func114, Tryz.ntmps114
  go_wp2
  go_region
  have HL : Calls Tryz.prog 48 #[.slice Ae L1 ce] w.drew fun e w' => ∃ A2 c2, e = .returned (.slice A2 L1 c2) ∧ (RB w' (fun k => w.heap.size ≤ k) (.slice A2 L1 c2) f.2 ∧ Below w.heap.size w w') ∧ w'.cell? ⟨g, 0, none⟩ = some (sv (nm s)) ∧ w'.frozen? ⟨g, 0, none⟩ = false := by
    refine (clone_any Ae L1 ce f.2 w.drew (by have := HF.out; unfold roomy; omega) HC.out).mono ?_
    rintro e w' ⟨v, rfl, h1, h2⟩
    replace h2 : Below w.heap.size w w' := ⟨h2.os, h2.tape, h2.output, h2.size, h2.block⟩
    have h3 := RB.of_R h1
    obtain ⟨A2, c2, rfl⟩ := h3.slice
    rw [HL1.out] at h3 ⊢
    have hg1 := h2.block g (heap_lt HCELLS.out)
    exact ⟨A2, c2, rfl, ⟨h3, h2⟩, (World.cell?_of_block (a := ⟨g, 0, none⟩) hg1).trans hzero, (World.frozen?_of_block (a := ⟨g, 0, none⟩) hg1).trans hfz⟩
  have HLC := Aside0.mk HL
  clear HL hl
  go_wp2_with (go_at_call 48; refine HLC.out.mono ?_; rintro e w2 ⟨A2, c2, rfl, hq2, cg2, fz2⟩; have HQ2 := Aside0.mk hq2; clear hq2)
  go_end0
  obtain ⟨hR2, hB2⟩ := HQ2.out
  have hg2 : w2.heap[g]? = w.heap[g]? := hB2.block g (heap_lt HCELLS.out)
  refine ⟨⟨_, rfl⟩, fun k => ok k ∨ w.heap.size ≤ k, ⟨bf, bt, blk, _, ev, sz, HH.out.setSafe (w1 := w2.setCell ⟨g, 0, none⟩ (.slice A2 L1 c2)) (v1 := .slice A2 L1 c2) (l1 := f.2) HG.out HX.out ?_ ?_ ?_ ?_ (fun k hk => .inl hk)⟩, fun k hk => hk, ?_⟩
  · rw [HCELLS.out] at hg2; simp [World.setCell, Array.getElem?_modify, hg2]
  · intro k hok hk hne
    rw [Below.heap_setCell _ _ _ _ (by exact hne), hB2.block k hk]
  · refine R_same hR2 (fun k hk => ?_) (fun k hk => .inr (hR2.1 k hk))
    refine Below.heap_setCell _ _ _ _ ?_
    rintro rfl
    have h1 := hR2.1 _ hk
    have h2 := heap_lt HCELLS.out
    exact absurd h1 (by simpa using h2)
  · exact fun k hk => hR2.1 k hk
  · exact (Fr.of_below hB2).set_ (p := ⟨g, 0, none⟩) (.inl (HH.out.okb _ _ HG.out)) _

theorem del_none (h : DiskAt w d M ok) (hbd : Box w ok bd (dptr d) 25) (hbn : Box w ok bn (.string s) 9) (hs : s.size ≤ maxLen) (hx : M.fs (nm s) = none) :
    Calls Tryz.prog 123 #[bptr bd, bptr bn] w fun e w' => e = .returned (.int .i64 2) ∧ Left w d { M with fs := fun y => if y = nm s then none else M.fs y } ok w' := by
  have HD := Aside0.mk h
  obtain ⟨bf, bt, blk, sv, ev, sz, h⟩ := h
  obtain ⟨w1, hrun, hP, hturn⟩ := (h.move (w' := w.drew) (fun _ _ _ => rfl)).hf.drop Tryz.underlying9 Tryz.underlying97 hs 0
  have HT := Aside0.mk (And.intro hP hturn)
  have HH := Aside0.mk h
  have h0 := h.c0
  have cd := hbd.cell
  have cn := hbn.cell
  clear h hP hturn
  go_enter Tryz.func123, Tryz.ntmps123
  go_wp2_with (go_at_call 113; refine (there_no HD.out hs hx).mono ?_; rintro e w' ⟨rfl, rfl⟩)
  go_region
  go_wp2
  go_ret
  obtain ⟨hP, hturn⟩ := HT.out
  have hgr := hturn.grown
  exact ⟨rfl, ok, ⟨_, _, _, _, _, _, HH.out.delete hP (fun k hok hk hne => hgr.block k hk (fun e => hne (Option.some.inj e)))⟩, fun k hk => .inl hk, ((Fr.refl ok w).drew).grown hgr (fun k hk => .inl (by rw [← Option.some.inj hk]; exact HH.out.okf))⟩

theorem del_some (h : DiskAt w d M ok) (hbd : Box w ok bd (dptr d) 25) (hbn : Box w ok bn (.string s) 9) (hs : s.size ≤ maxLen) {f : Bytes × Bytes} (hx : M.fs (nm s) = some f) :
    Calls Tryz.prog 123 #[bptr bd, bptr bn] w fun e w' => e = .returned (.int .i64 0) ∧ Left w d { M with fs := fun y => if y = nm s then none else M.fs y } ok w' := by
  have HD := Aside0.mk h
  obtain ⟨bf, bt, blk, sv, ev, sz, h⟩ := h
  obtain ⟨w1, hrun, hP, hturn⟩ := (h.move (w' := w.drew) (fun _ _ _ => rfl)).hf.drop Tryz.underlying9 Tryz.underlying97 hs 0
  have HT := Aside0.mk (And.intro hP hturn)
  have HH := Aside0.mk h
  have h0 := h.c0
  have cd := hbd.cell
  have cn := hbn.cell
  clear h hP hturn
  go_enter Tryz.func123, Tryz.ntmps123
  go_wp2_with (go_at_call 113; refine (there_yes HD.out hs hx).mono ?_; rintro e w' ⟨rfl, rfl⟩)
  go_region
  go_wp2
  go_ret
  obtain ⟨hP, hturn⟩ := HT.out
  have hgr := hturn.grown
  exact ⟨rfl, ok, ⟨_, _, _, _, _, _, HH.out.delete hP (fun k hok hk hne => hgr.block k hk (fun e => hne (Option.some.inj e)))⟩, fun k hk => .inl hk, ((Fr.refl ok w).drew).grown hgr (fun k hk => .inl (by rw [← Option.some.inj hk]; exact HH.out.okf))⟩
end
end Go.Proofs.YtmdpgjdepflbmaaGreat
namespace Go.Proofs.YtmdpgjdepflbmaaGreat
open Go.RowKit Go.Maps Go.Proofs.YtmdpgjdepflbmaaGreatW.PrintWords Go.Proofs.YtmdpgjdepflbmaaGreatW.PrintLast Go.Proofs.YtmdpgjdepflbmaaGreatW.PrintMore
open Go.Proofs.YtmdpgjdepflbmaaGreat.PPagerFolds
set_option linter.unusedVariables false
set_option linter.unusedSimpArgs false

abbrev Files := Name → Option (Bytes × Bytes)
def IsL (fs : Files) (L : List Name) : Prop := L.Pairwise (· < ·) ∧ ∀ x, x ∈ L ↔ (fs x).isSome = true
theorem IsL.eq {fs : Files} {L L' : List Name} (h : IsL fs L) (h' : IsL fs L') : L = L' := by
  have nd : ∀ {L}, IsL fs L → L.Nodup := fun h => h.1.imp (fun {a b} hab e => by subst e; exact List.lt_irrefl _ hab)
  have hp : L.Perm L' := (List.perm_ext_iff_of_nodup (nd h) (nd h')).2 fun x => by rw [h.2, h'.2]
  have := mergeSort_of_perm hp
  rwa [sorted_eq h.1, sorted_eq h'.1] at this
open Classical in
/-- how many files there are -/
noncomputable def card (fs : Files) : Nat := if h : ∃ L, IsL fs L then (Classical.choose h).length else 0
theorem card_eq {fs : Files} {L : List Name} (h : IsL fs L) : card fs = L.length := by
  have hh : ∃ L, IsL fs L := ⟨L, h⟩
  unfold card
  rw [dif_pos hh, (Classical.choose_spec hh).eq h]
theorem DiskAt.isL {w : World} {d : Nat} {M : DM} {ok : Nat → Prop} (h : DiskAt w d M ok) : ∃ L, IsL M.fs L := by
  obtain ⟨bf, bt, blk, sv, ev, sz, h⟩ := h
  obtain ⟨L, hL⟩ := h.hf.names Tryz.underlying9
  exact ⟨L, hL.1, fun x => by rw [hL.2, h.dom]⟩

def setF (fs : Files) (x : Name) (v : Option (Bytes × Bytes)) : Files := fun y => if y = x then v else fs y

/-- what a stroke answers and leaves: e0 and fs1 are what is done, fs2 is what is made safe -/
def strokeR (M : DM) (e0 : Int) (fs1 fs2 : Files) : Int × DM :=
  if M.off = true then (9, { M with st := M.st + 1 })
  else if M.tr (M.st + 1) = 1 then (9, { M with st := M.st + 1 })
  else if M.tr (M.st + 1) = 2 then (10, { M with st := M.st + 1 })
  else if M.tr (M.st + 1) = 3 then (9, { M with st := M.st + 1, fs := fs1, off := true })
  else if e0 = 0 then (0, { M with st := M.st + 1, fs := fs2 })
  else (e0, { M with st := M.st + 1, fs := fs1 })

theorem stroke_any {w : World} {d : Nat} {M : DM} {ok : Nat → Prop} (h : DiskAt w d M ok) {fs1 fs2 : Files} {e0 : Int} {F : FuncId} {fnF : Func} {caps : Array Value} (hf : Tryz.prog.funcs[F]? = some fnF) (hname : (fnF.name == "runtime.NumGoroutine") = false) (hb : fnF.body.isSome = true)
    (hdo : ∀ W, Fr ok w W → DiskAt W d { M with st := M.st + 1 } ok → Calls Tryz.prog F caps W fun e w' => e = .returned (.int .i64 e0) ∧ Left W d { M with st := M.st + 1, fs := fs1 } ok w')
    {G : FuncId} {fnG : Func} {capsG : Array Value} (hfG : Tryz.prog.funcs[G]? = some fnG) (hnameG : (fnG.name == "runtime.NumGoroutine") = false) (hbG : fnG.body.isSome = true)
    (hsafe : e0 = 0 → ∀ W ok', (∀ k, ok' k → ok k ∨ w.heap.size ≤ k) → Fr ok w W → DiskAt W d { M with st := M.st + 1, fs := fs1 } ok' → Calls Tryz.prog G capsG W fun e w' => (∃ v, e = .returned v) ∧ Left W d { M with st := M.st + 1, fs := fs2 } ok' w')
    (hst : 0 ≤ M.st) (hst2 : M.st < 1000000) :
    Calls Tryz.prog 111 #[dptr d, .func (.func F) #[] caps, .func (.func G) #[] capsG] w fun e w' => e = .returned (.int .i64 (strokeR M e0 fs1 fs2).1) ∧ Left w d (strokeR M e0 fs1 fs2).2 ok w' := by
  unfold strokeR
  by_cases h1 : M.off = true
  · rw [if_pos h1]; exact stroke_off h _ _ h1 hst hst2
  · rw [if_neg h1]
    have h1' : M.off = false := by simpa using h1
    by_cases h2 : M.tr (M.st + 1) = 1
    · rw [if_pos h2]; exact stroke_io h _ _ h2 h1' hst hst2
    · rw [if_neg h2]
      by_cases h3 : M.tr (M.st + 1) = 2
      · rw [if_pos h3]; exact stroke_full h _ _ h3 h1' hst hst2
      · rw [if_neg h3]
        by_cases h4 : M.tr (M.st + 1) = 3
        · rw [if_pos h4]
          exact stroke_power h hf hname hb hdo _ h4 h1' hst hst2
        · rw [if_neg h4]
          by_cases h5 : e0 = 0
          · subst h5
            rw [if_pos rfl]
            exact stroke_done h hf hname hb hdo hfG hnameG hbG (hsafe rfl) ⟨h2, h3, h4⟩ h1' hst hst2
          · rw [if_neg h5]
            exact stroke_refused h hf hname hb hdo _ ⟨h2, h3, h4⟩ h5 h1' hst hst2

theorem nothing_any {W : World} {d : Nat} {M : DM} {ok : Nat → Prop} (h : DiskAt W d M ok) : Calls Tryz.prog 124 #[] W fun e w' => (∃ v, e = .returned v) ∧ Left W d M ok w' := by
  refine (disk_nothing.calls W rfl).mono ?_
  rintro e w' ⟨rfl, hw⟩
  obtain ⟨n, rfl⟩ := hw.out
  exact ⟨⟨_, rfl⟩, (Left.same h).drewN n⟩

/-- what a method that strokes may be handed -/
structure Fit (M : DM) : Prop where
  len : ∀ x f, M.fs x = some f → f.1.length ≤ 4194304 ∧ f.2.length ≤ 4194304
  st0 : 0 ≤ M.st
  st1 : M.st < 1000000
  cd : card M.fs ≤ 16

noncomputable def writeM (M : DM) (x : Name) (a : Nat) (b : Bytes) : Int × DM :=
  match M.fs x with
  | some f => strokeR M 0 (setF M.fs x (some (f.1, writeB f.2 a b))) (setF M.fs x (some (f.1, writeB f.2 a b)))
  | none => if card M.fs < 16 then strokeR M 0 (setF M.fs x (some ([], writeB [] a b))) (setF M.fs x (some ([], writeB [] a b))) else strokeR M 10 M.fs M.fs
def syncM (M : DM) (x : Name) : Int × DM :=
  match M.fs x with
  | some f => strokeR M 0 M.fs (setF M.fs x (some (f.2, f.2)))
  | none => strokeR M 2 M.fs M.fs
def delM (M : DM) (x : Name) : Int × DM := strokeR M (if (M.fs x).isSome then 0 else 2) (setF M.fs x none) (setF M.fs x none)

theorem Fr.mono {ok ok' : Nat → Prop} {w w' : World} (h : Fr ok w w') (hs : ∀ k, k < w.heap.size → ok k → ok' k) : Fr ok' w w' := ⟨h.os, h.tape, h.output, h.size, fun k hk hn => h.block k hk (fun ho => hn (hs k hk ho))⟩
theorem DiskAt.tight {w : World} {d : Nat} {M : DM} {ok : Nat → Prop} (h : DiskAt w d M ok) : DiskAt w d M (fun k => ok k ∧ k < w.heap.size) := by
  obtain ⟨bf, bt, blk, sv, ev, sz, h⟩ := h
  exact ⟨_, _, _, _, _, _, h.grow_ok⟩
theorem Left.loose {w W w' : World} {d : Nat} {M : DM} {ok : Nat → Prop} (hW : Fr (fun k => ok k ∧ k < w.heap.size) w W) (h : Left W d M (fun k => ok k ∧ k < w.heap.size) w') : Left w d M ok w' := by
  obtain ⟨ok', h1, h2, h3⟩ := h
  exact ⟨ok', h1, fun k hk => (h2 k hk).imp (fun h => h.1) (fun h => Nat.le_trans hW.size h), (hW.trans h3 (fun k hk => .inl hk)).mono (fun k _ hk => hk.1)⟩
theorem Box.fr' {w w' : World} {ok ok' : Nat → Prop} {b : Nat} {v : Value} {t : TypeId} (h : Box w ok b v t) (hf : Fr ok w w') (hs : ∀ k, ok' k → ok k ∨ w.heap.size ≤ k) : Box w' ok' b v t :=
  ⟨(hf.block b (heap_lt h.1) h.2).trans h.1, fun hk => (hs b hk).elim h.2 (fun hle => by have := heap_lt h.1; omega)⟩
theorem Src.fr' {w w' : World} {ok ok' : Nat → Prop} {A : Option Addr} {n : Nat} {b : Bytes} (h : Src w ok A n b) (hb : ∀ ad, A = some ad → ad.block < w.heap.size) (hf : Fr ok w w') (hs : ∀ k, ok' k → ok k ∨ w.heap.size ≤ k) : Src w' ok' A n b :=
  ⟨h.fr hf (fun _ _ hk => hk), fun ad e hk => (hs _ hk).elim (h.2 ad e) (fun hle => by have := hb ad e; omega)⟩
theorem lies {A : Array Obj} {k : Nat} {o : Obj} (h : A[k]? = some o) (p : Obj) : (A.push p)[k]? = some o := by
  have := (Array.getElem?_eq_some_iff.1 h).1
  rw [Array.getElem?_push, if_neg (by omega)]; exact h
theorem fresh (A : Array Obj) (o : Obj) {k : Nat} (h : k = A.size) : (A.push o)[k]? = some o := by
  subst h; simp

theorem write_bad {w : World} {d : Nat} {M : DM} {ok : Nat → Prop} (h : DiskAt w d M ok) {s : ByteArray} (hs : s.size ≤ maxLen) (a : Int) {Ab : Option Addr} {nb cb : Nat} (hg : ¬ (GoodN s ∧ 0 < nb ∧ 0 ≤ a ∧ a ≤ 4194304 ∧ a + nb ≤ 4194304)) :
    Calls Tryz.prog 116 #[dptr d, .string s, .int .i64 a, .slice Ab nb cb] w fun e w' => e = .returned (.int .i64 1) ∧ Left w d M ok w' := by
  have HD := Aside0.mk h
  clear h
  by_cases h1 : GoodN s
  · have HG := Aside0.mk (fun W => good_yes h1 W)
    clear hs
    by_cases c0 : nb = 0
    · have q0 : ((nb : Int) == 0) = true := by simp; omega
      clear hg h1
      go_enter Tryz.func116, Tryz.ntmps116
      go_wp2_with (go_at_call 47; refine (HG.out _).mono ?_; rintro e w' ⟨rfl, n, rfl⟩)
      all_goals (go_ret; exact ⟨rfl, ok, (((((HD.out.alloc _).alloc _).alloc _).alloc _)).drewN _, fun k hk => .inl hk, ((((((Fr.refl _ w).alloc _).alloc _).alloc _).alloc _).drewN _)⟩)
    · have q0 : ((nb : Int) == 0) = false := by simp; omega
      by_cases c1 : a < 0
      · have q1 : decide (a < 0) = true := by simp; omega
        clear hg h1
        go_enter Tryz.func116, Tryz.ntmps116
        go_wp2_with (go_at_call 47; refine (HG.out _).mono ?_; rintro e w' ⟨rfl, n, rfl⟩)
        all_goals (go_ret; exact ⟨rfl, ok, (((((HD.out.alloc _).alloc _).alloc _).alloc _)).drewN _, fun k hk => .inl hk, ((((((Fr.refl _ w).alloc _).alloc _).alloc _).alloc _).drewN _)⟩)
      · have q1 : decide (a < 0) = false := by simp; omega
        by_cases c2 : 4194304 < a
        · have q2 : decide ((4194304 : Int) < a) = true := by simp; omega
          clear hg h1
          go_enter Tryz.func116, Tryz.ntmps116
          go_wp2_with (go_at_call 47; refine (HG.out _).mono ?_; rintro e w' ⟨rfl, n, rfl⟩)
          all_goals (go_ret; exact ⟨rfl, ok, (((((HD.out.alloc _).alloc _).alloc _).alloc _)).drewN _, fun k hk => .inl hk, ((((((Fr.refl _ w).alloc _).alloc _).alloc _).alloc _).drewN _)⟩)
        · have q2 : decide ((4194304 : Int) < a) = false := by simp; omega
          have c3 : 4194304 < a + nb := by
            rcases Decidable.em (4194304 < a + nb) with h | h
            · exact h
            · exact absurd ⟨h1, by omega⟩ hg
          have q3 : decide ((4194304 : Int) - a < nb) = true := by simp; omega
          clear hg h1
          go_enter Tryz.func116, Tryz.ntmps116
          go_wp2_with (go_at_call 47; refine (HG.out _).mono ?_; rintro e w' ⟨rfl, n, rfl⟩)
          all_goals (go_ret; exact ⟨rfl, ok, (((((HD.out.alloc _).alloc _).alloc _).alloc _)).drewN _, fun k hk => .inl hk, ((((((Fr.refl _ w).alloc _).alloc _).alloc _).alloc _).drewN _)⟩)
  · have HG := Aside0.mk (fun W => good_no (by unfold maxLen at hs; exact hs) h1 W)
    clear hs hg h1
    go_enter Tryz.func116, Tryz.ntmps116
    go_wp2_with (go_at_call 47; refine (HG.out _).mono ?_; rintro e w' ⟨rfl, n, rfl⟩)
    all_goals (go_ret; exact ⟨rfl, ok, (((((HD.out.alloc _).alloc _).alloc _).alloc _)).drewN _, fun k hk => .inl hk, ((((((Fr.refl _ w).alloc _).alloc _).alloc _).alloc _).drewN _)⟩)

/-- behind the guard: the stroke -/
theorem write_goes {w : World} {d : Nat} {s : ByteArray} (a : Int) {Ab : Option Addr} {nb cb : Nat} (hg : GoodN s ∧ 0 < nb ∧ 0 ≤ a ∧ a ≤ 4194304 ∧ a + nb ≤ 4194304) {Q : Ending → World → Prop}
    (hK : ∀ n, Calls Tryz.prog 111 #[dptr d, .func (.func 131) #[] #[bptr w.heap.size, bptr (w.heap.size + 1), bptr (w.heap.size + 2), bptr (w.heap.size + 3)], .func (.func 124) #[] #[]] (((((w.alloc (.cells #[dptr d] 25)).alloc (.cells #[.string s] 9)).alloc (.cells #[.int .i64 a] 3)).alloc (.cells #[.slice Ab nb cb] 48)).drewN n) Q)
    (hQ : ∀ e w', Q e w' → ∃ x, e = .returned (.int .i64 x)) :
    Calls Tryz.prog 116 #[dptr d, .string s, .int .i64 a, .slice Ab nb cb] w Q := by
  obtain ⟨hg, g0, g1, g2, g3⟩ := hg
  have HG := Aside0.mk (fun W => good_yes hg W)
  have HK := Aside0.mk hK
  clear hK
  have q0 : ((nb : Int) == 0) = false := by simp; omega
  have q1 : decide (a < 0) = false := by simp; omega
  have q2 : decide ((4194304 : Int) < a) = false := by simp; omega
  have q3 : decide ((4194304 : Int) - a < nb) = false := by simp; omega
  clear hg
  go_enter Tryz.func116, Tryz.ntmps116
  go_wp2_with (first | (go_at_call 47; refine (HG.out _).mono ?_; rintro e w' ⟨rfl, n, rfl⟩) | (go_at_call 111; refine (HK.out _).mono ?_; intro e w' hq; obtain ⟨x, rfl⟩ := hQ _ _ hq))
  exact hq

/-- behind the guard: the stroke -/
theorem sync_goes {w : World} {d : Nat} {s : ByteArray}  (hg : GoodN s ∧ True) {Q : Ending → World → Prop}
    (hK : ∀ n, Calls Tryz.prog 111 #[dptr d, .func (.func 112) #[] #[bptr w.heap.size, bptr (w.heap.size + 1)], .func (.func 114) #[] #[bptr w.heap.size, bptr (w.heap.size + 1)]] (((w.alloc (.cells #[dptr d] 25)).alloc (.cells #[.string s] 9)).drewN n) Q)
    (hQ : ∀ e w', Q e w' → ∃ x, e = .returned (.int .i64 x)) :
    Calls Tryz.prog 88 #[dptr d, .string s] w Q := by
  obtain ⟨hg, g0⟩ := hg
  have HG := Aside0.mk (fun W => good_yes hg W)
  have HK := Aside0.mk hK
  clear hK
  clear hg
  go_enter Tryz.func88, Tryz.ntmps88
  go_wp2_with (first | (go_at_call 47; refine (HG.out _).mono ?_; rintro e w' ⟨rfl, n, rfl⟩) | (go_at_call 111; refine (HK.out _).mono ?_; intro e w' hq; obtain ⟨x, rfl⟩ := hQ _ _ hq))
  exact hq

/-- behind the guard: the stroke -/
theorem del_goes {w : World} {d : Nat} {s : ByteArray}  (hg : GoodN s ∧ True) {Q : Ending → World → Prop}
    (hK : ∀ n, Calls Tryz.prog 111 #[dptr d, .func (.func 123) #[] #[bptr w.heap.size, bptr (w.heap.size + 1)], .func (.func 124) #[] #[]] (((w.alloc (.cells #[dptr d] 25)).alloc (.cells #[.string s] 9)).drewN n) Q)
    (hQ : ∀ e w', Q e w' → ∃ x, e = .returned (.int .i64 x)) :
    Calls Tryz.prog 94 #[dptr d, .string s] w Q := by
  obtain ⟨hg, g0⟩ := hg
  have HG := Aside0.mk (fun W => good_yes hg W)
  have HK := Aside0.mk hK
  clear hK
  clear hg
  go_enter Tryz.func94, Tryz.ntmps94
  go_wp2_with (first | (go_at_call 47; refine (HG.out _).mono ?_; rintro e w' ⟨rfl, n, rfl⟩) | (go_at_call 111; refine (HK.out _).mono ?_; intro e w' hq; obtain ⟨x, rfl⟩ := hQ _ _ hq))
  exact hq

theorem write_any {w : World} {d : Nat} {M : DM} {ok : Nat → Prop} (h : DiskAt w d M ok) (hfit : Fit M) {s : ByteArray} {a nb cb : Nat} {Ab : Option Addr} {b : Bytes} (hg : GoodN s) (hnb : 0 < nb) (ha : a + nb ≤ 4194304) (hsrc : Src w ok Ab nb b) (hsl : ∀ ad, Ab = some ad → ad.block < w.heap.size) :
    Calls Tryz.prog 116 #[dptr d, .string s, .int .i64 (a : Int), .slice Ab nb cb] w fun e w' => e = .returned (.int .i64 (writeM M (nm s) a b).1) ∧ Left w d (writeM M (nm s) a b).2 ok w' := by
  have hs : s.size ≤ maxLen := by have := hg.2.2; unfold maxLen; omega
  refine write_goes (a : Int) (Ab := Ab) (nb := nb) (cb := cb) ⟨hg, hnb, by omega, by omega, by omega⟩ (fun n => ?_) (fun e w' hq => ⟨_, hq.1⟩)
  have hT := h.tight
  obtain ⟨okS, hokS⟩ : ∃ okS : Nat → Prop, okS = (fun k => ok k ∧ k < w.heap.size) := ⟨_, rfl⟩
  have hloose : ∀ (W : World) (r : Int × DM), Fr (fun k => ok k ∧ k < w.heap.size) w W → (Calls Tryz.prog 111 #[dptr d, .func (.func 131) #[] #[bptr w.heap.size, bptr (w.heap.size + 1), bptr (w.heap.size + 2), bptr (w.heap.size + 3)], .func (.func 124) #[] #[]] W fun e w' => e = .returned (.int .i64 r.1) ∧ Left W d r.2 (fun k => ok k ∧ k < w.heap.size) w') → Calls Tryz.prog 111 #[dptr d, .func (.func 131) #[] #[bptr w.heap.size, bptr (w.heap.size + 1), bptr (w.heap.size + 2), bptr (w.heap.size + 3)], .func (.func 124) #[] #[]] W fun e w' => e = .returned (.int .i64 r.1) ∧ Left w d r.2 ok w' :=
    fun W r hW hc => hc.mono fun e w' ⟨he, hL⟩ => ⟨he, hL.loose hW⟩
  refine hloose _ (writeM M (nm s) a b) ((((((Fr.refl _ w).alloc _).alloc _).alloc _).alloc _).drewN _) ?_
  clear hloose
  have hbd : Box (((((w.alloc (.cells #[dptr d] 25)).alloc (.cells #[.string s] 9)).alloc (.cells #[.int .i64 (a : Int)] 3)).alloc (.cells #[.slice Ab nb cb] 48)).drewN n) (fun k => ok k ∧ k < w.heap.size) w.heap.size (dptr d) 25 := ⟨by show (((((w.heap.push _).push _).push _).push _))[_]? = _; exact lies (lies (lies (fresh _ _ (rfl)) _) _) _, fun hk => by have := hk.2; omega⟩
  have hbn : Box (((((w.alloc (.cells #[dptr d] 25)).alloc (.cells #[.string s] 9)).alloc (.cells #[.int .i64 (a : Int)] 3)).alloc (.cells #[.slice Ab nb cb] 48)).drewN n) (fun k => ok k ∧ k < w.heap.size) (w.heap.size + 1) (.string s) 9 := ⟨by show (((((w.heap.push _).push _).push _).push _))[_]? = _; exact lies (lies (fresh _ _ (by simp only [Array.size_push])) _) _, fun hk => by have := hk.2; omega⟩
  have hba : Box (((((w.alloc (.cells #[dptr d] 25)).alloc (.cells #[.string s] 9)).alloc (.cells #[.int .i64 (a : Int)] 3)).alloc (.cells #[.slice Ab nb cb] 48)).drewN n) (fun k => ok k ∧ k < w.heap.size) (w.heap.size + 2) (.int .i64 (a : Int)) 3 := ⟨by show (((((w.heap.push _).push _).push _).push _))[_]? = _; exact lies (fresh _ _ (by simp only [Array.size_push])) _, fun hk => by have := hk.2; omega⟩
  have hbb : Box (((((w.alloc (.cells #[dptr d] 25)).alloc (.cells #[.string s] 9)).alloc (.cells #[.int .i64 (a : Int)] 3)).alloc (.cells #[.slice Ab nb cb] 48)).drewN n) (fun k => ok k ∧ k < w.heap.size) (w.heap.size + 3) (.slice Ab nb cb) 48 := ⟨by show (((((w.heap.push _).push _).push _).push _))[_]? = _; exact fresh _ _ (by simp only [Array.size_push]), fun hk => by have := hk.2; omega⟩
  have hsrc1 : Src w (fun k => ok k ∧ k < w.heap.size) Ab nb b := ⟨hsrc.1, fun ad e hk => hsrc.2 ad e hk.1⟩
  have hsrcW : Src (((((w.alloc (.cells #[dptr d] 25)).alloc (.cells #[.string s] 9)).alloc (.cells #[.int .i64 a] 3)).alloc (.cells #[.slice Ab nb cb] 48)).drewN n) (fun k => ok k ∧ k < w.heap.size) Ab nb b := hsrc1.fr' hsl ((((((Fr.refl _ w).alloc _).alloc _).alloc _).alloc _).drewN _) (fun _ hk => .inl hk)
  have hslW : ∀ ad, Ab = some ad → ad.block < (((((w.alloc (.cells #[dptr d] 25)).alloc (.cells #[.string s] 9)).alloc (.cells #[.int .i64 a] 3)).alloc (.cells #[.slice Ab nb cb] 48)).drewN n).heap.size := fun ad e => Nat.lt_of_lt_of_le (hsl ad e) (((((((Fr.refl _ w).alloc _).alloc _).alloc _).alloc _).drewN n : Fr (fun k => ok k ∧ k < w.heap.size) w _).size)
  have hD : DiskAt (((((w.alloc (.cells #[dptr d] 25)).alloc (.cells #[.string s] 9)).alloc (.cells #[.int .i64 (a : Int)] 3)).alloc (.cells #[.slice Ab nb cb] 48)).drewN n) d M (fun k => ok k ∧ k < w.heap.size) := (((((hT.alloc _).alloc _).alloc _).alloc _)).drewN n
  rw [← hokS] at hbd hbn hba hbb hsrcW hD ⊢
  clear hT hsrc1
  generalize hWW : ((((w.alloc (.cells #[dptr d] 25)).alloc (.cells #[.string s] 9)).alloc (.cells #[.int .i64 (a : Int)] 3)).alloc (.cells #[.slice Ab nb cb] 48)).drewN n = W0 at *
  clear hWW
  have hsrcT : ∀ W, Fr okS W0 W → Src W okS Ab nb b := fun W hW => hsrcW.fr' hslW hW (fun _ hk => .inl hk)
  unfold writeM
  cases hx : M.fs (nm s) with
  | some f =>
    exact stroke_any hD Tryz.func131 rfl rfl (fun W hW hDW => write_old hDW (hbd.fr' hW (fun _ hk => .inl hk)) (hbn.fr' hW (fun _ hk => .inl hk)) (hba.fr' hW (fun _ hk => .inl hk)) (hbb.fr' hW (fun _ hk => .inl hk)) hs (hsrcT W hW) hnb ha hx (hfit.len _ _ hx).2) Tryz.func124 rfl rfl (fun _ W ok' _ _ hDW => nothing_any hDW) hfit.st0 hfit.st1
  | none =>
    obtain ⟨L, hL⟩ := hD.isL
    have hc := card_eq hL
    have h16 : L.length ≤ 16 := by rw [← hc]; exact hfit.cd
    by_cases hlt : card M.fs < 16
    · simp only [if_pos hlt]
      exact stroke_any hD Tryz.func131 rfl rfl (fun W hW hDW => write_new hDW (hbd.fr' hW (fun _ hk => .inl hk)) (hbn.fr' hW (fun _ hk => .inl hk)) (hba.fr' hW (fun _ hk => .inl hk)) (hbb.fr' hW (fun _ hk => .inl hk)) hs (hsrcT W hW) hnb ha hx hL.1 hL.2 (by omega)) Tryz.func124 rfl rfl (fun _ W ok' _ _ hDW => nothing_any hDW) hfit.st0 hfit.st1
    · simp only [if_neg hlt]
      exact stroke_any hD (fs1 := M.fs) (fs2 := M.fs) Tryz.func131 rfl rfl (fun W hW hDW => (write_full hDW (hbd.fr' hW (fun _ hk => .inl hk)) (hbn.fr' hW (fun _ hk => .inl hk)) hs hx hL.1 hL.2 (by omega)).mono (fun e w' ⟨he, m, hm⟩ => ⟨he, by rw [hm]; exact (Left.same hDW).drewN m⟩)) Tryz.func124 rfl rfl (fun _ W ok' _ _ hDW => nothing_any hDW) hfit.st0 hfit.st1

theorem sync_any {w : World} {d : Nat} {M : DM} {ok : Nat → Prop} (h : DiskAt w d M ok) (hfit : Fit M) {s : ByteArray}  (hg : GoodN s) :
    Calls Tryz.prog 88 #[dptr d, .string s] w fun e w' => e = .returned (.int .i64 (syncM M (nm s)).1) ∧ Left w d (syncM M (nm s)).2 ok w' := by
  have hs : s.size ≤ maxLen := by have := hg.2.2; unfold maxLen; omega
  refine sync_goes ⟨hg, trivial⟩ (fun n => ?_) (fun e w' hq => ⟨_, hq.1⟩)
  have hT := h.tight
  obtain ⟨okS, hokS⟩ : ∃ okS : Nat → Prop, okS = (fun k => ok k ∧ k < w.heap.size) := ⟨_, rfl⟩
  have hloose : ∀ (W : World) (r : Int × DM), Fr (fun k => ok k ∧ k < w.heap.size) w W → (Calls Tryz.prog 111 #[dptr d, .func (.func 112) #[] #[bptr w.heap.size, bptr (w.heap.size + 1)], .func (.func 114) #[] #[bptr w.heap.size, bptr (w.heap.size + 1)]] W fun e w' => e = .returned (.int .i64 r.1) ∧ Left W d r.2 (fun k => ok k ∧ k < w.heap.size) w') → Calls Tryz.prog 111 #[dptr d, .func (.func 112) #[] #[bptr w.heap.size, bptr (w.heap.size + 1)], .func (.func 114) #[] #[bptr w.heap.size, bptr (w.heap.size + 1)]] W fun e w' => e = .returned (.int .i64 r.1) ∧ Left w d r.2 ok w' :=
    fun W r hW hc => hc.mono fun e w' ⟨he, hL⟩ => ⟨he, hL.loose hW⟩
  refine hloose _ (syncM M (nm s)) ((((Fr.refl _ w).alloc _).alloc _).drewN _) ?_
  clear hloose
  have hbd : Box (((w.alloc (.cells #[dptr d] 25)).alloc (.cells #[.string s] 9)).drewN n) (fun k => ok k ∧ k < w.heap.size) w.heap.size (dptr d) 25 := ⟨by show (((w.heap.push _).push _))[_]? = _; exact lies (fresh _ _ (rfl)) _, fun hk => by have := hk.2; omega⟩
  have hbn : Box (((w.alloc (.cells #[dptr d] 25)).alloc (.cells #[.string s] 9)).drewN n) (fun k => ok k ∧ k < w.heap.size) (w.heap.size + 1) (.string s) 9 := ⟨by show (((w.heap.push _).push _))[_]? = _; exact fresh _ _ (by simp only [Array.size_push]), fun hk => by have := hk.2; omega⟩
  have hD : DiskAt (((w.alloc (.cells #[dptr d] 25)).alloc (.cells #[.string s] 9)).drewN n) d M (fun k => ok k ∧ k < w.heap.size) := (((hT.alloc _).alloc _)).drewN n
  rw [← hokS] at hbd hbn hD ⊢
  clear hT
  generalize hWW : ((w.alloc (.cells #[dptr d] 25)).alloc (.cells #[.string s] 9)).drewN n = W0 at *
  clear hWW
  unfold syncM
  cases hx : M.fs (nm s) with
  | some f => exact stroke_any hD (fs1 := M.fs) Tryz.func112 rfl rfl (fun W hW hDW => sync_some hDW (hbd.fr' hW (fun _ hk => .inl hk)) (hbn.fr' hW (fun _ hk => .inl hk)) hs hx) Tryz.func114 rfl rfl (fun _ W ok' hks hW hDW => sync_safe hDW (hbd.fr' hW hks) (hbn.fr' hW hks) hs hx (hfit.len _ _ hx).2) hfit.st0 hfit.st1
  | none => exact stroke_any hD (fs1 := M.fs) (fs2 := M.fs) Tryz.func112 rfl rfl (fun W hW hDW => sync_none hDW (hbd.fr' hW (fun _ hk => .inl hk)) (hbn.fr' hW (fun _ hk => .inl hk)) hs hx) (G := 114) Tryz.func114 rfl rfl (fun h => by simp at h) hfit.st0 hfit.st1

theorem del_any {w : World} {d : Nat} {M : DM} {ok : Nat → Prop} (h : DiskAt w d M ok) (hfit : Fit M) {s : ByteArray}  (hg : GoodN s) :
    Calls Tryz.prog 94 #[dptr d, .string s] w fun e w' => e = .returned (.int .i64 (delM M (nm s)).1) ∧ Left w d (delM M (nm s)).2 ok w' := by
  have hs : s.size ≤ maxLen := by have := hg.2.2; unfold maxLen; omega
  refine del_goes ⟨hg, trivial⟩ (fun n => ?_) (fun e w' hq => ⟨_, hq.1⟩)
  have hT := h.tight
  obtain ⟨okS, hokS⟩ : ∃ okS : Nat → Prop, okS = (fun k => ok k ∧ k < w.heap.size) := ⟨_, rfl⟩
  have hloose : ∀ (W : World) (r : Int × DM), Fr (fun k => ok k ∧ k < w.heap.size) w W → (Calls Tryz.prog 111 #[dptr d, .func (.func 123) #[] #[bptr w.heap.size, bptr (w.heap.size + 1)], .func (.func 124) #[] #[]] W fun e w' => e = .returned (.int .i64 r.1) ∧ Left W d r.2 (fun k => ok k ∧ k < w.heap.size) w') → Calls Tryz.prog 111 #[dptr d, .func (.func 123) #[] #[bptr w.heap.size, bptr (w.heap.size + 1)], .func (.func 124) #[] #[]] W fun e w' => e = .returned (.int .i64 r.1) ∧ Left w d r.2 ok w' :=
    fun W r hW hc => hc.mono fun e w' ⟨he, hL⟩ => ⟨he, hL.loose hW⟩
  refine hloose _ (delM M (nm s)) ((((Fr.refl _ w).alloc _).alloc _).drewN _) ?_
  clear hloose
  have hbd : Box (((w.alloc (.cells #[dptr d] 25)).alloc (.cells #[.string s] 9)).drewN n) (fun k => ok k ∧ k < w.heap.size) w.heap.size (dptr d) 25 := ⟨by show (((w.heap.push _).push _))[_]? = _; exact lies (fresh _ _ (rfl)) _, fun hk => by have := hk.2; omega⟩
  have hbn : Box (((w.alloc (.cells #[dptr d] 25)).alloc (.cells #[.string s] 9)).drewN n) (fun k => ok k ∧ k < w.heap.size) (w.heap.size + 1) (.string s) 9 := ⟨by show (((w.heap.push _).push _))[_]? = _; exact fresh _ _ (by simp only [Array.size_push]), fun hk => by have := hk.2; omega⟩
  have hD : DiskAt (((w.alloc (.cells #[dptr d] 25)).alloc (.cells #[.string s] 9)).drewN n) d M (fun k => ok k ∧ k < w.heap.size) := (((hT.alloc _).alloc _)).drewN n
  rw [← hokS] at hbd hbn hD ⊢
  clear hT
  generalize hWW : ((w.alloc (.cells #[dptr d] 25)).alloc (.cells #[.string s] 9)).drewN n = W0 at *
  clear hWW
  unfold delM
  cases hx : M.fs (nm s) with
  | some f => exact stroke_any hD Tryz.func123 rfl rfl (fun W hW hDW => del_some hDW (hbd.fr' hW (fun _ hk => .inl hk)) (hbn.fr' hW (fun _ hk => .inl hk)) hs hx) Tryz.func124 rfl rfl (fun _ W ok' _ _ hDW => nothing_any hDW) hfit.st0 hfit.st1
  | none => exact stroke_any hD Tryz.func123 rfl rfl (fun W hW hDW => del_none hDW (hbd.fr' hW (fun _ hk => .inl hk)) (hbn.fr' hW (fun _ hk => .inl hk)) hs hx) Tryz.func124 rfl rfl (fun _ W ok' _ _ hDW => nothing_any hDW) hfit.st0 hfit.st1
end Go.Proofs.YtmdpgjdepflbmaaGreat

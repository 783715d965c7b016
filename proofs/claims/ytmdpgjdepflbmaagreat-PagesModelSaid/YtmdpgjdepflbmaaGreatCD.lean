/-
  The law's own model of held pages in memory: find, drop, add.
-/
import Derived.Test.YtmdpgjdepflbmaaGreatCC
import Derived.Maps.AppendAt
import Derived.Test.YtmdpgjdepflbmaaGreatCWKept
namespace Go.Proofs.YtmdpgjdepflbmaaGreat
open Go.RowKit Go.Maps Go.Proofs.YtmdpgjdepflbmaaGreatW.PrintWords Go.Proofs.YtmdpgjdepflbmaaGreatW.PrintLast Go.Proofs.YtmdpgjdepflbmaaGreatW.PrintMore
open Go.Proofs.YtmdpgjdepflbmaaGreat.PPagerFolds
set_option linter.unusedVariables false
set_option linter.unusedSimpArgs false

/-- a page's row as it stands in a slice: block and room -/
abbrev KT : Kd (Nat × Nat) := Kd.scalar (fun x => .slice (some ⟨x.1, 0, none⟩) 512 x.2) (fun _ => rfl)
theorem info35t : (Tryz.prog.info? 48).map (fun i => (i.zero, i.size, i.bytes)) = some (some (.slice none 0 0), 1, 24) := by kernel_rfl

section
variable {α : Type} {enc : α → Value} {h1 : ∀ x, (enc x).oneCell' = true}
/-- append(v, ys...), its run -/
theorem app_run (W : World) (base : Nat) (t ty e : TypeId) (z : Value) (bytes : Nat) (ht : Tryz.prog.underlying t = some (.slice e)) (hinfo : (Tryz.prog.info? e).map (fun i => (i.zero, i.size, i.bytes)) = some (some z, 1, bytes)) (hz : z.cells.size = 1) (hb0 : 0 < bytes)
    (v : Value) (xs ys : List α) (A : Option Addr) (m c : Nat) (ok : Nat → Prop) (HO : (Kd.scalar enc h1).R e W base ok v xs) (HR : (Kd.scalar enc h1).C W A m ys) (hfresh : ∀ k, W.heap.size ≤ k → ok k) (hbase : base ≤ W.heap.size) (hl : (xs.length + m) * bytes ≤ 140737488355328) :
    ∃ v1 w1, (Builtin.append_ #[t, t] ty #[v, .slice A m c]).run Tryz.prog W = .ok v1 w1 ∧ (Kd.scalar enc h1).R e w1 base ok v1 (xs ++ ys) ∧ W.grownBy w1 v.ownBlock := by
  obtain ⟨i0, hi, hzz⟩ := Option.map_eq_some_iff.1 hinfo
  simp only [Prod.mk.injEq] at hzz
  obtain ⟨hz0, hz1, hz2⟩ := hzz
  have hm : ys.length = m := HR.1
  have hlen : xs.length + m ≤ maxLen := by have := Nat.le_trans (Nat.le_mul_of_pos_right (xs.length + m) hb0) hl; simp only [maxLen]; omega
  have hown := Kd.own_of_R HO
  rcases A with _ | ad
  · have h0 : m = 0 := by
      rcases Nat.eq_zero_or_pos m with h0 | h0
      · exact h0
      · obtain ⟨ad, h, _⟩ := HR.2.2 h0
        cases h
    subst h0
    obtain rfl : ys = [] := List.eq_nil_of_length_eq_zero hm
    refine ⟨v, W, ?_, by rw [List.append_nil]; exact HO, World.grownBy.refl W _⟩
    rcases hown.2 with ⟨rfl, hn⟩ | ⟨g, cap, cur, rfl, _, _, hnc, _⟩
    · simp [Builtin.append_, run_underlying ht, sizeOf, typeInfo, hi, Builtin.lenOf, Builtin.firstCells]
    · simp [Builtin.append_, run_underlying ht, sizeOf, typeInfo, hi, Builtin.lenOf, Builtin.firstCells, hnc, storeCells]
  · obtain ⟨news, hnr, hnc⟩ := ReadsRow.inner_ HR
    have he : news = encs enc ys := by
      apply List.ext_getElem?
      intro j
      have hnl : news.length = ys.length * 1 := hnr.1
      rw [Nat.mul_one] at hnl
      by_cases hj : j < ys.length
      · have h2 := hnr.2 j _ (List.getElem?_eq_getElem hj)
        have h3 : ((news.drop (j * 1)).take 1) = [enc ys[j]] := h2
        have h4 : news[j]? = ((news.drop (j * 1)).take 1)[0]? := by simp
        rw [h4, h3]
        simp [encs, hj]
      · rw [List.getElem?_eq_none (by omega), List.getElem?_eq_none (by simp [encs]; omega)]
    subst he
    obtain ⟨v1, w1, hrun, h2, hg, _, hat⟩ := run_append_own_at (P := Tryz.prog) W base t ty e i0 z 1 bytes ht hi hz0 hz1 hz2 hz (by decide) v xs.length (encs enc xs) hown ad m c (encs enc ys) (by rw [hnr.1, hm]; rfl) hnc (fun u hu => by obtain ⟨x, _, rfl⟩ := List.mem_map.1 hu; exact h1 x) hlen hl hbase
    refine ⟨v1, w1, hrun, Kd.R_of_own (by rw [encs_append, List.length_append, hm]; exact h2) (fun k hk => ?_), hg⟩
    rcases hat with hat | hat
    · exact HO.1 k (hat ▸ hk)
    · rw [hat] at hk
      injection hk with hk
      exact hfresh k (by omega)
omit h1 in
/-- an append whose run is known, in a plain region -/
theorem app_list {ops : Array Oper} {rest : List Oper} {o : Oper} {a : Act} {Q : Exit → Act → World → Prop} {W : World} (hgd : o.guard = none) (s x : Operand) (t : TypeId) (ho : o.op = .call { callee := .builtin .append, args := #[s, x], argTypes := #[t, t] })
    (v y : Value) (hs : a.eval s = v) (hx : a.eval x = y) {v1 : Value} {w1 : World} (hrun : (Builtin.append_ #[t, t] o.type #[v, y]).run Tryz.prog W = .ok v1 w1) (h : wpList Tryz.prog ops Q rest (a.put o.dst v1) w1) : wpList Tryz.prog ops Q (o :: rest) a W := by
  refine wpList_plain hgd fun K hK => ?_
  unfold Oper.wp execOp
  simp only [ho, resolve, invoke, builtin, Sem.run_bind, Sem.run_pure, Result.andThen_ok, List.map_toArray, List.map_cons, List.map_nil, hs, hx, hrun]
  exact hK _ _ h
/-- a cut ahead -/
theorem cut_T (t e : TypeId) (z : Value) (bytes : Nat) (ht : Tryz.prog.underlying t = some (.slice e)) (hinfo : (Tryz.prog.info? e).map (fun i => (i.zero, i.size, i.bytes)) = some (some z, 1, bytes)) {w : World} {A : Option Addr} {len c k : Nat} {l : List α} (hC : (Kd.scalar enc h1).C w A len l) (hc : len ≤ c) (hk : k ≤ len) (j : Int) (hj : j = k) :
    (∀ W : World, (Instr.slice t (.slice A len c) none (some (.int .i64 j)) none).run Tryz.prog W = .ok (.slice A k c) W) ∧ (Kd.scalar enc h1).C w A k (l.take k) := by
  obtain ⟨i5, hi, hz⟩ := Option.map_eq_some_iff.1 hinfo
  subst hj
  obtain rfl : l.length = len := hC.1
  have h1 := cut_to (P := Tryz.prog) t e .i64 ht hi A l.length c (k : Int) (by omega) (by omega) hc
  rw [Int.toNat_natCast] at h1
  have h2 := Kd.C_take hC hk
  rw [List.length_take, Nat.min_eq_left hk] at h2
  exact ⟨h1, h2⟩
theorem cut_B (t e : TypeId) (z : Value) (bytes : Nat) (ht : Tryz.prog.underlying t = some (.slice e)) (hinfo : (Tryz.prog.info? e).map (fun i => (i.zero, i.size, i.bytes)) = some (some z, 1, bytes)) {w : World} {A : Option Addr} {len c k : Nat} {l : List α} (hC : (Kd.scalar enc h1).C w A len l) (hc : len ≤ c) (hk : k ≤ len) (j : Int) (hj : j = k) :
    ∃ A' m c', (∀ W : World, (Instr.slice t (.slice A len c) (some (.int .i64 j)) none none).run Tryz.prog W = .ok (.slice A' m c') W) ∧ (Kd.scalar enc h1).C w A' m (l.drop k) ∧ m ≤ c' ∧ m = len - k := by
  obtain ⟨i5, hi, hz⟩ := Option.map_eq_some_iff.1 hinfo
  simp only [Prod.mk.injEq] at hz
  subst hj
  obtain rfl : l.length = len := hC.1
  have h1 := cut_from (P := Tryz.prog) t e .i64 ht hi 1 hz.2.1 A l.length c (k : Int) (by omega) (by omega)
  rw [Int.toNat_natCast] at h1
  have h2 := Kd.C_drop hC hk hc
  rw [List.length_drop] at h2
  exact ⟨_, _, _, h1, h2, by omega, rfl⟩
theorem R_emptyk (e : Nat) (w : World) (base : Nat) (ok : Nat → Prop) (hb : base ≤ w.heap.size) (ho : ok w.heap.size) : (Kd.scalar enc h1).R e (w.alloc (.cells #[] e)) base ok (.slice (some ⟨w.heap.size, 0, none⟩) 0 0) [] :=
  ⟨fun k hk => by simp [Value.ownBlock] at hk; rw [← hk]; exact ho, [], ⟨rfl, .inr ⟨w.heap.size, 0, #[], rfl, hb, heap_alloc_new w _, Nat.le_refl _, Nat.zero_le _, rfl, rfl⟩⟩, Reps.none _ _⟩
theorem R_rowk {e : Nat} {w : World} {base : Nat} {ok : Nat → Prop} {v : Value} {l : List α} (h : (Kd.scalar enc h1).R e w base ok v l) : ∃ A c, v = .slice A l.length c ∧ (Kd.scalar enc h1).C w A l.length l ∧ l.length ≤ c := by
  obtain ⟨A, c, h1, h2, h3⟩ := Kd.R_reads h
  exact ⟨A, c, h1, h3, h2⟩
end

/-- find -/
theorem find_any {w : World} (mb : Nat) (A : Option Addr) (n c : Nat) (L : List Int) (x : Int) (hm : w.cell? ⟨mb, 0, none⟩ = some (.slice A n c)) (hC : I64.C w A n L) (hn : n < 4611686018427387904) :
    Calls Tryz.prog 71 #[dp mb, .int .i64 x] w fun e w' => ∃ r, e = .returned (.int .i64 r) ∧ w = w' ∧ ((r = -1 ∧ x ∉ L) ∨ ∃ k : Nat, r = k ∧ L[k]? = some x) := by
  have hl : L.length = n := hC.1
  have HC := Aside0.mk hC
  have HL := Aside0.mk hl
  clear hC hl
  go_enter Tryz.func71, Tryz.ntmps71
  go_wp2
  go_loop [5] (fun i => ∃ k : Nat, i = .int .i64 k ∧ k ≤ n ∧ Aside0 (x ∉ L.take k)) (fun i => n - (intOf i).toNat)
  case atStart => exact ⟨0, rfl, by omega, ⟨by simp⟩⟩
  case round =>
    obtain ⟨k, rfl, hk, HI⟩ := hrel
    by_cases h1 : k < n
    · obtain ⟨ad, rfl, hc⟩ := Kd.at_int HC.out (k : Int) (by omega) (by omega)
      rw [Int.toNat_natCast] at hc
      have hkl : k < L.length := by rw [HL.out]; exact h1
      have hrd : rd L (k : Int) = L[k]'hkl := by simp [rd, List.getD_eq_getElem?_getD, hkl]
      have hts : L.take (k + 1) = L.take k ++ [rd L (k : Int)] := by rw [hrd]; exact List.take_succ_eq_append_getElem hkl
      have hat : L[k]? = some (rd L (k : Int)) := by rw [hrd]; exact List.getElem?_eq_getElem hkl
      have HT := Aside0.mk (And.intro hts hat)
      clear hrd hts hat hkl
      generalize rd L (k : Int) = y at *
      by_cases h2 : y = x
      · have q : (y == x) = true := beq_iff_eq.2 h2
        have HM : Aside0 (L[k]? = some x) := ⟨h2 ▸ HT.out.2⟩
        clear h2
        go_wp2
        go_ret
        exact ⟨_, rfl, rfl, .inr ⟨k, rfl, HM.out⟩⟩
      · have q : (y == x) = false := beq_eq_false_iff_ne.2 h2
        have HM : Aside0 (x ∉ L.take (k + 1)) := ⟨by
          rw [HT.out.1, List.mem_append]
          rintro (h | h)
          · exact HI.out h
          · exact h2 (List.mem_singleton.1 h).symm⟩
        clear h2
        go_wp2
        go_round
        case rel => exact ⟨k + 1, by go_num, by omega, HM⟩
        case measure => simp [intOf]; omega
    · go_wp2
      go_ret
      have := HI.out
      rw [List.take_of_length_le (by rw [HL.out]; omega)] at this
      exact ⟨_, rfl, rfl, .inl ⟨rfl, this⟩⟩

/-- a model in memory: its block, rows of its own (blocks of P) -/
structure MdAt (w : World) (P : Nat → Prop) (mb : Nat) (hv tv : Value) (L : List Int) (T : List (Nat × Nat)) (R : List Int) : Prop where
  blk : w.heap[mb]? = some (.cells (hv :: tv :: R.map (Value.int .i64)).toArray 85 (0, 0))
  rl : R.length = 8
  held : I64.R 3 w 0 P hv L
  text : KT.R 48 w 0 P tv T
  tl : T.length = L.length

theorem MdAt.c0 {w : World} {P : Nat → Prop} {mb : Nat} {hv tv : Value} {L : List Int} {T : List (Nat × Nat)} {R : List Int} (h : MdAt w P mb hv tv L T R) : w.cell? ⟨mb, 0, none⟩ = some hv := cell_of_row w mb 0 _ _ (0, 0) h.blk
theorem MdAt.c1 {w : World} {P : Nat → Prop} {mb : Nat} {hv tv : Value} {L : List Int} {T : List (Nat × Nat)} {R : List Int} (h : MdAt w P mb hv tv L T R) : w.cell? ⟨mb, 1, none⟩ = some tv := cell_of_row w mb 1 _ _ (0, 0) h.blk

/-- a store to the model's block -/
theorem md_set {w : World} {mb : Nat} {cs : List Value} {ty : Nat} (h : w.heap[mb]? = some (.cells cs.toArray ty (0, 0))) (j : Nat) (u : Value) : (w.setCell ⟨mb, j, none⟩ u).heap[mb]? = some (.cells (cs.set j u).toArray ty (0, 0)) ∧ w.grownBy (w.setCell ⟨mb, j, none⟩ u) (some mb) := by
  refine ⟨by simp [World.setCell, Array.getElem?_modify, h], ⟨rfl, rfl, rfl, by simp [World.setCell], fun k hk hne => Below.heap_setCell _ _ _ _ (fun e => hne (by rw [e]))⟩⟩
theorem grown_tr {a b c : World} {row row' : Option Nat} (h : a.grownBy b row') (hr : ∀ k, row' = some k → a.heap.size ≤ k ∨ row = some k) (k2 : b.grownBy c row) : a.grownBy c row :=
  ⟨k2.os.trans h.os, k2.tape.trans h.tape, k2.output.trans h.output, Nat.le_trans h.size k2.size, fun k hk hne => (k2.block k (Nat.lt_of_lt_of_le hk h.size) hne).trans (h.block k hk (fun e => (hr k e.symm).elim (fun h' => by omega) (fun h' => hne h'.symm)))⟩
theorem C_of_rowk {α : Type} {enc : α → Value} {h1 : ∀ x, (enc x).oneCell' = true} {e : Nat} {w : World} {base : Nat} {ok : Nat → Prop} {A : Option Addr} {n c : Nat} {l : List α} (h : (Kd.scalar enc h1).R e w base ok (.slice A n c) l) : (Kd.scalar enc h1).C w A n l ∧ n ≤ c ∧ l.length = n := by
  obtain ⟨A', c', e, hC, hl⟩ := R_rowk h
  injection e with e1 e2 e3
  subst e1; subst e2; subst e3
  exact ⟨hC, hl, rfl⟩
theorem C_grown {α : Type} {enc : α → Value} {h1 : ∀ x, (enc x).oneCell' = true} {w w' : World} {A : Option Addr} {n : Nat} {l : List α} (h : (Kd.scalar enc h1).C w A n l) (hg : w.grownBy w' none) : (Kd.scalar enc h1).C w' A n l :=
  Kd.C_below h ⟨hg.os, hg.tape, hg.output, hg.size, fun k hk => hg.block k hk (by simp)⟩

theorem ne_t : ∀ q, q ∈ 48 :: KT.E → q ≠ 85 := fun q hq => by
  rcases List.mem_cons.1 hq with rfl | hq
  · decide
  · cases (show q ∈ ([] : List Nat) from hq)
theorem ne_i : ∀ q, q ∈ 3 :: I64.E → q ≠ 85 := fun q hq => by
  rcases List.mem_cons.1 hq with rfl | hq
  · decide
  · cases (show q ∈ ([] : List Nat) from hq)
set_option maxRecDepth 100000 in
/-- drop -/
theorem drop_any {w : World} {P : Nat → Prop} {mb : Nat} {hv tv : Value} {L : List Int} {T : List (Nat × Nat)} {R : List Int} (h : MdAt w P mb hv tv L T R) (i : Nat) (hi : i < L.length) (hl : L.length ≤ 1000000) :
    Calls Tryz.prog 73 #[dp mb, .int .i64 i] w fun e w' => e = .returned (.tuple #[]) ∧ ∃ hv' tv', MdAt w' (fun k => w.heap.size ≤ k) mb hv' tv' (L.take i ++ L.drop (i + 1)) (T.take i ++ T.drop (i + 1)) R ∧ w.grownBy w' (some mb) := by
  have c0 := h.c0
  have c1 := h.c1
  obtain ⟨A, c, hve, hC, hc⟩ := R_rowk h.held
  obtain ⟨B, d, tve, hD, hd⟩ := R_rowk h.text
  have htl := h.tl
  rw [htl] at tve hD hd
  subst hve tve
  obtain ⟨n, hn⟩ : ∃ n, n = L.length := ⟨_, rfl⟩
  rw [← hn] at c0 c1 hC hc hD hd hi hl htl
  have hT0 : KT.R 48 w 0 P (.slice B n d) T := by rw [hn]; exact h.text
  obtain ⟨r1, C1⟩ := cut_T 60 3 _ 8 Tryz.underlying60 PPagesModel.info3 hC hc (k := i) (by omega) (i : Int) rfl
  obtain ⟨A', m', c', r2, C2, hm', em⟩ := cut_B 60 3 _ 8 Tryz.underlying60 PPagesModel.info3 hC hc (k := i + 1) (by omega) ((i : Int) + 1) (by omega)
  -- the numbers
  have g0 : w.grownBy (w.alloc (.cells #[] 3)) none := World.grownBy_alloc w _ none
  have e0 : I64.R 3 (w.alloc (.cells #[] 3)) 0 (fun k => w.heap.size ≤ k) (.slice (some ⟨w.heap.size, 0, none⟩) 0 0) [] := R_emptyk 3 w 0 _ (Nat.zero_le _) (Nat.le_refl _)
  obtain ⟨v1, w1, a1, R1, g1⟩ := app_run (w.alloc (.cells #[] 3)) 0 60 60 3 _ 8 Tryz.underlying60 PPagesModel.info3 rfl (by decide) _ [] (L.take i) A i c _ e0 (C_grown C1 g0) (fun k hk => Nat.le_trans g0.size hk) (Nat.zero_le _) (by simp; omega)
  have G1 : w.grownBy w1 none := ⟨g1.os, g1.tape, g1.output, Nat.le_trans g0.size g1.size, fun k hk _ => (g1.block k (Nat.lt_of_lt_of_le hk g0.size) (by simp [Value.ownBlock]; omega)).trans (g0.block k hk (by simp))⟩
  obtain ⟨v2, w2, a2, R2, g2⟩ := app_run w1 0 60 60 3 _ 8 Tryz.underlying60 PPagesModel.info3 rfl (by decide) v1 ([] ++ L.take i) (L.drop (i + 1)) A' m' c' _ R1 (C_grown C2 G1) (fun k hk => Nat.le_trans G1.size hk) (Nat.zero_le _) (by simp; omega)
  obtain ⟨A2, c2, rfl, _, _⟩ := R_rowk R2
  obtain ⟨n2, hn2⟩ : ∃ n2, n2 = ([] ++ L.take i ++ L.drop (i + 1)).length := ⟨_, rfl⟩
  rw [← hn2] at a2 R2
  obtain ⟨v2, hv2⟩ : ∃ v2, v2 = Value.slice A2 n2 c2 := ⟨_, rfl⟩
  rw [← hv2] at R2
  have G2 : w.grownBy w2 none := ⟨g2.os.trans G1.os, g2.tape.trans G1.tape, g2.output.trans G1.output, Nat.le_trans G1.size g2.size, fun k hk _ => (g2.block k (Nat.lt_of_lt_of_le hk G1.size) (fun e => by have := R1.1 k e.symm; omega)).trans (G1.block k hk (by simp))⟩
  -- the store
  have hb0 := h.blk
  rw [← hn] at hb0
  have hmb := heap_lt hb0
  have b2 := (G2.block mb hmb (by simp)).trans hb0
  obtain ⟨b3, g3⟩ := md_set b2 0 v2
  have G3 := grown_tr G2 (fun k hk => by simp at hk) g3
  have T2 : KT.R 48 w2 0 P (.slice B n d) T := Kd.R_step hT0 (fun k _ hk => G2.block k hk (by simp))
  have T3 := Kd.R_set T2 b2 ne_t 0 v2
  have R3 := Kd.R_set R2 b2 ne_i 0 v2
  obtain ⟨w3, hw3⟩ : ∃ w3, w3 = w2.setCell ⟨mb, 0, none⟩ v2 := ⟨_, rfl⟩
  rw [← hw3] at b3 g3 G3 T3 R3
  have hs3 : w3.heap.size = w2.heap.size := by rw [hw3]; simp [World.setCell]
  have c13 : w3.cell? ⟨mb, 1, none⟩ = some (.slice B n d) := cell_of_row w3 mb 1 _ _ (0, 0) b3
  obtain ⟨D3, _, _⟩ := C_of_rowk T3
  obtain ⟨s1, D1⟩ := cut_T 32 48 _ 24 Tryz.underlying32 info35t D3 hd (k := i) (by omega) (i : Int) rfl
  obtain ⟨B', k', d', s2, D2, hk', ek⟩ := cut_B 32 48 _ 24 Tryz.underlying32 info35t D3 hd (k := i + 1) (by omega) ((i : Int) + 1) (by omega)
  have f0 : w3.grownBy (w3.alloc (.cells #[] 48)) none := World.grownBy_alloc w3 _ none
  have t0 : KT.R 48 (w3.alloc (.cells #[] 48)) 0 (fun k => w3.heap.size ≤ k) (.slice (some ⟨w3.heap.size, 0, none⟩) 0 0) [] := R_emptyk 48 w3 0 _ (Nat.zero_le _) (Nat.le_refl _)
  obtain ⟨v3, w4, a3, R4, f1⟩ := app_run (w3.alloc (.cells #[] 48)) 0 32 32 48 _ 24 Tryz.underlying32 info35t rfl (by decide) _ [] (T.take i) B i d _ t0 (C_grown D1 f0) (fun k hk => Nat.le_trans f0.size hk) (Nat.zero_le _) (by simp; omega)
  have F1 : w3.grownBy w4 none := ⟨f1.os, f1.tape, f1.output, Nat.le_trans f0.size f1.size, fun k hk _ => (f1.block k (Nat.lt_of_lt_of_le hk f0.size) (by simp [Value.ownBlock]; omega)).trans (f0.block k hk (by simp))⟩
  obtain ⟨v4, w5, a4, R5, f2⟩ := app_run w4 0 32 32 48 _ 24 Tryz.underlying32 info35t rfl (by decide) v3 ([] ++ T.take i) (T.drop (i + 1)) B' k' d' _ R4 (C_grown D2 F1) (fun k hk => Nat.le_trans F1.size hk) (Nat.zero_le _) (by simp; omega)
  obtain ⟨A4, c4, rfl, _, _⟩ := R_rowk R5
  obtain ⟨n4, hn4⟩ : ∃ n4, n4 = ([] ++ T.take i ++ T.drop (i + 1)).length := ⟨_, rfl⟩
  rw [← hn4] at a4 R5
  obtain ⟨v4, hv4⟩ : ∃ v4, v4 = Value.slice A4 n4 c4 := ⟨_, rfl⟩
  rw [← hv4] at R5
  have F2 : w3.grownBy w5 none := ⟨f2.os.trans F1.os, f2.tape.trans F1.tape, f2.output.trans F1.output, Nat.le_trans F1.size f2.size, fun k hk _ => (f2.block k (Nat.lt_of_lt_of_le hk F1.size) (fun e => by have := R4.1 k e.symm; omega)).trans (F1.block k hk (by simp))⟩
  have b5 := (F2.block mb (heap_lt b3) (by simp)).trans b3
  obtain ⟨b6, g6⟩ := md_set b5 1 v4
  have R5n : I64.R 3 w5 0 _ v2 _ := Kd.R_step R3 (fun k _ hk => F2.block k hk (by simp))
  have R6 := Kd.R_set R5n b5 ne_i 1 v4
  have T6 := Kd.R_set R5 b5 ne_t 1 v4
  have c05 : w5.cell? ⟨mb, 1, none⟩ = some (.slice B n d) := cell_of_row w5 mb 1 _ _ (0, 0) b5
  have G6 := grown_tr G3 (fun k hk => .inr hk) (grown_tr F2 (fun k hk => by simp at hk) g6)
  have HE := Aside0.mk (And.intro b6 (And.intro R6 (And.intro (Kd.R_mono T6 (fun k hk => Nat.le_trans G3.size hk)) G6)))
  have HT := Aside0.mk (And.intro h.rl (And.intro htl hn))
  rw [hs3] at a3
  rw [hv2] at hw3
  rw [hw3] at a3
  have x0 := (show w1.cell? ⟨mb, 0, none⟩ = some (.slice A n c) from G1.cell c0 (by simp))
  have x1 := (show w2.cell? ⟨mb, 0, none⟩ = some (.slice A n c) from G2.cell c0 (by simp))
  have x2 : w4.cell? ⟨mb, 1, none⟩ = some (.slice B n d) := F1.cell c13 (by simp)
  have x3 : w2.cell? ⟨mb, 1, none⟩ = some (.slice B n d) := G2.cell c1 (by simp)
  have y0 : (w.alloc (.cells #[] 3)).cell? ⟨mb, 0, none⟩ = some (.slice A n c) := g0.cell c0 (by simp)
  have y1 : ((w2.setCell ⟨mb, 0, none⟩ (.slice A2 n2 c2)).alloc (.cells #[] 48)).cell? ⟨mb, 1, none⟩ = some (.slice B n d) := by rw [← hw3]; exact f0.cell c13 (by simp)
  have q5 := frozen_of_cells b5 1
  have q2 := frozen_of_cells b2 0
  have z0 : (0 : Int) ≤ i := by omega
  have z1 : (i : Int) + 1 ≤ n := by omega
  have z2 : (n : Int) ≤ c := by omega
  have z3 : (n : Int) ≤ d := by omega
  have HV := Aside0.mk (And.intro hv2 hv4)
  clear hv2 hv4 hn2 hn4 hb0 h hC hD hT0 C1 C2 g0 e0 R1 g1 G1 R2 g2 G2 hmb b2 b3 g3 G3 T2 T3 R3 hw3 hs3 c13 D3 D1 D2 f0 t0 R4 f1 F1 R5 f2 F2 b5 b6 g6 R5n R6 T6 G6 hn em ek
  go_enter Tryz.func73, Tryz.ntmps73
  go_wp2_with (first
    | ((with_reducible refine gate_builtin (b := .append) (xs := #[.tmp 6, .tmp 12]) rfl ?_); at_builtin; refine app_list rfl (.tmp 6) (.tmp 12) 60 rfl _ _ rfl rfl a1 ?_)
    | ((with_reducible refine gate_builtin (b := .append) (xs := #[.tmp 15, .tmp 22]) rfl ?_); at_builtin; refine app_list rfl (.tmp 15) (.tmp 22) 60 rfl _ _ rfl rfl a2 ?_)
    | ((with_reducible refine gate_builtin (b := .append) (xs := #[.tmp 26, .tmp 32]) rfl ?_); at_builtin; refine app_list rfl (.tmp 26) (.tmp 32) 32 rfl _ _ rfl rfl a3 ?_)
    | ((with_reducible refine gate_builtin (b := .append) (xs := #[.tmp 35, .tmp 42]) rfl ?_); at_builtin; refine app_list rfl (.tmp 35) (.tmp 42) 32 rfl _ _ rfl rfl a4 ?_))
  go_end0
  have hb := HV.out
  have he := HE.out
  refine ⟨rfl, _, _, ⟨by rw [← hb.2]; exact he.1, HT.out.1, by rw [← hb.2]; exact he.2.1, by rw [← hb.2]; exact he.2.2.1, ?_⟩, by rw [← hb.2]; exact he.2.2.2⟩
  rw [List.length_append, List.length_append, List.length_take, List.length_drop, List.length_take, List.length_drop, HT.out.2.1, HT.out.2.2]

end Go.Proofs.YtmdpgjdepflbmaaGreat
namespace Go.Proofs.YtmdpgjdepflbmaaGreat
open Go.RowKit Go.Maps Go.Proofs.YtmdpgjdepflbmaaGreatW.PrintWords Go.Proofs.YtmdpgjdepflbmaaGreatW.PrintLast Go.Proofs.YtmdpgjdepflbmaaGreatW.PrintMore
open Go.Proofs.YtmdpgjdepflbmaaGreat.PPagerFolds
set_option linter.unusedVariables false
set_option linter.unusedSimpArgs false

section
variable {α : Type} {enc : α → Value} {h1 : ∀ x, (enc x).oneCell' = true}
theorem app_grow {w W : World} (G : w.grownBy W none) (t e : TypeId) (z : Value) (bytes : Nat) (ht : Tryz.prog.underlying t = some (.slice e)) (hinfo : (Tryz.prog.info? e).map (fun i => (i.zero, i.size, i.bytes)) = some (some z, 1, bytes)) (hz : z.cells.size = 1) (hb0 : 0 < bytes)
    (v : Value) (xs ys : List α) (A : Option Addr) (m c : Nat) (HO : (Kd.scalar enc h1).R e W 0 (fun k => w.heap.size ≤ k) v xs) (HR : (Kd.scalar enc h1).C W A m ys) (hl : (xs.length + m) * bytes ≤ 140737488355328) :
    ∃ A1 n1 c1 w1, (Builtin.append_ #[t, t] t #[v, .slice A m c]).run Tryz.prog W = .ok (.slice A1 n1 c1) w1 ∧ (Kd.scalar enc h1).R e w1 0 (fun k => w.heap.size ≤ k) (.slice A1 n1 c1) (xs ++ ys) ∧ w.grownBy w1 none ∧ W.grownBy w1 v.ownBlock := by
  obtain ⟨v1, w1, a1, R1, g1⟩ := app_run W 0 t t e z bytes ht hinfo hz hb0 v xs ys A m c _ HO HR (fun k hk => Nat.le_trans G.size hk) (Nat.zero_le _) hl
  obtain ⟨A1, c1, rfl, _, _⟩ := R_rowk R1
  exact ⟨_, _, _, _, a1, R1, ⟨g1.os.trans G.os, g1.tape.trans G.tape, g1.output.trans G.output, Nat.le_trans G.size g1.size, fun k hk _ => (g1.block k (Nat.lt_of_lt_of_le hk G.size) (fun e => by have := HO.1 k e.symm; omega)).trans (G.block k hk (by simp))⟩, g1⟩
end
theorem grown_drew {w W : World} (G : w.grownBy W none) : w.grownBy W.drew none := ⟨G.os, G.tape, G.output, G.size, G.block⟩
theorem grown_al {w W : World} (G : w.grownBy W none) (o : Obj) : w.grownBy (W.alloc o) none := grown_tr G (fun k e => by simp at e) (World.grownBy_alloc W o none)
theorem one_T (w : World) (x : Nat × Nat) : KT.C (w.alloc (.cells #[.slice (some ⟨x.1, 0, none⟩) 512 x.2] 48)) (some ⟨w.heap.size, 0, none⟩) 1 [x] := by
  have h : KT.R 48 (w.alloc (.cells #[.slice (some ⟨x.1, 0, none⟩) 512 x.2] 48)) 0 (fun _ => True) (.slice (some ⟨w.heap.size, 0, none⟩) 1 1) [x] :=
    ⟨fun _ _ => trivial, [.slice (some ⟨x.1, 0, none⟩) 512 x.2], ⟨rfl, .inr ⟨w.heap.size, 1, #[.slice (some ⟨x.1, 0, none⟩) 512 x.2], rfl, Nat.zero_le _, heap_alloc_new w _, Nat.le_refl _, by decide, rfl, rfl⟩⟩, Reps.one rfl (Reps.none _ _)⟩
  exact (C_of_rowk h).1

theorem made512R (W : World) : U8.R 5 (W.alloc (.cells (madeCells #[.int .u8 0] 512) 5)) 0 (fun k => k = W.heap.size) (.slice (some ⟨W.heap.size, 0, none⟩) 512 512) zeros := by
  have h := own_made W 0 5 .u8 512 (Nat.zero_le _) (by decide)
  exact Kd.R_of_own (by rw [show zeros.length = 512 from List.length_replicate]; exact h) (fun k hk => by simp [Value.ownBlock] at hk; exact hk.symm)
/-- what add's walk meets -/
structure AddF (w : World) (mb n k : Nat) (x : Int) (A B : Option Addr) (c d : Nat) (L : List Int) (T : List (Nat × Nat)) (R : List Int)
    (A' B' : Option Addr) (m' c' k' d' : Nat) (A1 A2 A3 B1 B2 B3 : Option Addr) (n1 n2 n3 m1 m2 m3 c1 c2 c3 d1 d2 d3 : Nat) (w1 w2 w3 w4 w5 w6 : World) : Prop where
  r1 : ∀ W : World, (Instr.slice 60 (.slice A n c) none (some (.int .i64 k)) none).run Tryz.prog W = .ok (.slice A k c) W
  r2 : ∀ W : World, (Instr.slice 60 (.slice A n c) (some (.int .i64 k)) none none).run Tryz.prog W = .ok (.slice A' m' c') W
  s1 : ∀ W : World, (Instr.slice 32 (.slice B n d) none (some (.int .i64 k)) none).run Tryz.prog W = .ok (.slice B k d) W
  s2 : ∀ W : World, (Instr.slice 32 (.slice B n d) (some (.int .i64 k)) none none).run Tryz.prog W = .ok (.slice B' k' d') W
  a1 : (Builtin.append_ #[60, 60] 60 #[.slice (some ⟨w.heap.size, 0, none⟩) 0 0, .slice A k c]).run Tryz.prog (w.alloc (.cells #[] 3)) = .ok (.slice A1 n1 c1) w1
  a2 : (Builtin.append_ #[60, 60] 60 #[.slice A1 n1 c1, .slice (some ⟨w1.heap.size, 0, none⟩) 1 1]).run Tryz.prog (w1.drew.alloc (.cells #[.int .i64 x] 3)) = .ok (.slice A2 n2 c2) w2
  a3 : (Builtin.append_ #[60, 60] 60 #[.slice A2 n2 c2, .slice A' m' c']).run Tryz.prog w2 = .ok (.slice A3 n3 c3) w3
  b1 : (Builtin.append_ #[32, 32] 32 #[.slice (some ⟨w3.heap.size, 0, none⟩) 0 0, .slice B k d]).run Tryz.prog ((w3.setCell ⟨mb, 0, none⟩ (.slice A3 n3 c3)).alloc (.cells #[] 48)) = .ok (.slice B1 m1 d1) w4
  b2 : (Builtin.append_ #[32, 32] 32 #[.slice B1 m1 d1, .slice (some ⟨w4.heap.size + 1, 0, none⟩) 1 1]).run Tryz.prog ((w4.drew.alloc (.cells (madeCells #[.int .u8 0] 512) 5)).alloc (.cells #[.slice (some ⟨w4.heap.size, 0, none⟩) 512 512] 48)) = .ok (.slice B2 m2 d2) w5
  b3 : (Builtin.append_ #[32, 32] 32 #[.slice B2 m2 d2, .slice B' k' d']).run Tryz.prog w5 = .ok (.slice B3 m3 d3) w6
  x0 : (w.alloc (.cells #[] 3)).cell? ⟨mb, 0, none⟩ = some (.slice A n c)
  x1 : w1.drew.cell? ⟨mb, 0, none⟩ = some (.slice A n c)
  x2 : (w1.drew.alloc (.cells #[.int .i64 x] 3)).cell? ⟨mb, 0, none⟩ = some (.slice A n c)
  x3 : w2.cell? ⟨mb, 0, none⟩ = some (.slice A n c)
  x4 : w3.cell? ⟨mb, 0, none⟩ = some (.slice A n c)
  x5 : w3.frozen? ⟨mb, 0, none⟩ = false
  y0 : ((w3.setCell ⟨mb, 0, none⟩ (.slice A3 n3 c3)).alloc (.cells #[] 48)).cell? ⟨mb, 1, none⟩ = some (.slice B n d)
  y1 : w4.drew.cell? ⟨mb, 1, none⟩ = some (.slice B n d)
  y2 : (w4.drew.alloc (.cells (madeCells #[.int .u8 0] 512) 5)).cell? ⟨mb, 1, none⟩ = some (.slice B n d)
  y3 : ((w4.drew.alloc (.cells (madeCells #[.int .u8 0] 512) 5)).alloc (.cells #[.slice (some ⟨w4.heap.size, 0, none⟩) 512 512] 48)).cell? ⟨mb, 1, none⟩ = some (.slice B n d)
  y4 : w5.cell? ⟨mb, 1, none⟩ = some (.slice B n d)
  y5 : w6.cell? ⟨mb, 1, none⟩ = some (.slice B n d)
  y6 : w6.frozen? ⟨mb, 1, none⟩ = false
  fin : MdAt (w6.setCell ⟨mb, 1, none⟩ (.slice B3 m3 d3)) (fun k => w.heap.size ≤ k) mb (.slice A3 n3 c3) (.slice B3 m3 d3) (L.take k ++ [x] ++ L.drop k) (T.take k ++ [(w4.heap.size, 512)] ++ T.drop k) R
  grown : w.grownBy (w6.setCell ⟨mb, 1, none⟩ (.slice B3 m3 d3)) (some mb)
  zeros : U8.R 5 (w6.setCell ⟨mb, 1, none⟩ (.slice B3 m3 d3)) 0 (fun k => k = w4.heap.size) (.slice (some ⟨w4.heap.size, 0, none⟩) 512 512) zeros
  big : w.heap.size ≤ w4.heap.size
  lt : w4.heap.size < (w6.setCell ⟨mb, 1, none⟩ (.slice B3 m3 d3)).heap.size

theorem add_facts {w : World} {P : Nat → Prop} {mb n c d : Nat} {A B : Option Addr} {L : List Int} {T : List (Nat × Nat)} {R : List Int} (h : MdAt w P mb (.slice A n c) (.slice B n d) L T R) (x : Int) (k : Nat) (hk : k ≤ n) (hl : n ≤ 1000000) :
    ∃ A' B' m' c' k' d' A1 A2 A3 B1 B2 B3 n1 n2 n3 m1 m2 m3 c1 c2 c3 d1 d2 d3 w1 w2 w3 w4 w5 w6, AddF w mb n k x A B c d L T R A' B' m' c' k' d' A1 A2 A3 B1 B2 B3 n1 n2 n3 m1 m2 m3 c1 c2 c3 d1 d2 d3 w1 w2 w3 w4 w5 w6 := by
  have c0 := h.c0
  have c1' := h.c1
  obtain ⟨hC, hc, hn⟩ := C_of_rowk h.held
  obtain ⟨hD, hd, hn'⟩ := C_of_rowk h.text
  have hb0 := h.blk
  have hmb := heap_lt hb0
  obtain ⟨r1, C1⟩ := cut_T 60 3 _ 8 Tryz.underlying60 PPagesModel.info3 hC hc (k := k) hk (k : Int) rfl
  obtain ⟨A', m', c', r2, C2, hm', em⟩ := cut_B 60 3 _ 8 Tryz.underlying60 PPagesModel.info3 hC hc (k := k) hk (k : Int) rfl
  obtain ⟨s1, D1⟩ := cut_T 32 48 _ 24 Tryz.underlying32 info35t hD hd (k := k) hk (k : Int) rfl
  obtain ⟨B', k', d', s2, D2, hk', ek⟩ := cut_B 32 48 _ 24 Tryz.underlying32 info35t hD hd (k := k) hk (k : Int) rfl
  have lk : (L.take k).length = k := by simp; omega
  have lk' : (T.take k).length = k := by simp; omega
  have g0 : w.grownBy (w.alloc (.cells #[] 3)) none := World.grownBy_alloc w _ none
  have e0 : I64.R 3 (w.alloc (.cells #[] 3)) 0 (fun k => w.heap.size ≤ k) (.slice (some ⟨w.heap.size, 0, none⟩) 0 0) [] := R_emptyk 3 w 0 _ (Nat.zero_le _) (Nat.le_refl _)
  obtain ⟨A1, n1, c1, w1, a1, R1, G1, _⟩ := app_grow g0 60 3 _ 8 Tryz.underlying60 PPagesModel.info3 rfl (by decide) _ [] (L.take k) A k c e0 (C_grown C1 g0) (by simp; omega)
  have G1d := grown_al (grown_drew G1) (.cells #[.int .i64 x] 3)
  have R1d : I64.R 3 (w1.drew.alloc (.cells #[.int .i64 x] 3)) 0 (fun k => w.heap.size ≤ k) (.slice A1 n1 c1) ([] ++ L.take k) := Kd.R_step R1 (fun j _ hj => (Below.heap_alloc w1.drew _ j hj))
  obtain ⟨A2, n2, c2, w2, a2, R2, G2, _⟩ := app_grow G1d 60 3 _ 8 Tryz.underlying60 PPagesModel.info3 rfl (by decide) (.slice A1 n1 c1) ([] ++ L.take k) [x] (some ⟨w1.heap.size, 0, none⟩) 1 1 R1d (one_C w1.drew x) (by rw [List.nil_append, lk]; omega)
  obtain ⟨A3, n3, c3, w3, a3, R3, G3, _⟩ := app_grow G2 60 3 _ 8 Tryz.underlying60 PPagesModel.info3 rfl (by decide) (.slice A2 n2 c2) ([] ++ L.take k ++ [x]) (L.drop k) A' m' c' R2 (C_grown C2 G2) (by rw [List.nil_append, List.length_append, lk]; simp; omega)
  have b3 := (G3.block mb hmb (by simp)).trans hb0
  obtain ⟨b3', g3⟩ := md_set b3 0 (.slice A3 n3 c3)
  have T3 := Kd.R_set (Kd.R_step h.text (fun k _ hk => G3.block k hk (by simp))) b3 ne_t 0 (.slice A3 n3 c3)
  have R3' := Kd.R_set R3 b3 ne_i 0 (.slice A3 n3 c3)
  obtain ⟨v3, hv3⟩ : ∃ v3, v3 = w3.setCell ⟨mb, 0, none⟩ (.slice A3 n3 c3) := ⟨_, rfl⟩
  rw [← hv3] at b3' g3 T3 R3'
  have hs3 : v3.heap.size = w3.heap.size := by rw [hv3]; simp [World.setCell]
  obtain ⟨D3, _, _⟩ := C_of_rowk T3
  obtain ⟨_, D1'⟩ := cut_T 32 48 _ 24 Tryz.underlying32 info35t D3 hd (k := k) hk (k : Int) rfl
  have D2' : KT.C v3 B' k' (T.drop k) := by
    obtain ⟨B4, k4, d4, s4, D4, _, _⟩ := cut_B 32 48 _ 24 Tryz.underlying32 info35t D3 hd (k := k) hk (k : Int) rfl
    have := (s4 w).symm.trans (s2 w)
    injection this with this
    injection this with e1 e2 e3
    subst e1; subst e2
    exact D4
  have f0 : v3.grownBy (v3.alloc (.cells #[] 48)) none := World.grownBy_alloc v3 _ none
  have t0 : KT.R 48 (v3.alloc (.cells #[] 48)) 0 (fun k => v3.heap.size ≤ k) (.slice (some ⟨v3.heap.size, 0, none⟩) 0 0) [] := R_emptyk 48 v3 0 _ (Nat.zero_le _) (Nat.le_refl _)
  obtain ⟨B1, m1, d1, w4, e1, Q1, F1, _⟩ := app_grow f0 32 48 _ 24 Tryz.underlying32 info35t rfl (by decide) _ [] (T.take k) B k d t0 (C_grown D1' f0) (by simp; omega)
  have F1d := grown_al (grown_al (grown_drew F1) (.cells (madeCells #[.int .u8 0] 512) 5)) (.cells #[.slice (some ⟨w4.heap.size, 0, none⟩) 512 512] 48)
  have Q1d : KT.R 48 ((w4.drew.alloc (.cells (madeCells #[.int .u8 0] 512) 5)).alloc (.cells #[.slice (some ⟨w4.heap.size, 0, none⟩) 512 512] 48)) 0 (fun k => v3.heap.size ≤ k) (.slice B1 m1 d1) ([] ++ T.take k) :=
    Kd.R_step Q1 (fun j _ hj => (Below.heap_alloc _ _ j (by simp; omega)).trans (Below.heap_alloc w4.drew _ j hj))
  have hone := one_T (w4.drew.alloc (.cells (madeCells #[.int .u8 0] 512) 5)) (w4.heap.size, 512)
  rw [show (w4.drew.alloc (.cells (madeCells #[.int .u8 0] 512) 5)).heap.size = w4.heap.size + 1 from by simp] at hone
  obtain ⟨B2, m2, d2, w5, e2, Q2, F2, h2⟩ := app_grow F1d 32 48 _ 24 Tryz.underlying32 info35t rfl (by decide) (.slice B1 m1 d1) ([] ++ T.take k) [(w4.heap.size, 512)] (some ⟨w4.heap.size + 1, 0, none⟩) 1 1 Q1d hone (by rw [List.nil_append, lk']; omega)
  obtain ⟨B3, m3, d3, w6, e3, Q3, F3, h3⟩ := app_grow F2 32 48 _ 24 Tryz.underlying32 info35t rfl (by decide) (.slice B2 m2 d2) ([] ++ T.take k ++ [(w4.heap.size, 512)]) (T.drop k) B' k' d' Q2 (C_grown D2' F2) (by rw [List.nil_append, List.length_append, lk']; simp; omega)
  have b6 := (F3.block mb (heap_lt b3') (by simp)).trans b3'
  obtain ⟨b6', g6⟩ := md_set b6 1 (.slice B3 m3 d3)
  have R6 := Kd.R_set (Kd.R_step R3' (fun k _ hk => F3.block k hk (by simp))) b6 ne_i 1 (.slice B3 m3 d3)
  have T6 := Kd.R_set Q3 b6 ne_t 1 (.slice B3 m3 d3)
  have G3' := grown_tr G3 (fun k hk => by simp at hk) g3
  refine ⟨A', B', m', c', k', d', A1, A2, A3, B1, B2, B3, n1, n2, n3, m1, m2, m3, c1, c2, c3, d1, d2, d3, w1, w2, w3, w4, w5, w6, ?_⟩
  have y0 : v3.cell? ⟨mb, 1, none⟩ = some (.slice B n d) := cell_of_row v3 mb 1 _ _ (0, 0) b3'
  rw [hs3] at e1
  refine ⟨r1, r2, s1, s2, a1, a2, a3, by rw [← hv3]; exact e1, e2, e3, g0.cell c0 (by simp), G1.cell c0 (by simp), G1d.cell c0 (by simp), G2.cell c0 (by simp), G3.cell c0 (by simp), frozen_of_cells b3 0, by rw [← hv3]; exact f0.cell y0 (by simp), F1.cell y0 (by simp), (grown_al (grown_drew F1) _).cell y0 (by simp), F1d.cell y0 (by simp), F2.cell y0 (by simp), F3.cell y0 (by simp), frozen_of_cells b6 1, ⟨b6', h.rl, R6, ?_, ?_⟩, ?_, ?_, ?_, ?_⟩
  · exact Kd.R_mono T6 (fun k hk => Nat.le_trans (by rw [hs3]; exact G3.size) hk)
  · simp; omega
  · exact grown_tr G3' (fun k hk => .inr hk) (grown_tr F3 (fun k hk => by simp at hk) g6)
  · -- the noughts
    have z1 := made512R w4.drew
    have z2 := Kd.R_step (w1 := (w4.drew.alloc (.cells (madeCells #[.int .u8 0] 512) 5)).alloc (.cells #[.slice (some ⟨w4.heap.size, 0, none⟩) 512 512] 48)) z1 (fun j _ hj => Below.heap_alloc _ _ j hj)
    have z3 : U8.R 5 w5 0 _ _ _ := Kd.R_step z2 (fun j ej hj => h2.block j hj (fun e => by
      have := own_lt (Kd.own_of_R Q1) j e.symm
      subst ej
      exact absurd this (Nat.lt_irrefl _)))
    have z4 : U8.R 5 w6 0 _ _ _ := Kd.R_step z3 (fun j ej hj => h3.block j hj (fun e => by
      obtain ⟨cs, h⟩ := own_typed (Kd.own_of_R Q2) j e.symm
      obtain ⟨cs', h'⟩ := own_typed (Kd.own_of_R z3) j (by subst ej; rfl)
      rw [h] at h'
      injection h' with h'
      injection h' with _ h'
      exact absurd h' (by decide)))
    have z5 : U8.R 5 (w6.setCell ⟨mb, 1, none⟩ (.slice B3 m3 d3)) 0 _ _ _ := Kd.R_step z4 (fun j ej hj => g6.block j hj (fun e => by
      injection e with e
      have e4 : j = w4.heap.size := ej
      have := F1.size
      have := G3.size
      omega))
    exact z5
  · have := F1.size
    have := G3.size
    omega
  · have := F2.size
    have := F3.size
    have e : (w6.setCell ⟨mb, 1, none⟩ (.slice B3 m3 d3)).heap.size = w6.heap.size := by simp [World.setCell]
    rw [e]
    have h6 := h3.size
    have h5 := h2.size
    simp at h5
    omega

/-- add, from the place on -/
theorem app_exec {o : Oper} {ev : Operand → Value} {W : World} (s x : Operand) (t : TypeId) (ho : o.op = .call { callee := .builtin .append, args := #[s, x], argTypes := #[t, t] })
    (v y : Value) (hs : ev s = v) (hx : ev x = y) {v1 : Value} {w1 : World} (hrun : (Builtin.append_ #[t, t] o.type #[v, y]).run Tryz.prog W = .ok v1 w1) : (execOp ev o).run Tryz.prog W = .ok (.value v1) w1 := by
  unfold execOp
  simp only [ho, resolve, invoke, builtin, Sem.run_bind, Sem.run_pure, Result.andThen_ok, List.map_toArray, List.map_cons, List.map_nil, hs, hx, hrun]

set_option maxHeartbeats 1000000 in
set_option maxRecDepth 100000 in
theorem add_any {w : World} {P : Nat → Prop} {mb : Nat} {hv tv : Value} {L : List Int} {T : List (Nat × Nat)} {R : List Int} (h : MdAt w P mb hv tv L T R) (x : Int) (hl : L.length ≤ 1000000) :
    Calls Tryz.prog 78 #[dp mb, .int .i64 x] w fun e w' => e = .returned (.tuple #[]) ∧ ∃ hv' tv' k z, k ≤ L.length ∧ (∀ y ∈ L.take k, y < x) ∧ (∀ y, L[k]? = some y → x ≤ y) ∧ MdAt w' (fun k => w.heap.size ≤ k) mb hv' tv' (L.take k ++ [x] ++ L.drop k) (T.take k ++ [(z, 512)] ++ T.drop k) R ∧ w.grownBy w' (some mb) ∧ U8.R 5 w' 0 (fun k => k = z) (.slice (some ⟨z, 0, none⟩) 512 512) zeros ∧ w.heap.size ≤ z ∧ z < w'.heap.size := by
  have c0 := h.c0
  have c1' := h.c1
  obtain ⟨A, c, rfl, hC, hc⟩ := R_rowk h.held
  obtain ⟨B, d, rfl, hD, hd⟩ := R_rowk h.text
  have htl := h.tl
  rw [htl] at c1' h hd
  obtain ⟨n, hn⟩ : ∃ n, n = L.length := ⟨_, rfl⟩
  rw [← hn] at c0 c1' hc hd hl htl h hC ⊢
  have HM := Aside0.mk h
  have HC := Aside0.mk hC
  have HL := Aside0.mk hn
  clear hC hD htl h hn
  go_enter Tryz.func78, Tryz.ntmps78
  go_wp2
  go_loop [4] (fun i => ∃ k : Nat, i = .int .i64 k ∧ k ≤ n ∧ Aside0 (∀ y ∈ L.take k, y < x)) (fun i => n - (intOf i).toNat)
  case atStart => exact ⟨0, rfl, by omega, ⟨by simp⟩⟩
  case round =>
    obtain ⟨k, rfl, hk, HI⟩ := hrel
    by_cases h1 : k < n
    · obtain ⟨ad, rfl, hcx⟩ := Kd.at_int HC.out (k : Int) (by omega) (by omega)
      rw [Int.toNat_natCast] at hcx
      have hkl : k < L.length := by rw [← HL.out]; exact h1
      have hrd : rd L (k : Int) = L[k]'hkl := by simp [rd, List.getD_eq_getElem?_getD, hkl]
      have hts : L.take (k + 1) = L.take k ++ [rd L (k : Int)] := by rw [hrd]; exact List.take_succ_eq_append_getElem hkl
      have hat : L[k]? = some (rd L (k : Int)) := by rw [hrd]; exact List.getElem?_eq_getElem hkl
      have HT := Aside0.mk (And.intro hts hat)
      clear hrd hts hat hkl
      generalize rd L (k : Int) = y at *
      by_cases h2 : y < x
      · have HN : Aside0 (∀ y ∈ L.take (k + 1), y < x) := ⟨by
          rw [HT.out.1]
          intro y' hy'
          rcases List.mem_append.1 hy' with h | h
          · exact HI.out y' h
          · rw [List.mem_singleton.1 h]; exact h2⟩
        go_wp2
        go_round
        case rel => exact ⟨k + 1, by go_num, by omega, HN⟩
        case measure => simp [intOf]; omega
      · have HN : Aside0 (∀ y, L[k]? = some y → x ≤ y) := ⟨fun y' hy' => by rw [HT.out.2] at hy'; injection hy' with hy'; omega⟩
        obtain ⟨A', B', m', c', k', d', A1, A2, A3, B1, B2, B3, n1, n2, n3, m1, m2, m3, c1, c2, c3, d1, d2, d3, w1, w2, w3, w4, w5, w6, hF⟩ := add_facts HM.out x k hk hl
        have q0 : decide (y < x) = false := by simp; omega
        clear h2 HT
        have r1 := hF.r1
        have r2 := hF.r2
        have s1 := hF.s1
        have s2 := hF.s2
        have a1 := hF.a1
        have a2 := hF.a2
        have a3 := hF.a3
        have b1 := hF.b1
        have b2 := hF.b2
        have b3 := hF.b3
        have x0 := hF.x0
        have x1 := hF.x1
        have x2 := hF.x2
        have x3 := hF.x3
        have x4 := hF.x4
        have x5 := hF.x5
        have y0 := hF.y0
        have y1 := hF.y1
        have y2 := hF.y2
        have y3 := hF.y3
        have y4 := hF.y4
        have y5 := hF.y5
        have y6 := hF.y6
        have hmk := make512
        have HF := Aside0.mk hF
        have z0 : (0 : Int) ≤ k := by omega
        have z1 : (k : Int) ≤ n := by omega
        have z2 : (n : Int) ≤ c := by omega
        have z3 : (n : Int) ≤ d := by omega
        clear hF HC HM
        go_wp2_with ((with_reducible refine gate_builtin (b := .append) (xs := #[.tmp 27, .tmp 33]) rfl ?_); at_builtin; refine app_list rfl (.tmp 27) (.tmp 33) 60 rfl _ _ rfl rfl a1 ?_)
        refine start_ (n := 15) (S := fun w' => w'.cell? ⟨mb, 0, none⟩ = some (.slice (some ad) n c)) (ds := [14]) #[false, false, false, false, false, false, false, false, false, false, false, false, false, false, false] (by kernel_rfl) rfl rfl x1 (fun hHeld => ?_)
        refine pure_ (i := 0) (N := some 35) (v := ?_) (a' := ?_) #[true, false, false, false, false, false, false, false, false, false, false, false, false, false, false] rfl rfl (by kernel_rfl) (fun _ _ _ h => h) (Or.inl ⟨by rfl, ?_⟩) ?_ ?_
        rotate_left
        · intro w'
          go_simp
          with_reducible rfl
        rotate_left
        · simp only [Act.put, List.setIfInBounds_toArray, List.set_cons_zero, List.set_cons_succ, i64_w, i32_w]
          rfl
        refine pure_ (i := 1) (N := some 36) (v := ?_) (a' := ?_) #[true, true, false, false, false, false, false, false, false, false, false, false, false, false, false] rfl rfl (by kernel_rfl) (fun _ _ _ h => h) (Or.inl ⟨by rfl, ?_⟩) ?_ ?_
        rotate_left
        · intro w'
          go_simp
          with_reducible rfl
        rotate_left
        · simp only [Act.put, List.setIfInBounds_toArray, List.set_cons_zero, List.set_cons_succ, i64_w, i32_w]
          rfl
        refine pure_ (i := 2) (N := some 37) (v := ?_) (a' := ?_) #[true, true, true, false, false, false, false, false, false, false, false, false, false, false, false] rfl rfl (by kernel_rfl) (fun _ _ _ h => h) (Or.inl ⟨by rfl, ?_⟩) ?_ ?_
        rotate_left
        · intro w'
          go_simp
          with_reducible rfl
        rotate_left
        · simp only [Act.put, List.setIfInBounds_toArray, List.set_cons_zero, List.set_cons_succ, i64_w, i32_w]
          rfl
        refine pure_ (i := 5) (N := some 40) (v := ?_) (a' := ?_) #[true, true, true, false, false, true, false, false, false, false, false, false, false, false, false] rfl rfl (by kernel_rfl) (fun _ _ _ h => h) (Or.inl ⟨by rfl, ?_⟩) ?_ ?_
        rotate_left
        · intro w'
          go_simp
          with_reducible rfl
        rotate_left
        · simp only [Act.put, List.setIfInBounds_toArray, List.set_cons_zero, List.set_cons_succ, i64_w, i32_w]
          rfl
        refine pure_ (i := 6) (N := some 41) (v := ?_) (a' := ?_) #[true, true, true, false, false, true, true, false, false, false, false, false, false, false, false] rfl rfl (by kernel_rfl) (fun _ _ _ h => h) (Or.inl ⟨by rfl, ?_⟩) ?_ ?_
        rotate_left
        · intro w'
          go_simp
          with_reducible rfl
        rotate_left
        · simp only [Act.put, List.setIfInBounds_toArray, List.set_cons_zero, List.set_cons_succ, i64_w, i32_w]
          rfl
        refine pure_ (i := 7) (N := some 42) (v := ?_) (a' := ?_) #[true, true, true, false, false, true, true, true, false, false, false, false, false, false, false] rfl rfl (by kernel_rfl) (fun _ _ _ h => h) (Or.inl ⟨by rfl, ?_⟩) ?_ ?_
        rotate_left
        · intro w'
          go_simp
          with_reducible rfl
        rotate_left
        · simp only [Act.put, List.setIfInBounds_toArray, List.set_cons_zero, List.set_cons_succ, i64_w, i32_w]
          rfl
        refine take_ (i := 8) (N := some 43) (v := ?_) (a' := ?_) #[true, true, true, false, false, true, true, true, true, false, false, false, false, false, false] rfl rfl (by kernel_rfl) (fun _ _ _ h => h) (Or.inl ⟨by rfl, ?_⟩) hHeld ?_ ?_
        rotate_left
        · rintro w' s0
          go_simp
          with_reducible rfl
        rotate_left
        · simp only [Act.put, List.setIfInBounds_toArray, List.set_cons_zero, List.set_cons_succ, i64_w, i32_w]
          rfl
        refine pure_ (i := 9) (N := some 44) (v := ?_) (a' := ?_) #[true, true, true, false, false, true, true, true, true, true, false, false, false, false, false] rfl rfl (by kernel_rfl) (fun _ _ _ h => h) (Or.inl ⟨by rfl, ?_⟩) ?_ ?_
        rotate_left
        · intro w'
          go_simp
          with_reducible rfl
        rotate_left
        · simp only [Act.put, List.setIfInBounds_toArray, List.set_cons_zero, List.set_cons_succ, i64_w, i32_w]
          rfl
        refine pure_ (i := 10) (N := some 45) (v := ?_) (a' := ?_) #[true, true, true, false, false, true, true, true, true, true, true, false, false, false, false] rfl rfl (by kernel_rfl) (fun _ _ _ h => h) (Or.inl ⟨by rfl, ?_⟩) ?_ ?_
        rotate_left
        · intro w'
          go_simp
          with_reducible rfl
        rotate_left
        · simp only [Act.put, List.setIfInBounds_toArray, List.set_cons_zero, List.set_cons_succ, i64_w, i32_w]
          rfl
        refine one_ (i := 3) (N := some 38) #[true, true, true, true, false, true, true, true, true, true, true, false, false, false, false] rfl rfl (by kernel_rfl) (by decide) (fun K hK => ?_)
        refine value_ (v := .slice (some ⟨w1.heap.size, 0, none⟩) 1 1) (w1 := w1.drew.alloc (.cells #[.int .i64 x] 3)) (by rfl) rfl ?_ ?_
        · go_simp
        refine hK.out _ _ x2 (fun hHeld => ?_)
        clear hK K
        refine norm_ (a' := ?_) ?_ ?_
        rotate_left
        · show Act.put _ (some 38) _ = _
          simp only [Act.put, List.setIfInBounds_toArray, List.set_cons_zero, List.set_cons_succ, i64_w, i32_w]
          rfl
        refine one_ (i := 4) (N := some 39) #[true, true, true, true, true, true, true, true, true, true, true, false, false, false, false] rfl rfl (by kernel_rfl) (by decide) (fun K hK => ?_)
        refine value_ (v := .slice A2 n2 c2) (w1 := w2) (by rfl) rfl ?_ ?_
        · exact app_exec (.tmp 36) (.tmp 38) 60 rfl _ _ rfl rfl a2
        refine hK.out _ _ x3 (fun hHeld => ?_)
        clear hK K
        refine norm_ (a' := ?_) ?_ ?_
        rotate_left
        · show Act.put _ (some 39) _ = _
          simp only [Act.put, List.setIfInBounds_toArray, List.set_cons_zero, List.set_cons_succ, i64_w, i32_w]
          rfl
        refine one_ (i := 11) (N := some 46) #[true, true, true, true, true, true, true, true, true, true, true, true, false, false, false] rfl rfl (by kernel_rfl) (by decide) (fun K hK => ?_)
        refine value_ (v := .slice A3 n3 c3) (w1 := w3) (by rfl) rfl ?_ ?_
        · exact app_exec (.tmp 39) (.tmp 45) 60 rfl _ _ rfl rfl a3
        refine hK.out _ _ x4 (fun hHeld => ?_)
        clear hK K
        refine norm_ (a' := ?_) ?_ ?_
        rotate_left
        · show Act.put _ (some 46) _ = _
          simp only [Act.put, List.setIfInBounds_toArray, List.set_cons_zero, List.set_cons_succ, i64_w, i32_w]
          rfl
        refine pure_ (i := 12) (N := some 47) (v := ?_) (a' := ?_) #[true, true, true, true, true, true, true, true, true, true, true, true, true, false, false] rfl rfl (by kernel_rfl) (fun _ _ _ h => h) (Or.inl ⟨by rfl, ?_⟩) ?_ ?_
        rotate_left
        · intro w'
          go_simp
          with_reducible rfl
        rotate_left
        · simp only [Act.put, List.setIfInBounds_toArray, List.set_cons_zero, List.set_cons_succ, i64_w, i32_w]
          rfl
        refine pure_ (i := 13) (N := some 48) (v := ?_) (a' := ?_) #[true, true, true, true, true, true, true, true, true, true, true, true, true, true, false] rfl rfl (by kernel_rfl) (fun _ _ _ h => h) (Or.inl ⟨by rfl, ?_⟩) ?_ ?_
        rotate_left
        · intro w'
          go_simp
          with_reducible rfl
        rotate_left
        · simp only [Act.put, List.setIfInBounds_toArray, List.set_cons_zero, List.set_cons_succ, i64_w, i32_w]
          rfl
        refine last_ (i := 14) (N := none) #[true, true, true, true, true, true, true, true, true, true, true, true, true, true, true] rfl rfl (by kernel_rfl) (by decide) (fun K hK => ?_)
        refine skip_ (w1 := ?_) (by rfl) rfl ?_ ?_
        rotate_left
        · go_simp
          rfl
        refine hK.out _ _ ?_
        clear hK K
        refine done_ (by kernel_rfl) ?_
        go_wp2_with ((with_reducible refine gate_builtin (b := .append) (xs := #[.tmp 49, .tmp 55]) rfl ?_); at_builtin; refine app_list rfl (.tmp 49) (.tmp 55) 32 rfl _ _ rfl rfl b1 ?_)
        refine start_ (n := 15) (S := fun w' => w'.cell? ⟨mb, 1, none⟩ = some (.slice B n d)) (ds := [14]) #[false, false, false, false, false, false, false, false, false, false, false, false, false, false, false] (by kernel_rfl) rfl rfl y1 (fun hHeld => ?_)
        refine pure_ (i := 0) (N := some 57) (v := ?_) (a' := ?_) #[true, false, false, false, false, false, false, false, false, false, false, false, false, false, false] rfl rfl (by kernel_rfl) (fun _ _ _ h => h) (Or.inl ⟨by rfl, ?_⟩) ?_ ?_
        rotate_left
        · intro w'
          go_simp
          with_reducible rfl
        rotate_left
        · simp only [Act.put, List.setIfInBounds_toArray, List.set_cons_zero, List.set_cons_succ, i64_w, i32_w]
          rfl
        refine pure_ (i := 1) (N := some 58) (v := ?_) (a' := ?_) #[true, true, false, false, false, false, false, false, false, false, false, false, false, false, false] rfl rfl (by kernel_rfl) (fun _ _ _ h => h) (Or.inl ⟨by rfl, ?_⟩) ?_ ?_
        rotate_left
        · intro w'
          go_simp
          with_reducible rfl
        rotate_left
        · simp only [Act.put, List.setIfInBounds_toArray, List.set_cons_zero, List.set_cons_succ, i64_w, i32_w]
          rfl
        refine pure_ (i := 5) (N := some 62) (v := ?_) (a' := ?_) #[true, true, false, false, false, true, false, false, false, false, false, false, false, false, false] rfl rfl (by kernel_rfl) (fun _ _ _ h => h) (Or.inl ⟨by rfl, ?_⟩) ?_ ?_
        rotate_left
        · intro w'
          go_simp
          with_reducible rfl
        rotate_left
        · simp only [Act.put, List.setIfInBounds_toArray, List.set_cons_zero, List.set_cons_succ, i64_w, i32_w]
          rfl
        refine pure_ (i := 6) (N := some 63) (v := ?_) (a' := ?_) #[true, true, false, false, false, true, true, false, false, false, false, false, false, false, false] rfl rfl (by kernel_rfl) (fun _ _ _ h => h) (Or.inl ⟨by rfl, ?_⟩) ?_ ?_
        rotate_left
        · intro w'
          go_simp
          with_reducible rfl
        rotate_left
        · simp only [Act.put, List.setIfInBounds_toArray, List.set_cons_zero, List.set_cons_succ, i64_w, i32_w]
          rfl
        refine pure_ (i := 7) (N := some 64) (v := ?_) (a' := ?_) #[true, true, false, false, false, true, true, true, false, false, false, false, false, false, false] rfl rfl (by kernel_rfl) (fun _ _ _ h => h) (Or.inl ⟨by rfl, ?_⟩) ?_ ?_
        rotate_left
        · intro w'
          go_simp
          with_reducible rfl
        rotate_left
        · simp only [Act.put, List.setIfInBounds_toArray, List.set_cons_zero, List.set_cons_succ, i64_w, i32_w]
          rfl
        refine take_ (i := 8) (N := some 65) (v := ?_) (a' := ?_) #[true, true, false, false, false, true, true, true, true, false, false, false, false, false, false] rfl rfl (by kernel_rfl) (fun _ _ _ h => h) (Or.inl ⟨by rfl, ?_⟩) hHeld ?_ ?_
        rotate_left
        · rintro w' s0
          go_simp
          with_reducible rfl
        rotate_left
        · simp only [Act.put, List.setIfInBounds_toArray, List.set_cons_zero, List.set_cons_succ, i64_w, i32_w]
          rfl
        refine pure_ (i := 9) (N := some 66) (v := ?_) (a' := ?_) #[true, true, false, false, false, true, true, true, true, true, false, false, false, false, false] rfl rfl (by kernel_rfl) (fun _ _ _ h => h) (Or.inl ⟨by rfl, ?_⟩) ?_ ?_
        rotate_left
        · intro w'
          go_simp
          with_reducible rfl
        rotate_left
        · simp only [Act.put, List.setIfInBounds_toArray, List.set_cons_zero, List.set_cons_succ, i64_w, i32_w]
          rfl
        refine pure_ (i := 10) (N := some 67) (v := ?_) (a' := ?_) #[true, true, false, false, false, true, true, true, true, true, true, false, false, false, false] rfl rfl (by kernel_rfl) (fun _ _ _ h => h) (Or.inl ⟨by rfl, ?_⟩) ?_ ?_
        rotate_left
        · intro w'
          go_simp
          with_reducible rfl
        rotate_left
        · simp only [Act.put, List.setIfInBounds_toArray, List.set_cons_zero, List.set_cons_succ, i64_w, i32_w]
          rfl
        refine one_ (i := 2) (N := some 59) #[true, true, true, false, false, true, true, true, true, true, true, false, false, false, false] rfl rfl (by kernel_rfl) (by decide) (fun K hK => ?_)
        refine value_ (v := .slice (some ⟨w4.heap.size, 0, none⟩) 512 512) (w1 := w4.drew.alloc (.cells (madeCells #[.int .u8 0] 512) 5)) (by rfl) rfl ?_ ?_
        · go_simp
        refine hK.out _ _ y2 (fun hHeld => ?_)
        clear hK K
        refine norm_ (a' := ?_) ?_ ?_
        rotate_left
        · show Act.put _ (some 59) _ = _
          simp only [Act.put, List.setIfInBounds_toArray, List.set_cons_zero, List.set_cons_succ, i64_w, i32_w]
          rfl
        refine one_ (i := 3) (N := some 60) #[true, true, true, true, false, true, true, true, true, true, true, false, false, false, false] rfl rfl (by kernel_rfl) (by decide) (fun K hK => ?_)
        refine value_ (v := .slice (some ⟨w4.heap.size + 1, 0, none⟩) 1 1) (w1 := (w4.drew.alloc (.cells (madeCells #[.int .u8 0] 512) 5)).alloc (.cells #[.slice (some ⟨w4.heap.size, 0, none⟩) 512 512] 48)) (by rfl) rfl ?_ ?_
        · go_simp
        refine hK.out _ _ y3 (fun hHeld => ?_)
        clear hK K
        refine norm_ (a' := ?_) ?_ ?_
        rotate_left
        · show Act.put _ (some 60) _ = _
          simp only [Act.put, List.setIfInBounds_toArray, List.set_cons_zero, List.set_cons_succ, i64_w, i32_w]
          rfl
        refine one_ (i := 4) (N := some 61) #[true, true, true, true, true, true, true, true, true, true, true, false, false, false, false] rfl rfl (by kernel_rfl) (by decide) (fun K hK => ?_)
        refine value_ (v := .slice B2 m2 d2) (w1 := w5) (by rfl) rfl ?_ ?_
        · exact app_exec (.tmp 58) (.tmp 60) 32 rfl _ _ rfl rfl b2
        refine hK.out _ _ y4 (fun hHeld => ?_)
        clear hK K
        refine norm_ (a' := ?_) ?_ ?_
        rotate_left
        · show Act.put _ (some 61) _ = _
          simp only [Act.put, List.setIfInBounds_toArray, List.set_cons_zero, List.set_cons_succ, i64_w, i32_w]
          rfl
        refine one_ (i := 11) (N := some 68) #[true, true, true, true, true, true, true, true, true, true, true, true, false, false, false] rfl rfl (by kernel_rfl) (by decide) (fun K hK => ?_)
        refine value_ (v := .slice B3 m3 d3) (w1 := w6) (by rfl) rfl ?_ ?_
        · exact app_exec (.tmp 61) (.tmp 67) 32 rfl _ _ rfl rfl b3
        refine hK.out _ _ y5 (fun hHeld => ?_)
        clear hK K
        refine norm_ (a' := ?_) ?_ ?_
        rotate_left
        · show Act.put _ (some 68) _ = _
          simp only [Act.put, List.setIfInBounds_toArray, List.set_cons_zero, List.set_cons_succ, i64_w, i32_w]
          rfl
        refine pure_ (i := 12) (N := some 69) (v := ?_) (a' := ?_) #[true, true, true, true, true, true, true, true, true, true, true, true, true, false, false] rfl rfl (by kernel_rfl) (fun _ _ _ h => h) (Or.inl ⟨by rfl, ?_⟩) ?_ ?_
        rotate_left
        · intro w'
          go_simp
          with_reducible rfl
        rotate_left
        · simp only [Act.put, List.setIfInBounds_toArray, List.set_cons_zero, List.set_cons_succ, i64_w, i32_w]
          rfl
        refine pure_ (i := 13) (N := some 70) (v := ?_) (a' := ?_) #[true, true, true, true, true, true, true, true, true, true, true, true, true, true, false] rfl rfl (by kernel_rfl) (fun _ _ _ h => h) (Or.inl ⟨by rfl, ?_⟩) ?_ ?_
        rotate_left
        · intro w'
          go_simp
          with_reducible rfl
        rotate_left
        · simp only [Act.put, List.setIfInBounds_toArray, List.set_cons_zero, List.set_cons_succ, i64_w, i32_w]
          rfl
        refine last_ (i := 14) (N := none) #[true, true, true, true, true, true, true, true, true, true, true, true, true, true, true] rfl rfl (by kernel_rfl) (by decide) (fun K hK => ?_)
        refine skip_ (w1 := ?_) (by rfl) rfl ?_ ?_
        rotate_left
        · go_simp
          rfl
        refine hK.out _ _ ?_
        clear hK K
        refine done_ (by kernel_rfl) ?_
        go_wp2
        go_end0
        exact ⟨rfl, _, _, k, _, hk, HI.out, HN.out, HF.out.fin, HF.out.grown, HF.out.zeros, HF.out.big, HF.out.lt⟩
    · have hkn : k = n := by omega
      have HN : Aside0 (∀ y, L[k]? = some y → x ≤ y) := ⟨fun y' hy' => by have := (List.getElem?_eq_some_iff.1 hy').1; have := HL.out; omega⟩
      obtain ⟨A', B', m', c', k', d', A1, A2, A3, B1, B2, B3, n1, n2, n3, m1, m2, m3, c1, c2, c3, d1, d2, d3, w1, w2, w3, w4, w5, w6, hF⟩ := add_facts HM.out x k hk hl
      have q0 : decide ((k : Int) < n) = false := by simp; omega
      clear hkn
      have r1 := hF.r1
      have r2 := hF.r2
      have s1 := hF.s1
      have s2 := hF.s2
      have a1 := hF.a1
      have a2 := hF.a2
      have a3 := hF.a3
      have b1 := hF.b1
      have b2 := hF.b2
      have b3 := hF.b3
      have x0 := hF.x0
      have x1 := hF.x1
      have x2 := hF.x2
      have x3 := hF.x3
      have x4 := hF.x4
      have x5 := hF.x5
      have y0 := hF.y0
      have y1 := hF.y1
      have y2 := hF.y2
      have y3 := hF.y3
      have y4 := hF.y4
      have y5 := hF.y5
      have y6 := hF.y6
      have hmk := make512
      have HF := Aside0.mk hF
      have z0 : (0 : Int) ≤ k := by omega
      have z1 : (k : Int) ≤ n := by omega
      have z2 : (n : Int) ≤ c := by omega
      have z3 : (n : Int) ≤ d := by omega
      clear hF HC HM
      go_wp2_with ((with_reducible refine gate_builtin (b := .append) (xs := #[.tmp 27, .tmp 33]) rfl ?_); at_builtin; refine app_list rfl (.tmp 27) (.tmp 33) 60 rfl _ _ rfl rfl a1 ?_)
      refine start_ (n := 15) (S := fun w' => w'.cell? ⟨mb, 0, none⟩ = some (.slice A n c)) (ds := [14]) #[false, false, false, false, false, false, false, false, false, false, false, false, false, false, false] (by kernel_rfl) rfl rfl x1 (fun hHeld => ?_)
      refine pure_ (i := 0) (N := some 35) (v := ?_) (a' := ?_) #[true, false, false, false, false, false, false, false, false, false, false, false, false, false, false] rfl rfl (by kernel_rfl) (fun _ _ _ h => h) (Or.inl ⟨by rfl, ?_⟩) ?_ ?_
      rotate_left
      · intro w'
        go_simp
        with_reducible rfl
      rotate_left
      · simp only [Act.put, List.setIfInBounds_toArray, List.set_cons_zero, List.set_cons_succ, i64_w, i32_w]
        rfl
      refine pure_ (i := 1) (N := some 36) (v := ?_) (a' := ?_) #[true, true, false, false, false, false, false, false, false, false, false, false, false, false, false] rfl rfl (by kernel_rfl) (fun _ _ _ h => h) (Or.inl ⟨by rfl, ?_⟩) ?_ ?_
      rotate_left
      · intro w'
        go_simp
        with_reducible rfl
      rotate_left
      · simp only [Act.put, List.setIfInBounds_toArray, List.set_cons_zero, List.set_cons_succ, i64_w, i32_w]
        rfl
      refine pure_ (i := 2) (N := some 37) (v := ?_) (a' := ?_) #[true, true, true, false, false, false, false, false, false, false, false, false, false, false, false] rfl rfl (by kernel_rfl) (fun _ _ _ h => h) (Or.inl ⟨by rfl, ?_⟩) ?_ ?_
      rotate_left
      · intro w'
        go_simp
        with_reducible rfl
      rotate_left
      · simp only [Act.put, List.setIfInBounds_toArray, List.set_cons_zero, List.set_cons_succ, i64_w, i32_w]
        rfl
      refine pure_ (i := 5) (N := some 40) (v := ?_) (a' := ?_) #[true, true, true, false, false, true, false, false, false, false, false, false, false, false, false] rfl rfl (by kernel_rfl) (fun _ _ _ h => h) (Or.inl ⟨by rfl, ?_⟩) ?_ ?_
      rotate_left
      · intro w'
        go_simp
        with_reducible rfl
      rotate_left
      · simp only [Act.put, List.setIfInBounds_toArray, List.set_cons_zero, List.set_cons_succ, i64_w, i32_w]
        rfl
      refine pure_ (i := 6) (N := some 41) (v := ?_) (a' := ?_) #[true, true, true, false, false, true, true, false, false, false, false, false, false, false, false] rfl rfl (by kernel_rfl) (fun _ _ _ h => h) (Or.inl ⟨by rfl, ?_⟩) ?_ ?_
      rotate_left
      · intro w'
        go_simp
        with_reducible rfl
      rotate_left
      · simp only [Act.put, List.setIfInBounds_toArray, List.set_cons_zero, List.set_cons_succ, i64_w, i32_w]
        rfl
      refine pure_ (i := 7) (N := some 42) (v := ?_) (a' := ?_) #[true, true, true, false, false, true, true, true, false, false, false, false, false, false, false] rfl rfl (by kernel_rfl) (fun _ _ _ h => h) (Or.inl ⟨by rfl, ?_⟩) ?_ ?_
      rotate_left
      · intro w'
        go_simp
        with_reducible rfl
      rotate_left
      · simp only [Act.put, List.setIfInBounds_toArray, List.set_cons_zero, List.set_cons_succ, i64_w, i32_w]
        rfl
      refine take_ (i := 8) (N := some 43) (v := ?_) (a' := ?_) #[true, true, true, false, false, true, true, true, true, false, false, false, false, false, false] rfl rfl (by kernel_rfl) (fun _ _ _ h => h) (Or.inl ⟨by rfl, ?_⟩) hHeld ?_ ?_
      rotate_left
      · rintro w' s0
        go_simp
        with_reducible rfl
      rotate_left
      · simp only [Act.put, List.setIfInBounds_toArray, List.set_cons_zero, List.set_cons_succ, i64_w, i32_w]
        rfl
      refine pure_ (i := 9) (N := some 44) (v := ?_) (a' := ?_) #[true, true, true, false, false, true, true, true, true, true, false, false, false, false, false] rfl rfl (by kernel_rfl) (fun _ _ _ h => h) (Or.inl ⟨by rfl, ?_⟩) ?_ ?_
      rotate_left
      · intro w'
        go_simp
        with_reducible rfl
      rotate_left
      · simp only [Act.put, List.setIfInBounds_toArray, List.set_cons_zero, List.set_cons_succ, i64_w, i32_w]
        rfl
      refine pure_ (i := 10) (N := some 45) (v := ?_) (a' := ?_) #[true, true, true, false, false, true, true, true, true, true, true, false, false, false, false] rfl rfl (by kernel_rfl) (fun _ _ _ h => h) (Or.inl ⟨by rfl, ?_⟩) ?_ ?_
      rotate_left
      · intro w'
        go_simp
        with_reducible rfl
      rotate_left
      · simp only [Act.put, List.setIfInBounds_toArray, List.set_cons_zero, List.set_cons_succ, i64_w, i32_w]
        rfl
      refine one_ (i := 3) (N := some 38) #[true, true, true, true, false, true, true, true, true, true, true, false, false, false, false] rfl rfl (by kernel_rfl) (by decide) (fun K hK => ?_)
      refine value_ (v := .slice (some ⟨w1.heap.size, 0, none⟩) 1 1) (w1 := w1.drew.alloc (.cells #[.int .i64 x] 3)) (by rfl) rfl ?_ ?_
      · go_simp
      refine hK.out _ _ x2 (fun hHeld => ?_)
      clear hK K
      refine norm_ (a' := ?_) ?_ ?_
      rotate_left
      · show Act.put _ (some 38) _ = _
        simp only [Act.put, List.setIfInBounds_toArray, List.set_cons_zero, List.set_cons_succ, i64_w, i32_w]
        rfl
      refine one_ (i := 4) (N := some 39) #[true, true, true, true, true, true, true, true, true, true, true, false, false, false, false] rfl rfl (by kernel_rfl) (by decide) (fun K hK => ?_)
      refine value_ (v := .slice A2 n2 c2) (w1 := w2) (by rfl) rfl ?_ ?_
      · exact app_exec (.tmp 36) (.tmp 38) 60 rfl _ _ rfl rfl a2
      refine hK.out _ _ x3 (fun hHeld => ?_)
      clear hK K
      refine norm_ (a' := ?_) ?_ ?_
      rotate_left
      · show Act.put _ (some 39) _ = _
        simp only [Act.put, List.setIfInBounds_toArray, List.set_cons_zero, List.set_cons_succ, i64_w, i32_w]
        rfl
      refine one_ (i := 11) (N := some 46) #[true, true, true, true, true, true, true, true, true, true, true, true, false, false, false] rfl rfl (by kernel_rfl) (by decide) (fun K hK => ?_)
      refine value_ (v := .slice A3 n3 c3) (w1 := w3) (by rfl) rfl ?_ ?_
      · exact app_exec (.tmp 39) (.tmp 45) 60 rfl _ _ rfl rfl a3
      refine hK.out _ _ x4 (fun hHeld => ?_)
      clear hK K
      refine norm_ (a' := ?_) ?_ ?_
      rotate_left
      · show Act.put _ (some 46) _ = _
        simp only [Act.put, List.setIfInBounds_toArray, List.set_cons_zero, List.set_cons_succ, i64_w, i32_w]
        rfl
      refine pure_ (i := 12) (N := some 47) (v := ?_) (a' := ?_) #[true, true, true, true, true, true, true, true, true, true, true, true, true, false, false] rfl rfl (by kernel_rfl) (fun _ _ _ h => h) (Or.inl ⟨by rfl, ?_⟩) ?_ ?_
      rotate_left
      · intro w'
        go_simp
        with_reducible rfl
      rotate_left
      · simp only [Act.put, List.setIfInBounds_toArray, List.set_cons_zero, List.set_cons_succ, i64_w, i32_w]
        rfl
      refine pure_ (i := 13) (N := some 48) (v := ?_) (a' := ?_) #[true, true, true, true, true, true, true, true, true, true, true, true, true, true, false] rfl rfl (by kernel_rfl) (fun _ _ _ h => h) (Or.inl ⟨by rfl, ?_⟩) ?_ ?_
      rotate_left
      · intro w'
        go_simp
        with_reducible rfl
      rotate_left
      · simp only [Act.put, List.setIfInBounds_toArray, List.set_cons_zero, List.set_cons_succ, i64_w, i32_w]
        rfl
      refine last_ (i := 14) (N := none) #[true, true, true, true, true, true, true, true, true, true, true, true, true, true, true] rfl rfl (by kernel_rfl) (by decide) (fun K hK => ?_)
      refine skip_ (w1 := ?_) (by rfl) rfl ?_ ?_
      rotate_left
      · go_simp
        rfl
      refine hK.out _ _ ?_
      clear hK K
      refine done_ (by kernel_rfl) ?_
      go_wp2_with ((with_reducible refine gate_builtin (b := .append) (xs := #[.tmp 49, .tmp 55]) rfl ?_); at_builtin; refine app_list rfl (.tmp 49) (.tmp 55) 32 rfl _ _ rfl rfl b1 ?_)
      refine start_ (n := 15) (S := fun w' => w'.cell? ⟨mb, 1, none⟩ = some (.slice B n d)) (ds := [14]) #[false, false, false, false, false, false, false, false, false, false, false, false, false, false, false] (by kernel_rfl) rfl rfl y1 (fun hHeld => ?_)
      refine pure_ (i := 0) (N := some 57) (v := ?_) (a' := ?_) #[true, false, false, false, false, false, false, false, false, false, false, false, false, false, false] rfl rfl (by kernel_rfl) (fun _ _ _ h => h) (Or.inl ⟨by rfl, ?_⟩) ?_ ?_
      rotate_left
      · intro w'
        go_simp
        with_reducible rfl
      rotate_left
      · simp only [Act.put, List.setIfInBounds_toArray, List.set_cons_zero, List.set_cons_succ, i64_w, i32_w]
        rfl
      refine pure_ (i := 1) (N := some 58) (v := ?_) (a' := ?_) #[true, true, false, false, false, false, false, false, false, false, false, false, false, false, false] rfl rfl (by kernel_rfl) (fun _ _ _ h => h) (Or.inl ⟨by rfl, ?_⟩) ?_ ?_
      rotate_left
      · intro w'
        go_simp
        with_reducible rfl
      rotate_left
      · simp only [Act.put, List.setIfInBounds_toArray, List.set_cons_zero, List.set_cons_succ, i64_w, i32_w]
        rfl
      refine pure_ (i := 5) (N := some 62) (v := ?_) (a' := ?_) #[true, true, false, false, false, true, false, false, false, false, false, false, false, false, false] rfl rfl (by kernel_rfl) (fun _ _ _ h => h) (Or.inl ⟨by rfl, ?_⟩) ?_ ?_
      rotate_left
      · intro w'
        go_simp
        with_reducible rfl
      rotate_left
      · simp only [Act.put, List.setIfInBounds_toArray, List.set_cons_zero, List.set_cons_succ, i64_w, i32_w]
        rfl
      refine pure_ (i := 6) (N := some 63) (v := ?_) (a' := ?_) #[true, true, false, false, false, true, true, false, false, false, false, false, false, false, false] rfl rfl (by kernel_rfl) (fun _ _ _ h => h) (Or.inl ⟨by rfl, ?_⟩) ?_ ?_
      rotate_left
      · intro w'
        go_simp
        with_reducible rfl
      rotate_left
      · simp only [Act.put, List.setIfInBounds_toArray, List.set_cons_zero, List.set_cons_succ, i64_w, i32_w]
        rfl
      refine pure_ (i := 7) (N := some 64) (v := ?_) (a' := ?_) #[true, true, false, false, false, true, true, true, false, false, false, false, false, false, false] rfl rfl (by kernel_rfl) (fun _ _ _ h => h) (Or.inl ⟨by rfl, ?_⟩) ?_ ?_
      rotate_left
      · intro w'
        go_simp
        with_reducible rfl
      rotate_left
      · simp only [Act.put, List.setIfInBounds_toArray, List.set_cons_zero, List.set_cons_succ, i64_w, i32_w]
        rfl
      refine take_ (i := 8) (N := some 65) (v := ?_) (a' := ?_) #[true, true, false, false, false, true, true, true, true, false, false, false, false, false, false] rfl rfl (by kernel_rfl) (fun _ _ _ h => h) (Or.inl ⟨by rfl, ?_⟩) hHeld ?_ ?_
      rotate_left
      · rintro w' s0
        go_simp
        with_reducible rfl
      rotate_left
      · simp only [Act.put, List.setIfInBounds_toArray, List.set_cons_zero, List.set_cons_succ, i64_w, i32_w]
        rfl
      refine pure_ (i := 9) (N := some 66) (v := ?_) (a' := ?_) #[true, true, false, false, false, true, true, true, true, true, false, false, false, false, false] rfl rfl (by kernel_rfl) (fun _ _ _ h => h) (Or.inl ⟨by rfl, ?_⟩) ?_ ?_
      rotate_left
      · intro w'
        go_simp
        with_reducible rfl
      rotate_left
      · simp only [Act.put, List.setIfInBounds_toArray, List.set_cons_zero, List.set_cons_succ, i64_w, i32_w]
        rfl
      refine pure_ (i := 10) (N := some 67) (v := ?_) (a' := ?_) #[true, true, false, false, false, true, true, true, true, true, true, false, false, false, false] rfl rfl (by kernel_rfl) (fun _ _ _ h => h) (Or.inl ⟨by rfl, ?_⟩) ?_ ?_
      rotate_left
      · intro w'
        go_simp
        with_reducible rfl
      rotate_left
      · simp only [Act.put, List.setIfInBounds_toArray, List.set_cons_zero, List.set_cons_succ, i64_w, i32_w]
        rfl
      refine one_ (i := 2) (N := some 59) #[true, true, true, false, false, true, true, true, true, true, true, false, false, false, false] rfl rfl (by kernel_rfl) (by decide) (fun K hK => ?_)
      refine value_ (v := .slice (some ⟨w4.heap.size, 0, none⟩) 512 512) (w1 := w4.drew.alloc (.cells (madeCells #[.int .u8 0] 512) 5)) (by rfl) rfl ?_ ?_
      · go_simp
      refine hK.out _ _ y2 (fun hHeld => ?_)
      clear hK K
      refine norm_ (a' := ?_) ?_ ?_
      rotate_left
      · show Act.put _ (some 59) _ = _
        simp only [Act.put, List.setIfInBounds_toArray, List.set_cons_zero, List.set_cons_succ, i64_w, i32_w]
        rfl
      refine one_ (i := 3) (N := some 60) #[true, true, true, true, false, true, true, true, true, true, true, false, false, false, false] rfl rfl (by kernel_rfl) (by decide) (fun K hK => ?_)
      refine value_ (v := .slice (some ⟨w4.heap.size + 1, 0, none⟩) 1 1) (w1 := (w4.drew.alloc (.cells (madeCells #[.int .u8 0] 512) 5)).alloc (.cells #[.slice (some ⟨w4.heap.size, 0, none⟩) 512 512] 48)) (by rfl) rfl ?_ ?_
      · go_simp
      refine hK.out _ _ y3 (fun hHeld => ?_)
      clear hK K
      refine norm_ (a' := ?_) ?_ ?_
      rotate_left
      · show Act.put _ (some 60) _ = _
        simp only [Act.put, List.setIfInBounds_toArray, List.set_cons_zero, List.set_cons_succ, i64_w, i32_w]
        rfl
      refine one_ (i := 4) (N := some 61) #[true, true, true, true, true, true, true, true, true, true, true, false, false, false, false] rfl rfl (by kernel_rfl) (by decide) (fun K hK => ?_)
      refine value_ (v := .slice B2 m2 d2) (w1 := w5) (by rfl) rfl ?_ ?_
      · exact app_exec (.tmp 58) (.tmp 60) 32 rfl _ _ rfl rfl b2
      refine hK.out _ _ y4 (fun hHeld => ?_)
      clear hK K
      refine norm_ (a' := ?_) ?_ ?_
      rotate_left
      · show Act.put _ (some 61) _ = _
        simp only [Act.put, List.setIfInBounds_toArray, List.set_cons_zero, List.set_cons_succ, i64_w, i32_w]
        rfl
      refine one_ (i := 11) (N := some 68) #[true, true, true, true, true, true, true, true, true, true, true, true, false, false, false] rfl rfl (by kernel_rfl) (by decide) (fun K hK => ?_)
      refine value_ (v := .slice B3 m3 d3) (w1 := w6) (by rfl) rfl ?_ ?_
      · exact app_exec (.tmp 61) (.tmp 67) 32 rfl _ _ rfl rfl b3
      refine hK.out _ _ y5 (fun hHeld => ?_)
      clear hK K
      refine norm_ (a' := ?_) ?_ ?_
      rotate_left
      · show Act.put _ (some 68) _ = _
        simp only [Act.put, List.setIfInBounds_toArray, List.set_cons_zero, List.set_cons_succ, i64_w, i32_w]
        rfl
      refine pure_ (i := 12) (N := some 69) (v := ?_) (a' := ?_) #[true, true, true, true, true, true, true, true, true, true, true, true, true, false, false] rfl rfl (by kernel_rfl) (fun _ _ _ h => h) (Or.inl ⟨by rfl, ?_⟩) ?_ ?_
      rotate_left
      · intro w'
        go_simp
        with_reducible rfl
      rotate_left
      · simp only [Act.put, List.setIfInBounds_toArray, List.set_cons_zero, List.set_cons_succ, i64_w, i32_w]
        rfl
      refine pure_ (i := 13) (N := some 70) (v := ?_) (a' := ?_) #[true, true, true, true, true, true, true, true, true, true, true, true, true, true, false] rfl rfl (by kernel_rfl) (fun _ _ _ h => h) (Or.inl ⟨by rfl, ?_⟩) ?_ ?_
      rotate_left
      · intro w'
        go_simp
        with_reducible rfl
      rotate_left
      · simp only [Act.put, List.setIfInBounds_toArray, List.set_cons_zero, List.set_cons_succ, i64_w, i32_w]
        rfl
      refine last_ (i := 14) (N := none) #[true, true, true, true, true, true, true, true, true, true, true, true, true, true, true] rfl rfl (by kernel_rfl) (by decide) (fun K hK => ?_)
      refine skip_ (w1 := ?_) (by rfl) rfl ?_ ?_
      rotate_left
      · go_simp
        rfl
      refine hK.out _ _ ?_
      clear hK K
      refine done_ (by kernel_rfl) ?_
      go_wp2
      go_end0
      exact ⟨rfl, _, _, k, _, hk, HI.out, HN.out, HF.out.fin, HF.out.grown, HF.out.zeros, HF.out.big, HF.out.lt⟩
end Go.Proofs.YtmdpgjdepflbmaaGreat
namespace Go.Proofs.YtmdpgjdepflbmaaGreat
open Go.RowKit Go.Maps Go.Proofs.YtmdpgjdepflbmaaGreatW.PrintWords Go.Proofs.YtmdpgjdepflbmaaGreatW.PrintLast Go.Proofs.YtmdpgjdepflbmaaGreatW.PrintMore
open Go.Proofs.YtmdpgjdepflbmaaGreat.PPagerFolds
set_option linter.unusedVariables false
set_option linter.unusedSimpArgs false

/-- a model in memory, apart from the file's blocks (ok); tx: what stands on its pages -/
structure MM (w wr : World) (ok : Nat → Prop) (mb : Nat) (hv tv : Value) (L : List Int) (T : List (Nat × Nat)) (R : List Int) (tx : Int → Bytes) : Prop where
  md : MdAt wr (fun k => w.heap.size ≤ k ∧ ¬ ok k) mb hv tv L T R
  okm : w.heap.size ≤ mb ∧ ¬ ok mb
  text : ∀ (j : Nat) (p : Int) (t : Nat × Nat), L[j]? = some p → T[j]? = some t → U8.R 5 wr 0 (fun k => k = t.1) (.slice (some ⟨t.1, 0, none⟩) 512 t.2) (tx p) ∧ w.heap.size ≤ t.1 ∧ ¬ ok t.1

section
variable {w wr w' : World} {ok ok' : Nat → Prop} {mb : Nat} {hv tv : Value} {L : List Int} {T : List (Nat × Nat)} {R : List Int} {tx tx' : Int → Bytes}
theorem MdAt.move {P P' : Nat → Prop} (h : MdAt wr P mb hv tv L T R) (hm : w'.heap[mb]? = wr.heap[mb]?) (hb : ∀ k, k < wr.heap.size → P k → w'.heap[k]? = wr.heap[k]?) (hP : ∀ k, k < wr.heap.size → P k → P' k) : MdAt w' P' mb hv tv L T R :=
  ⟨hm.trans h.blk, h.rl, Kd.R_mono (Kd.R_step (Kd.R_bound h.held) (fun k hk hl => hb k hl hk.1)) (fun k hk => hP k hk.2.2.1 hk.1), Kd.R_mono (Kd.R_step (Kd.R_bound h.text) (fun k hk hl => hb k hl hk.1)) (fun k hk => hP k hk.2.2.1 hk.1), h.tl⟩
theorem MM.lt (h : MM w wr ok mb hv tv L T R tx) : mb < wr.heap.size := heap_lt h.md.blk
theorem trow_lt {t : Nat × Nat} {bs : Bytes} {P : Nat → Prop} (h : U8.R 5 wr 0 P (.slice (some ⟨t.1, 0, none⟩) 512 t.2) bs) : t.1 < wr.heap.size := row_lt h
theorem MM.move (h : MM w wr ok mb hv tv L T R tx) (hs : wr.heap.size ≤ w'.heap.size) (hb : ∀ k, k < wr.heap.size → ¬ ok k → w.heap.size ≤ k → w'.heap[k]? = wr.heap[k]?) (hok : ∀ k, ok' k → ok k ∨ wr.heap.size ≤ k) : MM w w' ok' mb hv tv L T R tx := by
  have hn : ∀ k, k < wr.heap.size → ¬ ok k → ¬ ok' k := fun k hk hk' h' => (hok k h').elim hk' (fun h => by omega)
  refine ⟨h.md.move (hb mb h.lt h.okm.2 h.okm.1) (fun k hk hp => hb k hk hp.2 hp.1) (fun k hk hp => ⟨hp.1, hn k hk hp.2⟩), ⟨h.okm.1, hn mb h.lt h.okm.2⟩, fun j p t h1 h2 => ?_⟩
  obtain ⟨h3, h4, h5⟩ := h.text j p t h1 h2
  have hl := trow_lt h3
  exact ⟨Kd.R_step h3 (fun k hk _ => by subst hk; exact hb t.1 hl h5 h4), h4, hn _ hl h5⟩
theorem MM.text_eq (h : MM w wr ok mb hv tv L T R tx) (he : ∀ p, p ∈ L → tx' p = tx p) : MM w wr ok mb hv tv L T R tx' :=
  ⟨h.md, h.okm, fun j p t h1 h2 => by rw [he p (List.mem_of_getElem? h1)]; exact h.text j p t h1 h2⟩
end

/-- what a step may turn: the file's blocks, the model's block, its text's -/
structure AF (mb : Nat) (wr : World) (ok : Nat → Prop) (tv : Value) (w' : World) (ok' : Nat → Prop) (tv' : Value) : Prop where
  size : wr.heap.size ≤ w'.heap.size
  oks : ∀ k, ok' k → ok k ∨ wr.heap.size ≤ k
  block : ∀ k, k < wr.heap.size → ¬ ok k → k ≠ mb → tv.ownBlock ≠ some k → w'.heap[k]? = wr.heap[k]?
  tvs : ∀ k, tv'.ownBlock = some k → tv.ownBlock = some k ∨ wr.heap.size ≤ k
section
variable {mb : Nat} {wr w1 w2 : World} {ok ok1 ok2 : Nat → Prop} {tv tv1 tv2 : Value}
theorem AF.trans (h : AF mb wr ok tv w1 ok1 tv1) (k : AF mb w1 ok1 tv1 w2 ok2 tv2) : AF mb wr ok tv w2 ok2 tv2 := by
  have s1 := h.size
  refine ⟨Nat.le_trans s1 k.size, fun j hj => (k.oks j hj).elim (h.oks j) (fun h => .inr (by omega)), fun j hj h1 h2 h3 => ?_, fun j hj => (k.tvs j hj).elim (h.tvs j) (fun h => .inr (by omega))⟩
  rw [← h.block j hj h1 h2 h3]
  exact k.block j (by omega) (fun h' => (h.oks j h').elim h1 (fun h => by omega)) h2 (fun h' => (h.tvs j h').elim h3 (fun h => by omega))
theorem AF.below (hb : Below wr.heap.size wr w1) : AF mb wr ok tv w1 ok tv := ⟨hb.size, fun _ h => .inl h, fun k hk _ _ _ => hb.block k hk, fun _ h => .inl h⟩
theorem AF.fr (hF : Fr ok wr w1) : AF mb wr ok tv w1 (Grow wr ok w1) tv := ⟨hF.size, fun _ h => h.elim .inl (fun h => .inr h.1), fun k hk hn _ _ => hF.block k hk hn, fun _ h => .inl h⟩
end

/-- a file of pages, the law's own model beside -/
structure MS (w wr : World) (g : Nat) (B : PG) (V : Int → Bytes) (cnt : Int) (ok : Nat → Prop) (mb : Nat) (hv tv : Value) (L : List Int) (T : List (Nat × Nat)) (R : List Int) (N : Nat) : Prop where
  fs : FS w wr g B M0 V cnt ok
  mm : MM w wr ok mb hv tv L T R V
  srt : L.Pairwise (· < ·)
  held : ∀ m, HeldP (V 0) m ↔ m ∈ L
  root : ∀ i, i < 8 → R[i]? = some (wordZ (V 0) (2 * i))
  top : wordZ (V 0) 16 ≤ N
  len : L.length ≤ N
  cb : cnt ≤ wordZ (V 0) 16 + 1

section
variable {w wr w' w1 w2 : World} {g : Nat} {B : PG} {V V1 : Int → Bytes} {cnt cnt1 : Int} {ok ok1 : Nat → Prop} {mb : Nat} {hv tv hv' tv' : Value} {L : List Int} {T : List (Nat × Nat)} {R : List Int} {N : Nat}
theorem MS.more (h : MS w wr g B V cnt ok mb hv tv L T R N) : MS w wr g B V cnt ok mb hv tv L T R (N + 1) :=
  ⟨h.fs, h.mm, h.srt, h.held, h.root, by have := h.top; omega, by have := h.len; omega, h.cb⟩
theorem MS.nodup (h : MS w wr g B V cnt ok mb hv tv L T R N) : L.Nodup := h.srt.imp (fun h => by omega)
theorem MS.pos (h : MS w wr g B V cnt ok mb hv tv L T R N) {p : Int} (hp : p ∈ L) : 1 ≤ p := ((h.held p).2 hp).1
theorem MS.step (h : MS w wr g B V cnt ok mb hv tv L T R N) (hb : Below wr.heap.size wr w') : MS w w' g B V cnt ok mb hv tv L T R N :=
  ⟨h.fs.step hb, h.mm.move hb.size (fun k hk _ _ => hb.block k hk) (fun _ h => .inl h), h.srt, h.held, h.root, h.top, h.len, h.cb⟩
theorem MM.kept {tx : Int → Bytes} (h : MM w wr ok mb hv tv L T R tx) {r : Nat} (hg : wr.grownBy w' (some r)) (hm : r ≠ mb) (hh : hv.ownBlock ≠ some r) (ht : tv.ownBlock ≠ some r) (hT : ∀ t, t ∈ T → t.1 ≠ r) : MM w w' ok mb hv tv L T R tx := by
  refine ⟨⟨(hg.block mb h.lt (fun e => hm (by injection e with e; exact e.symm))).trans h.md.blk, h.md.rl, ?_, ?_, h.md.tl⟩, h.okm, fun j p t h1 h2 => ?_⟩
  · exact Kd.R_of_own (own_at_heap (Kd.own_of_R h.md.held) (fun k hk => hg.block k (own_lt (Kd.own_of_R h.md.held) k hk) (fun e => hh (by rw [hk, e])))) h.md.held.1
  · exact Kd.R_of_own (own_at_heap (Kd.own_of_R h.md.text) (fun k hk => hg.block k (own_lt (Kd.own_of_R h.md.text) k hk) (fun e => ht (by rw [hk, e])))) h.md.text.1
  · obtain ⟨h3, h4, h5⟩ := h.text j p t h1 h2
    exact ⟨Kd.R_step h3 (fun k hk hl => hg.block k hl (fun e => hT t (List.mem_of_getElem? h2) (by injection e with e; rw [← e]; exact hk.symm))), h4, h5⟩

theorem MS.rootcell (h : MS w wr g B V cnt ok mb hv tv L T R N) {i : Int} (h0 : 0 ≤ i) (h1 : i < 8) : wr.cell? ⟨mb, 2 + i.toNat, none⟩ = some (.int .i64 (wordZ (V 0) (2 * i.toNat))) := by
  rw [cell_of_row wr mb (2 + i.toNat) _ _ (0, 0) h.mm.md.blk]
  have := h.root i.toNat (by omega)
  rw [show 2 + i.toNat = i.toNat + 1 + 1 by omega]
  simp [this]
theorem cover : ∀ (t : Nat) (L : List Int), (∀ m : Int, 1 ≤ m → m ≤ t → m ∈ L) → t ≤ L.length
  | 0, _, _ => Nat.zero_le _
  | t + 1, L, h => by
    have hm := h ((t + 1 : Nat) : Int) (by omega) (Int.le_refl _)
    have := cover t (L.erase ((t + 1 : Nat) : Int)) (fun m h0 h1 => (List.mem_erase_of_ne (by omega)).2 (h m h0 (by omega)))
    rw [List.length_erase_of_mem hm] at this
    have := List.length_pos_of_mem hm
    omega
/-- Free of a held one, then drop -/
theorem MS.freed (h : MS w wr g B V cnt ok mb hv tv L T R N) {n : Int} {j : Nat} (hj : L[j]? = some n) (hF : FS' w wr w1 g B M0 V1 cnt1 ok) (hh : ∀ m, HeldP (V1 0) m ↔ m ≠ n ∧ HeldP (V 0) m) (hV : ∀ y, y ≠ 0 → V1 y = if y = n then zeros else V y) (ht : wordZ (V1 0) 16 = wordZ (V 0) 16) (hr : ∀ a, a + 1 < 16 → wordZ (V1 0) a = wordZ (V 0) a) (hc : cnt1 = max (max cnt 1) (n + 1)) :
    MdAt w1 (fun k => w.heap.size ≤ k ∧ ¬ Grow wr ok w1 k) mb hv tv L T R ∧ j < L.length ∧ ∀ w2 hv' tv', MdAt w2 (fun k => w1.heap.size ≤ k) mb hv' tv' (L.take j ++ L.drop (j + 1)) (T.take j ++ T.drop (j + 1)) R → w1.grownBy w2 (some mb) →
      MS w w2 g B V1 cnt1 (Grow wr ok w1) mb hv' tv' (L.take j ++ L.drop (j + 1)) (T.take j ++ T.drop (j + 1)) R N ∧ AF mb wr ok tv w2 (Grow wr ok w1) tv' ∧ wordZ (V1 0) 16 ≤ max (wordZ (V 0) 16) ((L.take j ++ L.drop (j + 1)).length : Int) := by
  have hm1 := h.mm.move (w' := w1) (ok' := Grow wr ok w1) hF.fr.size (fun k hk hn _ => hF.fr.block k hk hn) (fun k hk => hk.elim .inl (fun h => .inr h.1))
  have hjl := (List.getElem?_eq_some_iff.1 hj).1
  have hnL : n ∈ L := List.mem_of_getElem? hj
  have hdec : L = L.take j ++ n :: L.drop (j + 1) := by
    have := List.getElem?_eq_some_iff.1 hj
    obtain ⟨h1, h2⟩ := this
    rw [← h2, ← List.drop_eq_getElem_cons h1, List.take_append_drop]
  have hnd := h.nodup
  have hmem : ∀ m, m ∈ L.take j ++ L.drop (j + 1) ↔ m ≠ n ∧ m ∈ L := by
    intro m
    rw [hdec] at hnd
    obtain ⟨hA, hnC, hdis⟩ := List.nodup_append.1 hnd
    have hni : n ∉ L.take j ++ L.drop (j + 1) := fun h => by
      rcases List.mem_append.1 h with h | h
      · exact hdis n h n (List.mem_cons_self ..) rfl
      · exact (List.nodup_cons.1 hnC).1 h
    constructor
    · intro hm
      refine ⟨fun e => hni (e ▸ hm), ?_⟩
      rw [hdec]
      rcases List.mem_append.1 hm with h | h
      · exact List.mem_append_left _ h
      · exact List.mem_append_right _ (List.mem_cons_of_mem _ h)
    · rintro ⟨h1, h2⟩
      rw [hdec] at h2
      rcases List.mem_append.1 h2 with h | h
      · exact List.mem_append_left _ h
      · rcases List.mem_cons.1 h with h | h
        · exact absurd h h1
        · exact List.mem_append_right _ h
  refine ⟨hm1.md, hjl, fun w2 hv' tv' hmd hg => ?_⟩
  have hsub : (L.take j ++ L.drop (j + 1)).Sublist L := by
    conv => rhs; rw [hdec]
    exact List.Sublist.append_left (List.sublist_cons_self _ _) _
  have hs := h.fs.below.size
  have hs1 := hF.fr.size
  refine ⟨⟨hF.st.grown hg (fun k hk => by injection hk with hk; subst hk; exact ⟨hm1.okm.2, hm1.okm.1⟩), ⟨hmd.move rfl (fun _ _ _ => rfl) (fun k hk hp => ⟨by omega, fun hk' => hk'.elim (fun h' => by have := h.fs.lt k h'; omega) (fun h' => by omega)⟩), hm1.okm, fun i p t h1 h2 => ?_⟩, h.srt.sublist hsub, fun m => by rw [hh m, h.held m, hmem m], fun i hi => by rw [hr (2 * i) (by omega)]; exact h.root i hi, by rw [ht]; exact h.top, by have := h.len; have := hsub.length_le; omega, by rw [ht, hc]; have := h.cb; have h1 := ((h.held n).2 hnL).2.1; have := h.fs.top0; omega⟩, ?_, by rw [ht]; exact Int.le_max_left _ _⟩
  · -- the texts
    have hp := (hmem p).1 (List.mem_of_getElem? h1)
    have hp1 := h.pos hp.2
    rw [hV p (by omega), if_neg hp.1]
    have hidx : ∃ i' : Nat, L[i']? = some p ∧ T[i']? = some t := by
      by_cases hi : i < j
      · refine ⟨i, ?_, ?_⟩
        · rw [List.getElem?_append_left (by rw [List.length_take]; omega), List.getElem?_take, if_pos hi] at h1; exact h1
        · rw [List.getElem?_append_left (by rw [List.length_take, h.mm.md.tl]; omega), List.getElem?_take, if_pos hi] at h2; exact h2
      · refine ⟨j + 1 + (i - j), ?_, ?_⟩
        · rw [List.getElem?_append_right (by rw [List.length_take]; omega), List.getElem?_drop, List.length_take, Nat.min_eq_left (by omega)] at h1; exact h1
        · rw [List.getElem?_append_right (by rw [List.length_take, h.mm.md.tl]; omega), List.getElem?_drop, List.length_take, h.mm.md.tl, Nat.min_eq_left (by omega)] at h2; exact h2
    obtain ⟨i', h3, h4⟩ := hidx
    obtain ⟨h5, h6, h7⟩ := hm1.text i' p t h3 h4
    refine ⟨Kd.R_step h5 (fun k hk hl => hg.block k hl (fun e => ?_)), h6, h7⟩
    injection e with e
    obtain ⟨cs, hcs⟩ := own_typed (Kd.own_of_R h5) k (by have hk' : k = t.1 := hk; rw [hk']; rfl)
    rw [e, hm1.md.blk] at hcs
    injection hcs with hcs
    injection hcs with _ hcs
    exact absurd hcs (by decide)
  · refine (AF.fr (mb := mb) (tv := tv) hF.fr).trans ⟨hg.size, fun _ h => .inl h, fun k hk _ hne _ => hg.block k hk (fun e => hne (by injection e)), fun k hk => .inr (hmd.text.1 k hk)⟩

/-- Alloc, then add -/
theorem MS.alloced (h : MS w wr g B V cnt ok mb hv tv L T R N) {n : Int} (hF : FS' w wr w1 g B M0 V1 cnt1 ok) (h1n : 1 ≤ n) (hno : ¬ HeldP (V 0) n) (hh : ∀ m, HeldP (V1 0) m ↔ m = n ∨ HeldP (V 0) m) (hV : ∀ y, y ≠ 0 → V1 y = if y = n then zeros else V y)
    (ht2 : wordZ (V1 0) 16 = wordZ (V 0) 16 ∨ (wordZ (V1 0) 16 = wordZ (V 0) 16 + 1 ∧ ∀ m, 1 ≤ m → m ≤ wordZ (V 0) 16 → HeldP (V 0) m)) (hr : ∀ a, a + 1 < 16 → wordZ (V1 0) a = wordZ (V 0) a) (hc : cnt1 = max (max cnt 1) (n + 1)) (hnt : n ≤ wordZ (V1 0) 16) :
    MdAt w1 (fun k => w.heap.size ≤ k ∧ ¬ Grow wr ok w1 k) mb hv tv L T R ∧ n ∉ L ∧ ∀ w2 hv' tv' k z, k ≤ L.length → (∀ y ∈ L.take k, y < n) → (∀ y, L[k]? = some y → n ≤ y) → MdAt w2 (fun k => w1.heap.size ≤ k) mb hv' tv' (L.take k ++ [n] ++ L.drop k) (T.take k ++ [(z, 512)] ++ T.drop k) R → w1.grownBy w2 (some mb) →
      U8.R 5 w2 0 (fun k => k = z) (.slice (some ⟨z, 0, none⟩) 512 512) zeros → w1.heap.size ≤ z → z < w2.heap.size →
      MS w w2 g B V1 cnt1 (Grow wr ok w1) mb hv' tv' (L.take k ++ [n] ++ L.drop k) (T.take k ++ [(z, 512)] ++ T.drop k) R (N + 1) ∧ AF mb wr ok tv w2 (Grow wr ok w1) tv' ∧ wordZ (V1 0) 16 ≤ max (wordZ (V 0) 16) ((L.take k ++ [n] ++ L.drop k).length : Int) := by
  have ht : wordZ (V1 0) 16 = wordZ (V 0) 16 ∨ wordZ (V1 0) 16 = wordZ (V 0) 16 + 1 := ht2.imp id (fun h => h.1)
  have hm1 := h.mm.move (w' := w1) (ok' := Grow wr ok w1) hF.fr.size (fun k hk hn _ => hF.fr.block k hk hn) (fun k hk => hk.elim .inl (fun h => .inr h.1))
  have hnL : n ∉ L := fun hn => hno ((h.held n).2 hn)
  refine ⟨hm1.md, hnL, fun w2 hv' tv' k z hk hlo hhi hmd hg hz hz1 hz2 => ?_⟩
  have hs := h.fs.below.size
  have hs1 := hF.fr.size
  have hlen : (L.take k).length = k := by rw [List.length_take]; omega
  have hlenT : (T.take k).length = k := by rw [List.length_take, h.mm.md.tl]; omega
  have hnok : ∀ j, w1.heap.size ≤ j → ¬ Grow wr ok w1 j := fun j hj hk' => hk'.elim (fun h' => by have := h.fs.lt j h'; omega) (fun h' => by omega)
  have hgt : ∀ y ∈ L.drop k, n < y := by
    intro y hy
    obtain ⟨i, hi⟩ := List.getElem?_of_mem hy
    rw [List.getElem?_drop] at hi
    have hne : n ≠ y := fun e => hnL (by rw [e]; exact List.mem_of_getElem? hi)
    rcases Nat.eq_zero_or_pos i with e | e
    · subst e
      have := hhi y (by simpa using hi)
      omega
    · have hkl : k < L.length := by have := (List.getElem?_eq_some_iff.1 hi).1; omega
      have h2 := hhi _ (List.getElem?_eq_getElem hkl)
      have h3 := (List.getElem?_eq_some_iff.1 hi)
      obtain ⟨h4, h5⟩ := h3
      have h6 := List.pairwise_iff_getElem.1 h.srt k (k + i) hkl h4 (by omega)
      omega
  refine ⟨⟨hF.st.grown hg (fun k hk => by injection hk with hk; subst hk; exact ⟨hm1.okm.2, hm1.okm.1⟩), ⟨hmd.move rfl (fun _ _ _ => rfl) (fun k hk hp => ⟨by omega, hnok k hp⟩), hm1.okm, fun i p t h1 h2 => ?_⟩, ?_, fun m => ?_, fun i hi => by rw [hr (2 * i) (by omega)]; exact h.root i hi, by have := h.top; omega, ?_, by rw [hc]; have := h.cb; have := h.fs.top0; omega⟩, ?_, ?_⟩
  · -- the texts
    by_cases hik : i = k
    · subst hik
      rw [List.append_assoc, List.getElem?_append_right (by omega), hlen, Nat.sub_self] at h1
      rw [List.append_assoc, List.getElem?_append_right (by omega), hlenT, Nat.sub_self] at h2
      obtain rfl : n = p := by simpa using h1
      obtain rfl : (z, 512) = t := by simpa using h2
      rw [hV n (by omega), if_pos rfl]
      exact ⟨hz, by omega, hnok z hz1⟩
    · have hidx : ∃ i' : Nat, L[i']? = some p ∧ T[i']? = some t := by
        by_cases hi : i < k
        · refine ⟨i, ?_, ?_⟩
          · rw [List.append_assoc, List.getElem?_append_left (by omega), List.getElem?_take, if_pos hi] at h1; exact h1
          · rw [List.append_assoc, List.getElem?_append_left (by omega), List.getElem?_take, if_pos hi] at h2; exact h2
        · refine ⟨k + (i - (k + 1)), ?_, ?_⟩
          · rw [List.getElem?_append_right (by simp; omega), List.getElem?_drop, List.length_append, hlen] at h1; exact h1
          · rw [List.getElem?_append_right (by simp; have := h.mm.md.tl; omega), List.getElem?_drop, List.length_append, hlenT] at h2; exact h2
      obtain ⟨i', h3, h4⟩ := hidx
      obtain ⟨h5, h6, h7⟩ := hm1.text i' p t h3 h4
      have hpL := List.mem_of_getElem? h3
      have hp1 := h.pos hpL
      rw [hV p (by omega), if_neg (fun e => hnL (by rw [← e]; exact hpL))]
      refine ⟨Kd.R_step h5 (fun k hk hl => hg.block k hl (fun e => ?_)), h6, h7⟩
      injection e with e
      obtain ⟨cs, hcs⟩ := own_typed (Kd.own_of_R h5) k (by have hk' : k = t.1 := hk; rw [hk']; rfl)
      rw [e, hm1.md.blk] at hcs
      injection hcs with hcs
      injection hcs with _ hcs
      exact absurd hcs (by decide)
  · rw [List.append_assoc, List.pairwise_append]
    refine ⟨h.srt.sublist (List.take_sublist _ _), ?_, fun a ha b hb => ?_⟩
    · rw [List.singleton_append, List.pairwise_cons]
      exact ⟨hgt, h.srt.sublist (List.drop_sublist _ _)⟩
    · have h1 := hlo a ha
      rcases List.mem_cons.1 hb with e | e
      · omega
      · have := hgt b e; omega
  · rw [hh m, h.held m]
    conv => lhs; rhs; rw [← List.take_append_drop k L]
    simp only [List.mem_append, List.mem_singleton]
    constructor
    · rintro (h | h | h)
      · exact .inl (.inr h)
      · exact .inl (.inl h)
      · exact .inr h
    · rintro ((h | h) | h)
      · exact .inr (.inl h)
      · exact .inl h
      · exact .inr (.inr h)
  · have := h.len
    simp; omega
  · refine (AF.fr (mb := mb) (tv := tv) hF.fr).trans ⟨hg.size, fun _ h => .inl h, fun k hk _ hne _ => hg.block k hk (fun e => hne (by injection e)), fun k hk => .inr (hmd.text.1 k hk)⟩
  · rcases ht2 with h1 | ⟨h1, h2⟩
    · rw [h1]; exact Int.le_max_left _ _
    · have h3 : (wordZ (V 0) 16).toNat ≤ L.length := cover _ _ (fun m h0 h4 => (h.held m).1 (h2 m h0 (by have := h.fs.top0; omega)))
      have h4 := h.fs.top0
      have h5 : (L.take k ++ [n] ++ L.drop k).length = L.length + 1 := by simp; omega
      rw [h1, h5]
      omega

/-- SetRoot, then the model's -/
theorem MS.rooted (h : MS w wr g B V cnt ok mb hv tv L T R N) {i v : Int} (h0 : 0 ≤ i) (h1 : i < 8) (v0 : 0 ≤ v) (v1 : v < 4096) (hL : FLeft wr g B M0 (fun y => if y = 0 then setZ (V 0) (2 * i.toNat) v else V y) (max cnt 1) ok w1) :
    (∀ j, w1.cell? ⟨mb, j, none⟩ = wr.cell? ⟨mb, j, none⟩) ∧ w1.frozen? ⟨mb, 2 + i.toNat, none⟩ = false ∧ MS w (w1.setCell ⟨mb, 2 + i.toNat, none⟩ (.int .i64 v)) g B (fun y => if y = 0 then setZ (V 0) (2 * i.toNat) v else V y) (max cnt 1) (Grow wr ok w1) mb hv tv L T (R.set i.toNat v) N ∧ AF mb wr ok tv (w1.setCell ⟨mb, 2 + i.toNat, none⟩ (.int .i64 v)) (Grow wr ok w1) tv ∧ wordZ ((fun y => if y = 0 then setZ (V 0) (2 * i.toNat) v else V y) 0) 16 ≤ max (wordZ (V 0) 16) (L.length : Int) := by
  have hG := root_good h.fs.good (i := i.toNat) (by omega) v0 v1
  obtain ⟨hg1, ht1, hr1, hh1⟩ := hG
  have hF := h.fs.of_left hL (by rw [if_pos rfl]; exact hg1)
  have hm1 := h.mm.move (w' := w1) (ok' := Grow wr ok w1) hF.fr.size (fun k hk hn _ => hF.fr.block k hk hn) (fun k hk => hk.elim .inl (fun h => .inr h.1))
  obtain ⟨b2, g2⟩ := md_set hm1.md.blk (2 + i.toNat) (.int .i64 v)
  have e1 : (hv :: tv :: List.map (Value.int .i64) R).set (2 + i.toNat) (.int .i64 v) = hv :: tv :: List.map (Value.int .i64) (R.set i.toNat v) := by
    rw [show 2 + i.toNat = i.toNat + 1 + 1 by omega]
    simp [List.map_set]
  rw [e1] at b2
  refine ⟨fun j => World.cell?_of_block (hF.fr.block mb h.mm.lt h.mm.okm.2), frozen_of_cells hm1.md.blk _, ⟨hF.st.grown g2 (fun k hk => by injection hk with hk; subst hk; exact ⟨hm1.okm.2, hm1.okm.1⟩), ⟨⟨b2, by rw [List.length_set]; exact h.mm.md.rl, Kd.R_set hm1.md.held hm1.md.blk ne_i _ _, Kd.R_set hm1.md.text hm1.md.blk ne_t _ _, hm1.md.tl⟩, hm1.okm, fun j p t h2 h3 => ?_⟩, h.srt, fun m => by rw [if_pos rfl, hh1 m]; exact h.held m, fun j hj => ?_, by rw [if_pos rfl, ht1]; exact h.top, h.len, by rw [if_pos rfl, ht1]; have := h.cb; have := h.fs.top0; omega⟩, (AF.fr (mb := mb) (tv := tv) hF.fr).trans ⟨g2.size, fun _ h => .inl h, fun k hk _ hne _ => g2.block k hk (fun e => hne (by injection e)), fun k hk => .inl hk⟩, by show wordZ (if (0 : Int) = 0 then _ else _) 16 ≤ _; rw [if_pos rfl, ht1]; exact Int.le_max_left _ _⟩
  · obtain ⟨h5, h6, h7⟩ := hm1.text j p t h2 h3
    have hp1 := h.pos (List.mem_of_getElem? h2)
    rw [if_neg (by omega)]
    refine ⟨Kd.R_step h5 (fun k hk hl => g2.block k hl (fun e => ?_)), h6, h7⟩
    injection e with e
    obtain ⟨cs, hcs⟩ := own_typed (Kd.own_of_R h5) k (by have hk' : k = t.1 := hk; rw [hk']; rfl)
    rw [e, hm1.md.blk] at hcs
    injection hcs with hcs
    injection hcs with _ hcs
    exact absurd hcs (by decide)
  · rw [if_pos rfl, hr1 j hj]
    rw [List.getElem?_set]
    have hl := h.mm.md.rl
    by_cases e : j = i.toNat
    · rw [if_pos e, if_pos e.symm, if_pos (by omega)]
    · rw [if_neg e, if_neg (fun h => e h.symm)]
      exact h.root j hj

/-- Write, other rows turned, then the model's text at its place -/
theorem MS.wrote (h : MS w wr g B V cnt ok mb hv tv L T R N) {n : Int} {j : Nat} (hj : L[j]? = some n) {bs : Bytes} {ok1 : Nat → Prop} {W : World} (hF : FS w W g B M0 (fun y => if y = n then bs else V y) (max cnt (n + 1)) ok1) (hM : MM w W ok1 mb hv tv L T R V) (hA : AF mb wr ok tv W ok1 tv)
    {t : Nat × Nat} (hR : U8.R 5 W 0 (fun k => k = t.1) (.slice (some ⟨t.1, 0, none⟩) 512 t.2) bs) (ht : w.heap.size ≤ t.1 ∧ ¬ ok1 t.1) :
    ∃ tb tc, tv = .slice (some ⟨tb, 0, none⟩) L.length tc ∧ j < L.length ∧ W.cell? ⟨mb, 1, none⟩ = some tv ∧ W.frozen? ⟨tb, j, none⟩ = false ∧ (∃ u, W.cell? ⟨tb, j, none⟩ = some u ∧ ∃ t' : Nat × Nat, T[j]? = some t' ∧ u = .slice (some ⟨t'.1, 0, none⟩) 512 t'.2) ∧
      MS w (W.setCell ⟨tb, j, none⟩ (.slice (some ⟨t.1, 0, none⟩) 512 t.2)) g B (fun y => if y = n then bs else V y) (max cnt (n + 1)) ok1 mb hv tv L (T.set j t) R N ∧ AF mb wr ok tv (W.setCell ⟨tb, j, none⟩ (.slice (some ⟨t.1, 0, none⟩) 512 t.2)) ok1 tv ∧ wordZ ((fun y => if y = n then bs else V y) 0) 16 ≤ max (wordZ (V 0) 16) (L.length : Int) := by
  have hjl := (List.getElem?_eq_some_iff.1 hj).1
  have hnL : n ∈ L := List.mem_of_getElem? hj
  have hn1 := h.pos hnL
  have htl := h.mm.md.tl
  obtain ⟨tb, tc, hte, _, _, cs, hcs⟩ := Kd.R_form hM.md.text (by omega)
  rw [htl] at hte
  subst hte
  have hcell := Kd.R_celln (0, 0) hM.md.text (j : Int) (by omega) (by omega)
  rw [Int.toNat_natCast] at hcell
  obtain ⟨hput, hg⟩ := Kd.R_putg hM.md.text (j : Int) t
  rw [Int.toNat_natCast] at hput hg
  have hty : ∀ k cs' q, W.heap[k]? = some (.cells cs' q (0, 0)) → q ≠ 48 → k ≠ tb := fun k cs' q hk hq e => by
    rw [e, hcs] at hk
    injection hk with hk
    injection hk with _ hk
    exact hq hk.symm
  have hmb : mb ≠ tb := hty mb _ _ hM.md.blk (by decide)
  have hu8 : ∀ {P : Nat → Prop} {t' : Nat × Nat} {bs' : Bytes}, U8.R 5 W 0 P (.slice (some ⟨t'.1, 0, none⟩) 512 t'.2) bs' → t'.1 ≠ tb := fun hR' => by
    obtain ⟨cs', h'⟩ := own_typed (Kd.own_of_R hR') _ rfl
    exact hty _ _ _ h' (by decide)
  have tbP := hM.md.text.1 tb rfl
  refine ⟨tb, tc, rfl, hjl, hM.md.c1, hcell.2, ⟨_, hcell.1, _, ?_, rfl⟩, ⟨hF.grown hg (fun k hk => by injection hk with hk; subst hk; exact ⟨tbP.2, tbP.1⟩), ⟨⟨(hg.block mb hM.lt (fun e => hmb (by injection e))).trans hM.md.blk, hM.md.rl, ?_, hput, by rw [List.length_set]; exact htl⟩, hM.okm, fun i p t' h2 h3 => ?_⟩, h.srt, fun m => by rw [if_neg (by omega)]; exact h.held m, fun i hi => by rw [if_neg (by omega)]; exact h.root i hi, by rw [if_neg (by omega)]; exact h.top, h.len, ?_⟩, ?_, by show wordZ (if (0 : Int) = n then _ else _) 16 ≤ _; rw [if_neg (by omega)]; exact Int.le_max_left _ _⟩
  · show T[j]? = some (rdOf (0, 0) T (j : Int))
    rw [List.getElem?_eq_getElem (by omega)]
    simp [rdOf, List.getD_eq_getElem?_getD, show j < T.length by omega]
  · refine Kd.R_of_own (own_at_heap (Kd.own_of_R hM.md.held) (fun k hk => hg.block k (own_lt (Kd.own_of_R hM.md.held) k hk) (fun e => ?_))) hM.md.held.1
    injection e with e
    obtain ⟨cs', h'⟩ := own_typed (Kd.own_of_R hM.md.held) k hk
    exact hty _ _ _ h' (by decide) e
  · rw [List.getElem?_set] at h3
    by_cases e : j = i
    · subst e
      rw [if_pos rfl, if_pos (by omega)] at h3
      injection h3 with h3
      subst h3
      rw [hj] at h2
      injection h2 with h2
      subst h2
      rw [if_pos rfl]
      exact ⟨Kd.R_step hR (fun k hk hl => hg.block k hl (fun e => by injection e with e; exact hu8 hR (by rw [← e]; exact hk.symm))), ht⟩
    · rw [if_neg e] at h3
      obtain ⟨h5, h6, h7⟩ := hM.text i p t' h2 h3
      have hpn : p ≠ n := by
        rintro rfl
        obtain ⟨a1, a2⟩ := List.getElem?_eq_some_iff.1 hj
        obtain ⟨b1, b2⟩ := List.getElem?_eq_some_iff.1 h2
        rcases Nat.lt_or_gt_of_ne e with hlt | hlt
        · have := List.pairwise_iff_getElem.1 h.srt j i a1 b1 hlt; omega
        · have := List.pairwise_iff_getElem.1 h.srt i j b1 a1 hlt; omega
      rw [if_neg hpn]
      exact ⟨Kd.R_step h5 (fun k hk hl => hg.block k hl (fun e => by injection e with e; exact hu8 h5 (by rw [← e]; exact hk.symm))), h6, h7⟩
  · rw [if_neg (by omega)]
    have := h.cb
    have h1 := ((h.held n).2 hnL).2.1
    omega
  · exact hA.trans ⟨hg.size, fun _ h => .inl h, fun k hk _ _ hne => hg.block k hk (fun e => hne (by injection e with e; rw [e]; rfl)), fun k hk => .inl hk⟩
end

/-- Bytes, at a row of its own -/
theorem bytes_row {W : World} {r n c : Nat} {l : Bytes} (hR : U8.R 5 W 0 (fun k => k = r) (.slice (some ⟨r, 0, none⟩) n c) l) (hl : l.length ≤ 1000000) :
    Calls Tryz.prog 66 #[.slice (some ⟨r, 0, none⟩) n c] W fun e w' => e = .returned (.tuple #[]) ∧ W.grownBy w' (some r) := by
  have hr : r < W.heap.size := own_lt (Kd.own_of_R hR) r rfl
  obtain ⟨w0, hw0⟩ : ∃ w0 : World, w0 = { W with heap := W.heap.extract 0 r } := ⟨_, rfl⟩
  have hs0 : w0.heap.size = r := by rw [hw0]; simp; omega
  have hB : Below w0.heap.size w0 W := by
    rw [hs0, hw0]
    refine ⟨rfl, rfl, rfl, by simp; omega, fun k hk => ?_⟩
    simp [Array.getElem?_extract, hk]
    omega
  have hR' : U8.R 5 W w0.heap.size (fun k => k = r) (.slice (some ⟨r, 0, none⟩) n c) l := by
    refine Kd.R_of_own ?_ hR.1
    rw [hs0]
    obtain ⟨h1, h2⟩ := Kd.own_of_R hR
    refine ⟨h1, ?_⟩
    rcases h2 with ⟨h2, _⟩ | ⟨g, cap, cur, h2, h3, h4⟩
    · cases h2
    · injection h2 with h5 h6 h7
      injection h5 with h5
      injection h5 with h5
      subst h5
      exact .inr ⟨r, cap, cur, by rw [h6, h7], Nat.le_refl _, by rw [← h6] at *; exact h4⟩
  refine (bytes_any hB hR' hl).mono ?_
  rintro e w' ⟨rfl, hb, hk⟩
  refine ⟨rfl, hb.os.trans hB.os.symm, hb.tape.trans hB.tape.symm, hb.output.trans hB.output.symm, hk.1, fun k h1 h2 => hk.2 k h1 (fun e => h2 (by rw [e]))⟩
end Go.Proofs.YtmdpgjdepflbmaaGreat

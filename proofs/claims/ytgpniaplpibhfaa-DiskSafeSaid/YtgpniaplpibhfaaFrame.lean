/-
  How a script comes in: what its reading says of the memory.
-/
import Derived.Test.YtgpniaplpibhfaaPlain
import Derived.Test.YtgpniaplpibhfaaWSized
import Derived.Deep.Slices
import Derived.Deep.Fields
import Derived.ChangeSame
import Derived.Lib.SmallJoins
import Derived.SizedLaws
import Derived.ChangeOld
import Derived.ShutString
import Derived.WalkKit
import Derived.ProofKit
namespace Go.Proofs.Ytgpniaplpibhfaa
open Go.ChangeShapes Go.WideShapes Go.ChangeAt Go.RowKit Go.Deep Go.Joins Go.Maps Go.Proofs.YtgpniaplpibhfaaW.PrintWords Go.Proofs.YtgpniaplpibhfaaW.PrintLast Go.Proofs.YtgpniaplpibhfaaW.PrintMore
open Go.Proofs.Ytgpniaplpibhfaa.PDiskSafe
set_option linter.unusedVariables false
set_option linter.unusedSimpArgs false

section
variable {H : Type} {enc : TypeId × Value → H} {P : Program} {w : World} {base : Nat} {spare : Nat → Bool} {held : Bool}

/-! ### weights of parts -/
theorem weights_each {ts : List TypeId} {ds : List (DataW H)} {j : Nat} {t : TypeId} {q : DataW H} (ht : ts[j]? = some t) (hd : ds[j]? = some q) {n : Nat} (hn : n ∈ q.weights P t) : n ∈ DataW.weightsEach P ts ds := DataW.weights_mem_each ht hd n hn
theorem weights_all {e : TypeId} {ds : List (DataW H)} {q : DataW H} (hd : q ∈ ds) {n : Nat} (hn : n ∈ q.weights P e) : n ∈ DataW.weightsAll P e ds := by
  induction ds with
  | nil => simp at hd
  | cons d ds ih =>
    simp only [DataW.weightsAll, List.mem_append]
    rcases List.mem_cons.1 hd with rfl | hd
    · exact .inl hn
    · exact .inr (ih hd)
theorem weights_agg {t : TypeId} {fs : Array Field} (hs : P.underlying t = some (.struct fs)) {parts : List (DataW H)} {j : Nat} {f : Field} {q : DataW H} (hf : fs[j]? = some f) (hq : parts[j]? = some q) {n : Nat} (hn : n ∈ q.weights P f.type) : n ∈ (DataW.agg parts).weights P t := by
  simp only [DataW.weights, hs]
  exact weights_each (by rw [List.getElem?_map, Array.getElem?_toList, hf]; rfl) hq hn
theorem weights_elem {t e : TypeId} (ht : P.underlying t = some (.slice e)) {elems rest : List (DataW H)} {q : DataW H} (hq : q ∈ elems) {n : Nat} (hn : n ∈ q.weights P e) : n ∈ (DataW.slice elems rest).weights P t := by
  simp only [DataW.weights, ht]
  exact List.mem_cons_of_mem _ (List.mem_append_left _ (weights_all hq hn))
theorem weights_row {t e : TypeId} (ht : P.underlying t = some (.slice e)) {elems rest : List (DataW H)} : (elems.length + rest.length) * P.bytesOf e ∈ (DataW.slice elems rest).weights P t := by
  simp only [DataW.weights, ht]
  exact List.mem_cons_self

/-! ### slices of structs, the general form (howto/extra-structs.md) -/
theorem open_slice_fields {t e : TypeId} {fs : Array Field} {fuel : Nat} {cs : List Value} {x : DataW H × List MemPlace} (ht : P.underlying t = some (.slice e)) (he : P.underlying e = some (.struct fs))
    (hone : oneCellFields P fs = true) (hC : P.cellsOf e = fs.size) (h : DataW.trod enc P w base spare held fuel t cs = some x) :
    (cs = [.slice none 0 0] ∧ x = (.nil, [])) ∨
    ∃ (a : Addr) (len cap m : Nat) (D : Nat → DataW H) (Pl : Nat → List MemPlace), cs = [.slice (some a) len cap] ∧ base ≤ a.block ∧ len ≤ cap ∧ cap ≤ maxLen ∧ m = (if spare a.block then cap else len) ∧
      x = (.slice ((List.range len).map D) ((List.range (m - len)).map fun j => D (len + j)), MemPlace.row a (m * fs.size) ++ (List.range m).flatMap Pl) ∧
      ∀ i, i < m → ∃ (ys : List (DataW H × List MemPlace)) (n : Nat), D i = .agg (ys.map (·.1)) ∧ Pl i = ys.flatMap (·.2) ∧ ys.length = fs.size ∧
        ∀ (j : Nat) (f : Field), fs[j]? = some f → ∃ (v : Value) (y : DataW H × List MemPlace), w.cell? (a.add (i * fs.size + j)) = some v ∧ ys[j]? = some y ∧ DataW.trod enc P w base spare held n f.type [v] = some y := by
  rcases open_slice ht h with h0 | ⟨a, len, cap, m, n, D, Pl, hcs, hb, hl, hm, hmm, hx, hi⟩
  · exact .inl h0
  · refine .inr ⟨a, len, cap, m, D, Pl, hcs, hb, hl, hm, hmm, by rw [hC] at hx; exact hx, fun i him => ?_⟩
    obtain ⟨cs', hc, ht'⟩ := hi i him
    rw [hC] at hc
    obtain ⟨ys, n', hn', hy, hlen, hyl, hf⟩ := DataW.trod_struct he ht'
    obtain ⟨_, hcl, hat⟩ := World.cells?_some hc
    simp only [Prod.mk.injEq] at hy
    refine ⟨ys, n', hy.1, hy.2, hyl, fun j f hj => ?_⟩
    obtain ⟨ho, hk⟩ := hone_of hone j f hj
    have hjl : j < fs.size := (Array.getElem?_eq_some_iff.1 hj).1
    have hcell := hat j hjl
    have hv : cs'[j]? = some (cs'[j]'(by omega)) := List.getElem?_eq_getElem (by omega)
    have h1 := hf j f hj
    rw [ho, hk] at h1
    have hone' : (cs'.drop j).take 1 = [cs'[j]'(by omega)] := by
      rw [List.drop_eq_getElem_cons (by omega)]
      rfl
    rw [hone'] at h1
    have hys : ys[j]? = some (ys[j]'(by omega)) := List.getElem?_eq_getElem (by omega)
    refine ⟨_, _, ?_, hys, h1.trans hys⟩
    rw [← Go.Deep.add_add, hcell, hv]

/-- a row of integers that comes in, in a field; what its weight says -/
theorem open_row {t e : TypeId} {k : IntKind} {fuel : Nat} {v : Value} {y : DataW H × List MemPlace} (ht : P.underlying t = some (.slice e)) (he : P.underlying e = some (.int k)) (hc : P.cellsOf e = 1)
    (h : DataW.trod enc P w base (fun _ => true) held fuel t [v] = some y) :
    ∃ A c l, v = .slice A (l : List Int).length c ∧ l.length ≤ c ∧ (Kd.int k).C w A l.length l ∧ (∀ n ∈ l, (Lit.int k n).wf = true) ∧ ∀ N, (∀ n ∈ y.1.weights P t, n ≤ N) → l.length * P.bytesOf e ≤ N := by
  rcases open_ints ht he hc h with ⟨hcs, hx⟩ | ⟨x, len, c, zs, hcs, hb, hl, hm, hz, hx, hcell, hwz⟩
  · simp at hcs
    exact ⟨none, 0, [], hcs, Nat.zero_le _, ⟨rfl, Nat.zero_le _, fun h => absurd h (Nat.lt_irrefl _)⟩, by simp, fun N _ => by simp⟩
  · simp at hcs
    subst hcs
    have hz' : zs.length = c := by simpa using hz
    obtain ⟨l, e1, hr, hml, hwl, hcl⟩ := ReadsInt.ofRowC (k := k) (w := w) (a := some x) (len := len) (cap := c) (zs := zs) (.inr ⟨x, rfl, hl, hm, hz', hcell, hwz⟩)
    subst e1
    refine ⟨some x, c, l, rfl, hcl, Kd.C_of_reads (d := (0 : Int)) (h1 := fun _ => rfl) hr, hwl, fun N hN => ?_⟩
    rw [hx] at hN
    have := hN _ (weights_row ht)
    have h2 : (lits k (zs.take l.length) : List (DataW H)).length = l.length := by simp [lits]; omega
    rw [h2] at this
    exact Nat.le_trans (Nat.mul_le_mul_right _ (Nat.le_add_right _ _)) this

/-- a slice of structs that comes in, element by element -/
theorem open_rows {α : Type} (d : Kd α) (z : α) (Q : α → DataW H → Prop) {t e : TypeId} {fs : Array Field} {fuel : Nat} {v : Value} {y : DataW H × List MemPlace} (ht : P.underlying t = some (.slice e)) (he : P.underlying e = some (.struct fs))
    (hone : oneCellFields P fs = true) (hC : P.cellsOf e = fs.size) (hd : d.sz = fs.size)
    (elem : ∀ (ys : List (DataW H × List MemPlace)) (n : Nat) (vs : List Value), ys.length = fs.size → vs.length = fs.size → (∀ (j : Nat) (f : Field), fs[j]? = some f → ∃ v y, vs[j]? = some v ∧ ys[j]? = some y ∧ DataW.trod enc P w base (fun _ => true) held n f.type [v] = some y) → ∃ p, d.K w p vs ∧ Q p (.agg (ys.map (·.1))))
    (h : DataW.trod enc P w base (fun _ => true) held fuel t [v] = some y) :
    ∃ A c l, v = .slice A (l : List α).length c ∧ l.length ≤ c ∧ Kd.C d w A l.length l ∧ ∀ j, j < l.length → ∃ q, Q (l.getD j z) q ∧ ∀ n ∈ q.weights P e, n ∈ y.1.weights P t := by
  rcases open_slice_fields ht he hone hC h with ⟨hcs, hx⟩ | ⟨a, len, c, m, D, Pl, hcs, hb, hl, hm, hmm, hx, hi⟩
  · simp at hcs
    exact ⟨none, 0, [], hcs, Nat.zero_le _, ⟨rfl, Nat.zero_le _, fun h => absurd h (Nat.lt_irrefl _)⟩, fun j hj => absurd hj (Nat.not_lt_zero _)⟩
  · simp at hcs
    subst hcs
    have hm' : m = c := by simpa using hmm
    subst hm'
    have key : ∀ i, i < len → ∃ p : α, (∃ vs : List Value, vs.length = fs.size ∧ d.K w p vs ∧ ∀ j u, vs[j]? = some u → w.cell? (a.add (i * fs.size + j)) = some u) ∧ Q p (D i) := by
      intro i hil
      obtain ⟨ys, n, hD, _, hyl, hf⟩ := hi i (by omega)
      have hv : ∀ j, j < fs.size → ∃ v, w.cell? (a.add (i * fs.size + j)) = some v := fun j hj => by
        obtain ⟨v, y, h1, _, _⟩ := hf j _ (Array.getElem?_eq_getElem hj)
        exact ⟨v, h1⟩
      have hvs : (∀ j, j < fs.size → ((List.range fs.size).map (fun j => (w.cell? (a.add (i * fs.size + j))).getD undef))[j]? = w.cell? (a.add (i * fs.size + j))) := fun j hj => by
        obtain ⟨v, hv⟩ := hv j hj
        rw [List.getElem?_map, List.getElem?_range hj, hv]; simp [hv]
      obtain ⟨p, hK, hQ⟩ := elem ys n ((List.range fs.size).map (fun j => (w.cell? (a.add (i * fs.size + j))).getD undef)) hyl (by simp) (fun j f hj => by
        obtain ⟨v, y, h1, h2, h3⟩ := hf j f hj
        exact ⟨v, y, by rw [hvs j (Array.getElem?_eq_some_iff.1 hj).1, h1], h2, h3⟩)
      refine ⟨p, ⟨_, by simp, hK, fun j u hu => ?_⟩, by rw [hD]; exact hQ⟩
      have hj : j < fs.size := by
        have := (List.getElem?_eq_some_iff.1 hu).1
        simpa using this
      rw [hvs j hj] at hu
      exact hu
    obtain ⟨T, hT⟩ : ∃ T : Nat → α, ∀ i, i < len → (∃ vs : List Value, vs.length = fs.size ∧ d.K w (T i) vs ∧ ∀ j u, vs[j]? = some u → w.cell? (a.add (i * fs.size + j)) = some u) ∧ Q (T i) (D i) := by
      classical
      exact ⟨fun i => if h : i < len then (key i h).choose else z, fun i h => by simp only [dif_pos h]; exact (key i h).choose_spec⟩
    refine ⟨some a, m, (List.range len).map T, by simp, by simpa using hl, ⟨by simp, by simp; unfold maxLen at hm; omega, fun _ => ⟨a, rfl, fun j p hj => ?_⟩⟩, fun j hj => ?_⟩
    · have hjl : j < len := by
        have := (List.getElem?_eq_some_iff.1 hj).1
        simpa using this
      rw [List.getElem?_map, List.getElem?_range hjl] at hj
      obtain rfl : T j = p := by simpa using hj
      obtain ⟨⟨vs, h1, h2, h3⟩, _⟩ := hT j hjl
      exact ⟨vs, by rw [hd, h1], h2, fun i u hu => by rw [hd]; exact h3 i u hu⟩
    · have hjl : j < len := by simpa using hj
      refine ⟨D j, ?_, fun n hn => ?_⟩
      · rw [List.getD_eq_getElem?_getD, List.getElem?_map, List.getElem?_range hjl]
        exact (hT j hjl).2
      · rw [hx]
        exact weights_elem ht (List.mem_map.2 ⟨j, List.mem_range.2 hjl, rfl⟩) hn
end

section
variable {H : Type} {enc : TypeId × Value → H} {w : World} {base : Nat} {held : Bool}
def Q50 (p : S50) (q : DataW H) : Prop := p.f0.size ≤ maxLen ∧ ∀ N, (∀ n ∈ q.weights Try.prog 50, n ≤ N) → p.f1.length ≤ N
def Q33 (p : S33) (q : DataW H) : Prop := ((Lit.int .i64 p.f0).wf = true ∧ (Lit.int .i64 p.f2).wf = true ∧ (Lit.int .i64 p.f3).wf = true ∧ p.f1.size ≤ maxLen ∧ ∀ x ∈ p.f5, (Lit.int .i64 x).wf = true) ∧ ∀ N, (∀ n ∈ q.weights Try.prog 33, n ≤ N) → p.f4.length ≤ N ∧ p.f5.length * 8 ≤ N
def fl50 : Array Field := #[{ name := "Name", type := 9, offset := 0, embedded := false, tag := "", pkgPath := "", byteOffset := 0 }, { name := "Data", type := 30, offset := 1, embedded := false, tag := "", pkgPath := "", byteOffset := 16 }]
def fl39 : Array Field := #[{ name := "At", type := 3, offset := 0, embedded := false, tag := "", pkgPath := "", byteOffset := 0 }, { name := "Kind", type := 3, offset := 1, embedded := false, tag := "", pkgPath := "", byteOffset := 8 }]
def fl33 : Array Field := #[{ name := "Do", type := 3, offset := 0, embedded := false, tag := "", pkgPath := "", byteOffset := 0 }, { name := "Name", type := 9, offset := 1, embedded := false, tag := "", pkgPath := "", byteOffset := 8 }, { name := "At", type := 3, offset := 2, embedded := false, tag := "", pkgPath := "", byteOffset := 24 }, { name := "N", type := 3, offset := 3, embedded := false, tag := "", pkgPath := "", byteOffset := 32 }, { name := "B", type := 30, offset := 4, embedded := false, tag := "", pkgPath := "", byteOffset := 40 }, { name := "Picks", type := 31, offset := 5, embedded := false, tag := "", pkgPath := "", byteOffset := 64 }]
def fl26 : Array Field := #[{ name := "Files", type := 22, offset := 0, embedded := false, tag := "", pkgPath := "", byteOffset := 0 }, { name := "Troubles", type := 23, offset := 1, embedded := false, tag := "", pkgPath := "", byteOffset := 24 }, { name := "L", type := 24, offset := 2, embedded := false, tag := "", pkgPath := "", byteOffset := 48 }]
theorem und50 : Try.prog.underlying 50 = some (.struct fl50) := Try.underlying50
theorem und39 : Try.prog.underlying 39 = some (.struct fl39) := Try.underlying39
theorem und33 : Try.prog.underlying 33 = some (.struct fl33) := Try.underlying33
theorem und26 : Try.prog.underlying 26 = some (.struct fl26) := Try.underlying26

theorem list2 {α : Type} {l : List α} {a b : α} (h : l.length = 2) (h0 : l[0]? = some a) (h1 : l[1]? = some b) : l = [a, b] := by
  match l, h with
  | [x, y], _ => simp at h0 h1; subst h0 h1; rfl
theorem list6 {α : Type} {l : List α} {a b c d e f : α} (h : l.length = 6) (h0 : l[0]? = some a) (h1 : l[1]? = some b) (h2 : l[2]? = some c) (h3 : l[3]? = some d) (h4 : l[4]? = some e) (h5 : l[5]? = some f) : l = [a, b, c, d, e, f] := by
  match l, h with
  | [x0, x1, x2, x3, x4, x5], _ => simp at h0 h1 h2 h3 h4 h5; subst h0 h1 h2 h3 h4 h5; rfl
theorem elem50 (ys : List (DataW H × List MemPlace)) (n : Nat) (vs : List Value) (hy : ys.length = fl50.size) (hv : vs.length = fl50.size)
    (hf : ∀ (j : Nat) (f : Field), fl50[j]? = some f → ∃ v y, vs[j]? = some v ∧ ys[j]? = some y ∧ DataW.trod enc Try.prog w base (fun _ => true) held n f.type [v] = some y) :
    ∃ p : S50, k50.K w p vs ∧ Q50 p (.agg (ys.map (·.1))) := by
  obtain ⟨v0, y0, a0, b0, t0⟩ := hf 0 _ rfl
  obtain ⟨v1, y1, a1, b1, t1⟩ := hf 1 _ rfl
  obtain ⟨s0, e0, _, ws0⟩ := DataW.trod_string Try.underlying9 t0
  simp at e0
  subst e0
  obtain ⟨A1, c1, l1, rfl, hc1, hC1, _, hN1⟩ := open_row Try.underlying30 Try.underlying5 (by kernel_rfl) t1
  obtain rfl := list2 hv a0 a1
  refine ⟨⟨s0, l1⟩, k50_mk w ⟨s0, l1⟩ hc1 hC1, ws0, fun N hN => ?_⟩
  have := hN1 N (fun m hm => hN m (weights_agg (f := fl50[1]) und50 rfl (by rw [List.getElem?_map, b1]; rfl) hm))
  rwa [show Try.prog.bytesOf 5 = 1 from by kernel_rfl, Nat.mul_one] at this
theorem elem39 (ys : List (DataW H × List MemPlace)) (n : Nat) (vs : List Value) (hy : ys.length = fl39.size) (hv : vs.length = fl39.size)
    (hf : ∀ (j : Nat) (f : Field), fl39[j]? = some f → ∃ v y, vs[j]? = some v ∧ ys[j]? = some y ∧ DataW.trod enc Try.prog w base (fun _ => true) held n f.type [v] = some y) :
    ∃ p : S39, k39.K w p vs ∧ True := by
  obtain ⟨v0, y0, a0, b0, t0⟩ := hf 0 _ rfl
  obtain ⟨v1, y1, a1, b1, t1⟩ := hf 1 _ rfl
  obtain ⟨n0, e0, _, _⟩ := DataW.trod_int Try.underlying3 t0
  obtain ⟨n1, e1, _, _⟩ := DataW.trod_int Try.underlying3 t1
  simp at e0 e1
  subst e0 e1
  obtain rfl := list2 hv a0 a1
  exact ⟨⟨n0, n1⟩, k39_mk w ⟨n0, n1⟩, trivial⟩
theorem elem33 (ys : List (DataW H × List MemPlace)) (n : Nat) (vs : List Value) (hy : ys.length = fl33.size) (hv : vs.length = fl33.size)
    (hf : ∀ (j : Nat) (f : Field), fl33[j]? = some f → ∃ v y, vs[j]? = some v ∧ ys[j]? = some y ∧ DataW.trod enc Try.prog w base (fun _ => true) held n f.type [v] = some y) :
    ∃ p : S33, k33.K w p vs ∧ Q33 p (.agg (ys.map (·.1))) := by
  obtain ⟨v0, y0, a0, b0, t0⟩ := hf 0 _ rfl
  obtain ⟨v1, y1, a1, b1, t1⟩ := hf 1 _ rfl
  obtain ⟨v2, y2, a2, b2, t2⟩ := hf 2 _ rfl
  obtain ⟨v3, y3, a3, b3, t3⟩ := hf 3 _ rfl
  obtain ⟨v4, y4, a4, b4, t4⟩ := hf 4 _ rfl
  obtain ⟨v5, y5, a5, b5, t5⟩ := hf 5 _ rfl
  obtain ⟨n0, e0, _, w0⟩ := DataW.trod_int Try.underlying3 t0
  obtain ⟨s1, e1, _, w1⟩ := DataW.trod_string Try.underlying9 t1
  obtain ⟨n2, e2, _, w2⟩ := DataW.trod_int Try.underlying3 t2
  obtain ⟨n3, e3, _, w3⟩ := DataW.trod_int Try.underlying3 t3
  simp at e0 e1 e2 e3
  subst e0 e1 e2 e3
  obtain ⟨A4, c4, l4, rfl, hc4, hC4, _, hN4⟩ := open_row Try.underlying30 Try.underlying5 (by kernel_rfl) t4
  obtain ⟨A5, c5, l5, rfl, hc5, hC5, hw5, hN5⟩ := open_row Try.underlying31 Try.underlying3 (by kernel_rfl) t5
  obtain rfl := list6 hv a0 a1 a2 a3 a4 a5
  refine ⟨⟨n0, s1, n2, n3, l4, l5⟩, k33_mk w ⟨n0, s1, n2, n3, l4, l5⟩ hc4 hC4 hc5 hC5, ⟨w0, w2, w3, w1, hw5⟩, fun N hN => ⟨?_, ?_⟩⟩
  · have := hN4 N (fun m hm => hN m (weights_agg (f := fl33[4]) und33 rfl (by rw [List.getElem?_map, b4]; rfl) hm))
    rwa [show Try.prog.bytesOf 5 = 1 from by kernel_rfl, Nat.mul_one] at this
  · have := hN5 N (fun m hm => hN m (weights_agg (f := fl33[5]) und33 rfl (by rw [List.getElem?_map, b5]; rfl) hm))
    rwa [show Try.prog.bytesOf 3 = 8 from by kernel_rfl] at this

theorem reach_le : reachBytes ≤ NB := by unfold NB reachBytes; exact Nat.le_of_ble_eq_true rfl
theorem reach_NB {n : Nat} (h : n ≤ reachBytes) : n ≤ NB := Nat.le_trans h reach_le
theorem reach8_NB {n : Nat} (h : n * 8 ≤ reachBytes) : n ≤ NB := Nat.le_trans (Nat.le_mul_of_pos_right n (Nat.succ_pos 7)) (reach_NB h)

theorem cells26 : Try.prog.cellsOf 26 = 3 := by kernel_rfl
theorem one26 : oneCellFields Try.prog fl26 = true := by kernel_rfl
set_option maxRecDepth 100000 in
/-- a script, as it comes in -/
theorem script_in {b0 : Nat} {v : Value} {d : DataW H} {p : List MemPlace} (hv : Value.okWide Try.prog w .any b0 26 v) (h : DataW.Trod enc Try.prog w base (fun _ => true) held 26 v d p)
    (hsz : (DataW.weightsEach Try.prog [26] [d]).all (· ≤ reachBytes) = true) :
    ∃ A0 c0 F A1 c1 T A2 c2 S, v = .agg #[.slice A0 F.length c0, .slice A1 T.length c1, .slice A2 S.length c2] ∧ In w A0 c0 F A1 c1 T A2 c2 S := by
  have hx := open_agg3 Try.underlying26 one26 cells26 hv h
  obtain ⟨v0, v1, v2, y0, y1, y2, n, rfl, rfl, rfl, t0, t1, t2⟩ := hx
  have hall : ∀ m ∈ (DataW.agg [y0.1, y1.1, y2.1]).weights Try.prog 26, m ≤ reachBytes := fun m hm => by
    have := List.all_eq_true.1 hsz m (weights_each (j := 0) rfl rfl hm)
    simpa using this
  obtain ⟨A0, c0, F, rfl, hc0, hC0, hQ0⟩ := open_rows k50 z50 Q50 Try.underlying22 und50 (by kernel_rfl) (by kernel_rfl) rfl elem50 t0
  obtain ⟨A1, c1, T, rfl, hc1, hC1, _⟩ := open_rows k39 z39 (fun _ _ => True) Try.underlying23 und39 (by kernel_rfl) (by kernel_rfl) rfl elem39 t1
  obtain ⟨A2, c2, S, rfl, hc2, hC2, hQ2⟩ := open_rows k33 z33 Q33 Try.underlying24 und33 (by kernel_rfl) (by kernel_rfl) rfl elem33 t2
  refine ⟨A0, c0, F, A1, c1, T, A2, c2, S, rfl, ⟨hC0, hc0, hC1, hc1, hC2, hc2, fun j hj => ?_, fun j hj => ?_, fun j hj => ?_, fun j hj => ?_⟩⟩
  · obtain ⟨q, hq, hw⟩ := hQ0 j hj
    exact reach_NB (hq.2 reachBytes (fun m hm => hall m (weights_agg (f := fl26[0]) und26 (j := 0) rfl rfl (hw m hm))))
  · obtain ⟨q, hq, hw⟩ := hQ2 j hj
    have := hq.2 reachBytes (fun m hm => hall m (weights_agg (f := fl26[2]) und26 (j := 2) rfl rfl (hw m hm)))
    exact ⟨reach_NB this.1, reach8_NB this.2⟩
  · obtain ⟨q, hq, hw⟩ := hQ0 j hj
    exact hq.1
  · obtain ⟨q, hq, hw⟩ := hQ2 j hj
    exact hq.1
end
end Go.Proofs.Ytgpniaplpibhfaa

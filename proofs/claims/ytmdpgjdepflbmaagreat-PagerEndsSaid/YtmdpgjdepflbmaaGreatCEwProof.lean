/-
  PagerEnds returns true for every script and leaves its argument as it was; it asks no condition.
-/
import Derived.Test.YtmdpgjdepflbmaaGreatCV
import Derived.Test.YtmdpgjdepflbmaaGreatCFacts
import Derived.ChangeOld
import Derived.ShutString
import Derived.Lib.SmallJoins
namespace Go.Proofs.YtmdpgjdepflbmaaGreat.pagerEndsP
open Go.ChangeShapes Go.WideShapes Go.ChangeAt Go.RowKit Go.Deep
set_option linter.unusedVariables false

theorem cellsE : Tryz.prog.cellsOf 42 = 3 := by kernel_rfl

section
variable {H : Type} {enc : TypeId × Value → H} {P : Program} {w : World} {base : Nat} {spare : Nat → Bool} {held : Bool}
theorem open_slice_fields {t e : TypeId} {fs : Array Field} {fuel : Nat} {cs : List Value} {x : DataW H × List MemPlace} (ht : P.underlying t = some (.slice e)) (he : P.underlying e = some (.struct fs))
    (hone : oneCellFields P fs = true) (hC : P.cellsOf e = fs.size) (h : DataW.trod enc P w base spare held fuel t cs = some x) :
    (cs = [.slice none 0 0] ∧ x = (.nil, [])) ∨
    ∃ (a : Addr) (len cap m : Nat) (D : Nat → DataW H) (Pl : Nat → List MemPlace), cs = [.slice (some a) len cap] ∧ base ≤ a.block ∧ len ≤ cap ∧ cap ≤ maxLen ∧ m = (if spare a.block then cap else len) ∧
      x = (.slice ((List.range len).map D) ((List.range (m - len)).map fun j => D (len + j)), MemPlace.row a (m * fs.size) ++ (List.range m).flatMap Pl) ∧
      ∀ i, i < m → ∃ (ys : List (DataW H × List MemPlace)) (n : Nat), D i = .agg (ys.map (·.1)) ∧ Pl i = ys.flatMap (·.2) ∧ ys.length = fs.size ∧
        ∀ (j : Nat) (f : Field), fs[j]? = some f → ∃ (v : Value) (y : DataW H × List MemPlace), w.cell? (a.add (i * fs.size + j)) = some v ∧ ys[j]? = some y ∧ DataW.trod enc P w base spare held n f.type [v] = some y := by
  rcases open_slice ht h with h0 | ⟨a, len, cap, m, n, D, Pl, hcs, hb, hl, hm, hmm, hx, hi⟩
  · exact .inl h0
  · refine .inr ⟨a, len, cap, m, D, Pl, hcs, hb, hl, hm, hmm, by rw [hC] at hx; exact hx, fun i him => ?_⟩
    obtain ⟨cs', hc, ht'⟩ := hi i him
    rw [hC] at hc
    obtain ⟨ys, n', hn', hy, hlen, hyl, hf⟩ := DataW.trod_struct he ht'
    obtain ⟨_, hcl, hat⟩ := World.cells?_some hc
    simp only [Prod.mk.injEq] at hy
    refine ⟨ys, n', hy.1, hy.2, hyl, fun j f hj => ?_⟩
    obtain ⟨ho, hk⟩ := hone_of hone j f hj
    have hjl : j < fs.size := (Array.getElem?_eq_some_iff.1 hj).1
    have hcell := hat j hjl
    have hv : cs'[j]? = some (cs'[j]'(by omega)) := List.getElem?_eq_getElem (by omega)
    have h1 := hf j f hj
    rw [ho, hk] at h1
    have hone' : (cs'.drop j).take 1 = [cs'[j]'(by omega)] := by
      rw [List.drop_eq_getElem_cons (by omega)]
      rfl
    rw [hone'] at h1
    have hys : ys[j]? = some (ys[j]'(by omega)) := List.getElem?_eq_getElem (by omega)
    refine ⟨_, _, ?_, hys, h1.trans hys⟩
    rw [← Go.Deep.add_add, hcell, hv]
end

theorem add_mid' (b o j : Nat) : (⟨b, o, none⟩ : Addr).add j = ⟨b, o + j, none⟩ := by unfold Addr.add; split <;> simp_all

set_option maxRecDepth 100000 in
theorem lifted (os : Os) (started : os.Started) (H : Type) (enc : TypeId × Value → H) :
    ReturnsInHanded {} Tryz.checked os 8 .any (Rows.pagerEndsSpec.pre6 enc Tryz.prog Tryz.f8 Rows.pagerEndsRow.domain false) (Rows.pagerEndsSpec.post enc Tryz.prog Tryz.f8 false true false false) := by
  refine returnsInHanded_of_change (C := Tryz.checked) fact.own started (by kernel_rfl) Tryz.func8
    (ChangeSpec.witness6 (enc := enc) (C := Tryz.checked) false ⟨#[], #[.agg #[.int .i64 0, .slice none 0 0, .slice none 0 0, .slice none 0 0]], []⟩ 8 (by kernel_rfl) (by kernel_rfl) (by kernel_rfl) (by kernel_rfl)) ?_
  intro W base args ds gs before hval0 hW hcnd _
  have hval : ∀ (j : Nat) t v, Tryz.f8.params[j]? = some t → args[j]? = some v → Value.okWide Tryz.prog W .any base t v := hval0
  have hW' := hW
  obtain ⟨p, q, hA0, hV, rfl, hfz, hnd⟩ := hW
  have hA : DataW.TrodAll enc Tryz.prog W 0 (fun _ => true) true Tryz.f8.params.toList args.toList ds p := hA0
  rw [Tryz.params8] at hA hval
  obtain ⟨v0, vs0, d0, ds0, p0, q0, hargs, rfl, rfl, h0, r0⟩ := trodAll_cons hA
  obtain ⟨rfl, rfl, rfl⟩ := trodAll_nil r0
  obtain rfl : args = #[v0] := by cases args; simp_all
  obtain ⟨rfl, rfl⟩ := trodVars_none hV
  have k0 := h0
  have lt0 : ∀ x ∈ p0, x.block < W.heap.size := by obtain ⟨m, hm⟩ := k0; exact DataW.trod_lt m _ _ _ hm
  obtain ⟨x0, x1, x2, x3, y0, y1, y2, y3, nn, rfl, rfl, rfl, t0, t1, t2, t3⟩ := Go.Joins.open_agg4 Tryz.underlying62 (by kernel_rfl) (by kernel_rfl) (hval 0 62 v0 rfl rfl) h0
  obtain ⟨md, e0, _, _⟩ := DataW.trod_int Tryz.underlying3 t0
  simp at e0
  subst e0
  obtain ⟨a0, len0, cap0, rfl⟩ : ∃ a l c, x1 = .slice a l c := by
    rcases open_slice Tryz.underlying58 t1 with ⟨hcs, _⟩ | ⟨a, len, cap, m, n, D, Pl, hcs, _⟩ <;> simp at hcs <;> exact ⟨_, _, _, hcs⟩
  obtain ⟨A1, n1, k1, rfl⟩ : ∃ a l c, x2 = .slice a l c := by
    rcases open_slice Tryz.underlying59 t2 with ⟨hcs, _⟩ | ⟨a, len, cap, m, n, D, Pl, hcs, _⟩ <;> simp at hcs <;> exact ⟨_, _, _, hcs⟩
  obtain ⟨A2, n2, k2, rfl⟩ : ∃ a l c, x3 = .slice a l c := by
    rcases open_slice Tryz.underlying60 t3 with ⟨hcs, _⟩ | ⟨a, len, cap, m, n, D, Pl, hcs, _⟩ <;> simp at hcs <;> exact ⟨_, _, _, hcs⟩
  obtain ⟨F0, F1, F2, hl0, w0⟩ : ∃ F0 F1 F2, len0 ≤ 9223372036854775807 ∧ Acts W a0 len0 F0 F1 F2 := by
    have hf := t1
    rcases open_slice_fields Tryz.underlying58 Tryz.underlying42 (by kernel_rfl) cellsE hf with ⟨hcs, _⟩ | ⟨x, l, c, m, D, Pl, hcs, _, hl, hm, hmm, hx, hi⟩
    · simp at hcs
      obtain ⟨rfl, rfl, rfl⟩ := hcs
      exact ⟨fun _ => 0, fun _ => 0, fun _ => 0, by omega, fun h => absurd h (by omega)⟩
    · simp at hcs
      obtain ⟨rfl, rfl, rfl⟩ := hcs
      have hm' : m = cap0 := by simpa using hmm
      subst hm'
      have key : ∀ i, i < len0 → ∃ t : Int × Int × Int, W.cell? (x.add (i * 3 + 0)) = some (.int .i64 t.1) ∧ W.cell? (x.add (i * 3 + 1)) = some (.int .i64 t.2.1) ∧ W.cell? (x.add (i * 3 + 2)) = some (.int .i64 t.2.2) := by
        intro i hi0
        obtain ⟨ys, n, _, _, _, hf⟩ := hi i (by omega)
        obtain ⟨v1, y1, hc1, _, ht1⟩ := hf 0 _ rfl
        obtain ⟨v2, y2, hc2, _, ht2⟩ := hf 1 _ rfl
        obtain ⟨v3, y3, hc3, _, ht3⟩ := hf 2 _ rfl
        obtain ⟨n1, e1, _, _⟩ := DataW.trod_int Tryz.underlying3 ht1
        obtain ⟨n2, e2, _, _⟩ := DataW.trod_int Tryz.underlying3 ht2
        obtain ⟨n3, e3, _, _⟩ := DataW.trod_int Tryz.underlying3 ht3
        simp at e1 e2 e3
        subst e1 e2 e3
        exact ⟨(n1, n2, n3), hc1, hc2, hc3⟩
      obtain ⟨T, hT⟩ : ∃ T : Nat → Int × Int × Int, ∀ i, i < len0 → W.cell? (x.add (i * 3 + 0)) = some (.int .i64 (T i).1) ∧ W.cell? (x.add (i * 3 + 1)) = some (.int .i64 (T i).2.1) ∧ W.cell? (x.add (i * 3 + 2)) = some (.int .i64 (T i).2.2) := by
        classical
        exact ⟨fun i => if h : i < len0 then (key i h).choose else (0, 0, 0), fun i h => by simp only [dif_pos h]; exact (key i h).choose_spec⟩
      refine ⟨fun i => (T i).1, fun i => (T i).2.1, fun i => (T i).2.2, by unfold maxLen at hm; omega, fun hpos => ?_⟩
      obtain ⟨b, off, spot⟩ := x
      have hspot : spot = none := by simpa [Addr.add] using World.cell?_spot (hT 0 hpos).1
      subst hspot
      refine ⟨b, off, rfl, ?_, fun i hi => ?_⟩
      · have h3 := (hT 0 hpos).1
        have h4 := World.block_lt_of_cell? _ _ h3
        rw [add_mid'] at h4
        exact h4
      · obtain ⟨h3, h4, h5⟩ := hT i hi
        rw [add_mid'] at h3 h4 h5
        exact ⟨h3, h4, h5⟩
  clear hA0 hval0
  refine (ends_any md a0 A1 A2 len0 cap0 n1 k1 n2 k2 W hl0).mono fun e W' ⟨he, bel⟩ => ?_
  subst he
  exact ⟨_, rfl, _, _, _, [], _, [], hW', trodAll_mk1 (shut_bool Tryz.underlying4 _), (trodAll_cons_mk (Below.trod fact.laid (by kernel_rfl) (of_decide_eq_true (by kernel_rfl)) k0 bel lt0) trodAll_mk0), rfl, bel.frame _, fun h => by cases h⟩

theorem c_wf : Rows.pagerEndsRow.wf (OpenSpec.ofChange Rows.pagerEndsSpec) = true := by kernel_rfl
theorem c_read : Tryz.f8.params.all (Tryz.prog.readableRec ·) = true := by kernel_rfl
theorem c_tie : namedTie Tryz.prog Rows.pagerEndsRow.named Rows.pagerEndsSpec.vars = true := by kernel_rfl
theorem c_st1 : (Rows.pagerEndsRow.stops == []) = true := by kernel_rfl
theorem c_kn1 : (Rows.pagerEndsRow.knobs == []) = true := by kernel_rfl
theorem c_inPlace : (Rows.pagerEndsRow.inPlace == Tryz.prog.inPlace 8) = true := by kernel_rfl
theorem c_unfol : (Rows.pagerEndsRow.unfollowed == Tryz.prog.unfollowed 8) = true := by kernel_rfl
theorem c_recur : (Rows.pagerEndsRow.recurses == Tryz.prog.recurses 8) = true := by kernel_rfl
theorem c_named : (Rows.pagerEndsRow.named == Tryz.prog.varsNamed 8) = true := by kernel_rfl
theorem c_maps : (Rows.pagerEndsRow.maps == (Tryz.f8.params.toList ++ Rows.pagerEndsSpec.plain.varTypes Tryz.prog).any (Tryz.prog.mapsRec ·)) = true := by kernel_rfl
theorem c_ifaces : (Rows.pagerEndsRow.ifaces == (Tryz.f8.params.toList ++ Rows.pagerEndsSpec.plain.varTypes Tryz.prog).any (Tryz.prog.ifacesRec ·)) = true := by kernel_rfl
theorem c_mapsOut : (Rows.pagerEndsRow.mapsOut == (Tryz.prog.mapsAmong Tryz.f8.resultTypes.toList)) = true := by kernel_rfl
theorem c_loops : (Rows.pagerEndsRow.loops == (Tryz.f8.params.toList ++ Rows.pagerEndsSpec.plain.varTypes Tryz.prog).any (Tryz.prog.loopsFrom ·)) = true := by kernel_rfl
theorem c_wideK : (Rows.pagerEndsRow.wideKeys == (Tryz.f8.params.toList ++ Rows.pagerEndsSpec.plain.varTypes Tryz.prog ++ Tryz.f8.resultTypes.toList).any (Tryz.prog.wideKeysFrom ·)) = true := by kernel_rfl
theorem c_vars : Rows.pagerEndsSpec.vars.all (Tryz.prog.varReadable ·) = true := by kernel_rfl
theorem c_res : Tryz.f8.resultTypes.all (fun t => Tryz.prog.readableRec t && decide (t < Tryz.prog.types.size)) = true := by kernel_rfl
theorem c_ifOut : (Rows.pagerEndsRow.ifacesOut == Tryz.f8.resultTypes.toList.any (Tryz.prog.ifacesRec ·)) = true := by kernel_rfl
theorem c_loOut : (Rows.pagerEndsRow.loopsOut == Tryz.f8.resultTypes.toList.any (Tryz.prog.loopsFrom ·)) = true := by kernel_rfl
theorem c_plain : (Rows.pagerEndsRow.plainKeys == Tryz.prog.plainKeys) = true := by kernel_rfl
theorem c_short : Rows.pagerEndsRow.shortTexts.isNone = true := by kernel_rfl
theorem c_lifts : (Rows.pagerEndsRow.lifted == Tryz.prog.liftsFinal) = true := by kernel_rfl
theorem c_make : (Tryz.prog.make == some Rows.pagerEndsRow.make) = true := by kernel_rfl
theorem c_kinds : (Rows.pagerEndsRow.kinds == (if Rows.pagerEndsRow.domain.isEmpty then [] else Tryz.f8.params.toList.map fun t => match Tryz.prog.underlying t with | some (.int k) => some k | _ => none)) = true := by kernel_rfl
theorem c_pinned : (Rows.pagerEndsRow.pinned == Rows.pagerEndsRow.pinnedBy) = true := by kernel_rfl
theorem c_veiled : (Rows.pagerEndsRow.veiled == (Tryz.f8.params.toList ++ Rows.pagerEndsSpec.plain.varTypes Tryz.prog ++ Tryz.f8.resultTypes.toList).any (Tryz.prog.veiledRec ·)) = true := by kernel_rfl
theorem c_vfits : Rows.pagerEndsRow.veiledFits Tryz.prog Tryz.f8.params.toList (Tryz.f8.params.toList ++ Rows.pagerEndsSpec.plain.varTypes Tryz.prog ++ Tryz.f8.resultTypes.toList) = true := by kernel_rfl
set_option maxRecDepth 100000 in
theorem closed : joinedFacts Tryz.prog 8 Tryz.f8 Rows.pagerEndsSpec Rows.pagerEndsRow = true := by
  unfold joinedFacts
  simp only [Bool.and_eq_true]
  exact ⟨⟨⟨⟨⟨⟨⟨⟨⟨⟨⟨⟨⟨⟨⟨⟨⟨⟨⟨⟨⟨⟨⟨⟨⟨⟨⟨⟨⟨⟨⟨c_wf, fact.laid⟩, fact.rowed⟩, c_read⟩, c_tie⟩, c_st1⟩, fact.stops⟩, c_kn1⟩, fact.stopKnobs⟩, c_inPlace⟩, c_unfol⟩, c_recur⟩, c_named⟩, c_maps⟩, c_ifaces⟩, c_mapsOut⟩, c_loops⟩, c_wideK⟩, c_vars⟩, c_res⟩, c_ifOut⟩, c_loOut⟩, c_plain⟩, c_short⟩, fact.heard⟩, fact.enter⟩, c_lifts⟩, c_make⟩, c_kinds⟩, c_pinned⟩, c_veiled⟩, c_vfits⟩
theorem h_named : Tryz.pinned.checked.prog.funcNamed Rows.pagerEndsRow.func = some 8 := by kernel_rfl
theorem h_inst : Tryz.f8.isInstance Tryz.pinned.checked.prog Rows.pagerEndsRow.origin Rows.pagerEndsRow.targs := of_decide_eq_true (by kernel_rfl)
theorem h_wrap : Tryz.f8.isWrapper Tryz.pinned.checked.prog Rows.pagerEndsRow.wrapper Rows.pagerEndsRow.mainSum := by
  unfold Func.isWrapper; first | (rw [if_pos (by decide +kernel)]; kernel_rfl) | (rw [if_neg (by decide +kernel)]; exact ⟨rfl, rfl⟩)
set_option maxRecDepth 100000 in
theorem over : Rows.pagerEndsRow.holds Tryz.pinned (OpenSpec.ofChange Rows.pagerEndsSpec) :=
  OpenClaim.holds_of_wide 8 Tryz.f8 rfl rfl rfl rfl rfl rfl rfl ⟨rfl, rfl, rfl, rfl, rfl⟩ rfl rfl rfl rfl rfl h_named Tryz.func8 closed h_inst h_wrap
    (fun os started H enc _ => lifted os started H enc)

/-- the statement -/
theorem proved : Rows.PagerEndsSaid := over
#print axioms proved
end Go.Proofs.YtmdpgjdepflbmaaGreat.pagerEndsP

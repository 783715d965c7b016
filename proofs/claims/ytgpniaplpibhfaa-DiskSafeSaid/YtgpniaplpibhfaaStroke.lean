/-
  The walk of stroke, whatever the closures are.
-/
import Derived.Test.YtgpniaplpibhfaaWriteB
namespace Go.Proofs.Ytgpniaplpibhfaa
open Go.RowKit Go.Maps Go.Proofs.YtgpniaplpibhfaaW.PrintWords Go.Proofs.YtgpniaplpibhfaaW.PrintLast Go.Proofs.YtgpniaplpibhfaaW.PrintMore
open Go.Proofs.Ytgpniaplpibhfaa.PDiskSafe
set_option linter.unusedVariables false
set_option linter.unusedSimpArgs false

/-- a call through a function value in a slot, as an arm of go_wp2_with -/
theorem goesV_ {P : Program} {ops : Array Oper} {Q : Exit → Act → World → Prop} {rest : List Oper} {oi : Oper} {a : Act} {w : World} (N : Option Tmp) (hd : oi.dst = N) (hg : oi.guard = none) {f : FuncId} {fn : Func} {t : Operand} {xs : Array Operand} {ts : Array TypeId} (hop : oi.op = .call { callee := .value t, args := xs, argTypes := ts })
    (hf : P.funcs[f]? = some fn) (hname : (fn.name == "runtime.NumGoroutine") = false) (hb : fn.body.isSome = true) (caps args : Array Value)
    (ht : a.eval t = .func (.func f) #[] caps) (hargs : xs.map a.eval ++ caps = args)
    (h : Calls P f args w fun e w' => ∃ v, e = .returned v ∧ wpList P ops Q rest (a.put N v) w') : wpList P ops Q (oi :: rest) a w := by
  refine wpList_plain hg fun K hK => ?_
  have he := enters_ hf hname hb args w
  have hrun : (execOp a.eval oi).run P w = .ok (.enter f args) w := by
    unfold execOp
    simp [hop, resolve, Deferred.ofValue, invoke, ht, hargs, he]
  unfold Oper.wp
  rw [hrun, Oper.upon_enter]
  refine h.mono fun e w'' hh => ?_
  obtain ⟨v, rfl, hk⟩ := hh
  subst hd
  exact hK _ _ hk

theorem stroke_off {w : World} {d : Nat} {M : DM} {ok : Nat → Prop} (h : DiskAt w d M ok) (vdo vsafe : Value) (hoff : M.off = true) (hst : 0 ≤ M.st) (hst2 : M.st < 1000000) :
    Calls Try.prog 31 #[dptr d, vdo, vsafe] w fun e w' => e = .returned (.int .i64 9) ∧ Left w d { M with st := M.st + 1 } ok w' := by
  obtain ⟨bf, bt, blk, sv, ev, sz, h⟩ := h
  have hset := h.setHeadCell (M.st + 1)
  have h2 := h.c2
  have h3 := h.c3
  have f2 := h.frozen 2
  have h3' : (w.setCell ⟨d, 2, none⟩ (.int .i64 (M.st + 1))).cell? ⟨d, 3, none⟩ = some (.bool true) := by rw [hset.c3]; simp [hoff]
  have H := Aside0.mk hset
  have H2 := Aside0.mk h
  clear h hset
  go_enter Try.func31, Try.ntmps31
  go_wp2
  go_ret
  exact ⟨rfl, ok, ⟨_, _, _, _, _, _, H.out⟩, fun k hk => .inl hk, (Fr.refl ok w).set_ (.inl H2.out.okd) _⟩

theorem stroke_io {w : World} {d : Nat} {M : DM} {ok : Nat → Prop} (h : DiskAt w d M ok) (vdo vsafe : Value) (htr : M.tr (M.st + 1) = 1) (hoff : M.off = false) (hst : 0 ≤ M.st) (hst2 : M.st < 1000000) :
    Calls Try.prog 31 #[dptr d, vdo, vsafe] w fun e w' => e = .returned (.int .i64 9) ∧ Left w d { M with st := M.st + 1 } ok w' := by
  obtain ⟨bf, bt, blk, sv, ev, sz, h⟩ := h
  have hset := h.setHeadCell (M.st + 1)
  have h2 := h.c2
  have h3 := h.c3
  have f2 := h.frozen 2
  have h1' := hset.c1
  have h2' := hset.c2
  have h3' := hset.c3
  simp only [hoff] at h3'
  have hwf : (Lit.int .i64 (M.st + 1)).wf = true := WalkArith.wf_i64 (by omega)
  have hl := (hset.ht.move (w' := (w.setCell ⟨d, 2, none⟩ (.int .i64 (M.st + 1))).drew) rfl).look Try.underlying3 Try.underlying3 Try.underlying63 zero3 hwf
  generalize htg : M.tr (M.st + 1) = t at *
  subst htr
  have H := Aside0.mk hset
  have H2 := Aside0.mk h
  clear h hset htg
  go_enter Try.func31, Try.ntmps31
  go_wp2
  go_region
  go_wp2
  go_ret
  exact ⟨rfl, ok, ⟨_, _, _, _, _, _, H.out.move (fun _ _ _ => rfl)⟩, fun k hk => .inl hk, ((Fr.refl ok w).set_ (p := ⟨d, 2, none⟩) (.inl H2.out.okd) (.int .i64 (M.st + 1))).drew⟩

theorem stroke_full {w : World} {d : Nat} {M : DM} {ok : Nat → Prop} (h : DiskAt w d M ok) (vdo vsafe : Value) (htr : M.tr (M.st + 1) = 2) (hoff : M.off = false) (hst : 0 ≤ M.st) (hst2 : M.st < 1000000) :
    Calls Try.prog 31 #[dptr d, vdo, vsafe] w fun e w' => e = .returned (.int .i64 10) ∧ Left w d { M with st := M.st + 1 } ok w' := by
  obtain ⟨bf, bt, blk, sv, ev, sz, h⟩ := h
  have hset := h.setHeadCell (M.st + 1)
  have h2 := h.c2
  have h3 := h.c3
  have f2 := h.frozen 2
  have h1' := hset.c1
  have h2' := hset.c2
  have h3' := hset.c3
  simp only [hoff] at h3'
  have hwf : (Lit.int .i64 (M.st + 1)).wf = true := WalkArith.wf_i64 (by omega)
  have hl := (hset.ht.move (w' := (w.setCell ⟨d, 2, none⟩ (.int .i64 (M.st + 1))).drew) rfl).look Try.underlying3 Try.underlying3 Try.underlying63 zero3 hwf
  generalize htg : M.tr (M.st + 1) = t at *
  subst htr
  have H := Aside0.mk hset
  have H2 := Aside0.mk h
  clear h hset htg
  go_enter Try.func31, Try.ntmps31
  go_wp2
  go_region
  go_wp2
  go_ret
  exact ⟨rfl, ok, ⟨_, _, _, _, _, _, H.out.move (fun _ _ _ => rfl)⟩, fun k hk => .inl hk, ((Fr.refl ok w).set_ (p := ⟨d, 2, none⟩) (.inl H2.out.okd) (.int .i64 (M.st + 1))).drew⟩

theorem stroke_refused {w : World} {d : Nat} {M : DM} {ok : Nat → Prop} (h : DiskAt w d M ok) {M2 : DM} {e0 : Int} {F : FuncId} {fnF : Func} {caps : Array Value} (hf : Try.prog.funcs[F]? = some fnF) (hname : (fnF.name == "runtime.NumGoroutine") = false) (hb : fnF.body.isSome = true)
    (hdo : ∀ W, Fr ok w W → DiskAt W d { M with st := M.st + 1 } ok → Calls Try.prog F caps W fun e w' => e = .returned (.int .i64 e0) ∧ Left W d M2 ok w') (vsafe : Value) (htr : M.tr (M.st + 1) ≠ 1 ∧ M.tr (M.st + 1) ≠ 2 ∧ M.tr (M.st + 1) ≠ 3) (he0 : e0 ≠ 0) (hoff : M.off = false) (hst : 0 ≤ M.st) (hst2 : M.st < 1000000) :
    Calls Try.prog 31 #[dptr d, .func (.func F) #[] caps, vsafe] w fun e w' => e = .returned (.int .i64 e0) ∧ Left w d M2 ok w' := by
  obtain ⟨bf, bt, blk, sv, ev, sz, h⟩ := h
  have hset := h.setHeadCell (M.st + 1)
  have h2 := h.c2
  have h3 := h.c3
  have f2 := h.frozen 2
  have h1' := hset.c1
  have h2' := hset.c2
  have h3' := hset.c3
  simp only [hoff] at h3'
  have hwf : (Lit.int .i64 (M.st + 1)).wf = true := WalkArith.wf_i64 (by omega)
  have hl := (hset.ht.move (w' := (w.setCell ⟨d, 2, none⟩ (.int .i64 (M.st + 1))).drew) rfl).look Try.underlying3 Try.underlying3 Try.underlying63 zero3 hwf
  generalize htg : M.tr (M.st + 1) = t at *
  obtain ⟨t1, t2, t3⟩ := htr
  have b1 : (t == (1 : Int)) = false := by simpa using t1
  have b2 : (t == (2 : Int)) = false := by simpa using t2
  have b3 : (t == (3 : Int)) = false := by simpa using t3
  have b4 : (e0 == (0 : Int)) = false := by simpa using he0
  have H := Aside0.mk hset
  have H2 := Aside0.mk h
  have HDO := Aside0.mk hdo
  clear h hset htg hdo
  go_enter Try.func31, Try.ntmps31
  go_wp2
  go_region
  go_wp2_with (first | (refine goesV_ (f := F) (some 40) rfl rfl rfl hf hname hb caps caps rfl (by simp) ?_; refine (HDO.out _ (((Fr.refl ok w).set_ (p := ⟨d, 2, none⟩) (.inl H2.out.okd) (.int .i64 (M.st + 1))).drew) ⟨_, _, _, _, _, _, H.out.move (fun _ _ _ => rfl)⟩).mono ?_; rintro e w' ⟨rfl, hL⟩; have HL := Aside0.mk hL; clear hL; refine ⟨_, rfl, ?_⟩))
  go_ret
  exact ⟨rfl, Left.trans (M := M) (fun k hk => .inl hk) (((Fr.refl ok w).set_ (p := ⟨d, 2, none⟩) (.inl H2.out.okd) (.int .i64 (M.st + 1))).drew) HL.out⟩

theorem stroke_done {w : World} {d : Nat} {M : DM} {ok : Nat → Prop} (h : DiskAt w d M ok) {M2 : DM} {M3 : DM} {F : FuncId} {fnF : Func} {caps : Array Value} (hf : Try.prog.funcs[F]? = some fnF) (hname : (fnF.name == "runtime.NumGoroutine") = false) (hb : fnF.body.isSome = true)
    (hdo : ∀ W, Fr ok w W → DiskAt W d { M with st := M.st + 1 } ok → Calls Try.prog F caps W fun e w' => e = .returned (.int .i64 0) ∧ Left W d M2 ok w')
    {G : FuncId} {fnG : Func} {capsG : Array Value} (hfG : Try.prog.funcs[G]? = some fnG) (hnameG : (fnG.name == "runtime.NumGoroutine") = false) (hbG : fnG.body.isSome = true)
    (hsafe : ∀ W ok', (∀ k, ok' k → ok k ∨ w.heap.size ≤ k) → Fr ok w W → DiskAt W d M2 ok' → Calls Try.prog G capsG W fun e w' => (∃ v, e = .returned v) ∧ Left W d M3 ok' w') (htr : M.tr (M.st + 1) ≠ 1 ∧ M.tr (M.st + 1) ≠ 2 ∧ M.tr (M.st + 1) ≠ 3) (hoff : M.off = false) (hst : 0 ≤ M.st) (hst2 : M.st < 1000000) :
    Calls Try.prog 31 #[dptr d, .func (.func F) #[] caps, .func (.func G) #[] capsG] w fun e w' => e = .returned (.int .i64 0) ∧ Left w d M3 ok w' := by
  obtain ⟨bf, bt, blk, sv, ev, sz, h⟩ := h
  have hset := h.setHeadCell (M.st + 1)
  have h2 := h.c2
  have h3 := h.c3
  have f2 := h.frozen 2
  have h1' := hset.c1
  have h2' := hset.c2
  have h3' := hset.c3
  simp only [hoff] at h3'
  have hwf : (Lit.int .i64 (M.st + 1)).wf = true := WalkArith.wf_i64 (by omega)
  have hl := (hset.ht.move (w' := (w.setCell ⟨d, 2, none⟩ (.int .i64 (M.st + 1))).drew) rfl).look Try.underlying3 Try.underlying3 Try.underlying63 zero3 hwf
  generalize htg : M.tr (M.st + 1) = t at *
  obtain ⟨t1, t2, t3⟩ := htr
  have b1 : (t == (1 : Int)) = false := by simpa using t1
  have b2 : (t == (2 : Int)) = false := by simpa using t2
  have b3 : (t == (3 : Int)) = false := by simpa using t3
  have H := Aside0.mk hset
  have H2 := Aside0.mk h
  have HDO := Aside0.mk hdo
  have HSF := Aside0.mk hsafe
  clear h hset htg hdo hsafe
  go_enter Try.func31, Try.ntmps31
  go_wp2
  go_region
  go_wp2_with (first
    | (refine goesV_ (f := F) (some 40) rfl rfl rfl hf hname hb caps caps rfl (by simp) ?_; refine (HDO.out _ (((Fr.refl ok w).set_ (p := ⟨d, 2, none⟩) (.inl H2.out.okd) (.int .i64 (M.st + 1))).drew) ⟨_, _, _, _, _, _, H.out.move (fun _ _ _ => rfl)⟩).mono ?_; rintro e w' ⟨rfl, hL⟩; have HL := Aside0.mk hL; clear hL; refine ⟨_, rfl, ?_⟩)
    | (refine goesV_ (f := G) (some 44) rfl rfl rfl hfG hnameG hbG capsG capsG rfl (by simp) ?_
       obtain ⟨ok', hD, hks, hFr⟩ := HL.out
       have hFr0 := ((Fr.refl ok w).set_ (p := ⟨d, 2, none⟩) (.inl H2.out.okd) (.int .i64 (M.st + 1))).drew
       refine (HSF.out _ ok' (fun k hk => (hks k hk).imp id (fun h => Nat.le_trans hFr0.size h)) (hFr0.trans hFr (fun k hk => .inl hk)) hD).mono ?_
       rintro e w'' ⟨⟨v, rfl⟩, hL⟩
       have HL2 := Aside0.mk (Left.trans (M := M) (fun k hk => (hks k hk).imp id (fun h => Nat.le_trans hFr0.size h)) (hFr0.trans hFr (fun k hk => .inl hk)) hL)
       clear hL hD hks hFr hFr0
       refine ⟨_, rfl, ?_⟩))
  go_ret
  exact ⟨rfl, HL2.out⟩

theorem stroke_power {w : World} {d : Nat} {M : DM} {ok : Nat → Prop} (h : DiskAt w d M ok) {M2 : DM} {e0 : Int} {F : FuncId} {fnF : Func} {caps : Array Value} (hf : Try.prog.funcs[F]? = some fnF) (hname : (fnF.name == "runtime.NumGoroutine") = false) (hb : fnF.body.isSome = true)
    (hdo : ∀ W, Fr ok w W → DiskAt W d { M with st := M.st + 1 } ok → Calls Try.prog F caps W fun e w' => e = .returned (.int .i64 e0) ∧ Left W d M2 ok w') (vsafe : Value) (htr : M.tr (M.st + 1) = 3) (hoff : M.off = false) (hst : 0 ≤ M.st) (hst2 : M.st < 1000000) :
    Calls Try.prog 31 #[dptr d, .func (.func F) #[] caps, vsafe] w fun e w' => e = .returned (.int .i64 9) ∧ Left w d { M2 with off := true } ok w' := by
  obtain ⟨bf, bt, blk, sv, ev, sz, h⟩ := h
  have hset := h.setHeadCell (M.st + 1)
  have h2 := h.c2
  have h3 := h.c3
  have f2 := h.frozen 2
  have h1' := hset.c1
  have h2' := hset.c2
  have h3' := hset.c3
  simp only [hoff] at h3'
  have hwf : (Lit.int .i64 (M.st + 1)).wf = true := WalkArith.wf_i64 (by omega)
  have hl := (hset.ht.move (w' := (w.setCell ⟨d, 2, none⟩ (.int .i64 (M.st + 1))).drew) rfl).look Try.underlying3 Try.underlying3 Try.underlying63 zero3 hwf
  generalize htg : M.tr (M.st + 1) = t at *
  subst htr
  have H := Aside0.mk hset
  have H2 := Aside0.mk h
  have HDO := Aside0.mk hdo
  clear h hset htg hdo
  go_enter Try.func31, Try.ntmps31
  go_wp2
  go_region
  go_wp2_with (first
    | (refine goesV_ (f := F) (some 35) rfl rfl rfl hf hname hb caps caps rfl (by simp) ?_
       refine (HDO.out _ (((Fr.refl ok w).set_ (p := ⟨d, 2, none⟩) (.inl H2.out.okd) (.int .i64 (M.st + 1))).drew) ⟨_, _, _, _, _, _, H.out.move (fun _ _ _ => rfl)⟩).mono ?_
       rintro e w' ⟨rfl, hL⟩
       obtain ⟨ok', ⟨bf', bt', blk', sv', ev', sz', hD⟩, hks, hFr⟩ := hL
       have f3 := hD.frozen 3
       have hFr0 := ((Fr.refl ok w).set_ (p := ⟨d, 2, none⟩) (.inl H2.out.okd) (.int .i64 (M.st + 1))).drew
       have HL := Aside0.mk (And.intro hD (And.intro hks (hFr0.trans hFr (fun k hk => .inl hk))))
       have HS := Aside0.mk hFr0.size
       clear hD hks hFr hFr0
       have c3 := HL.out.1.c3
       refine ⟨_, rfl, ?_⟩))
  go_ret
  obtain ⟨hD, hks, hFr⟩ := HL.out
  exact ⟨rfl, ok', ⟨_, _, _, _, _, _, hD.setOff true⟩, fun k hk => (hks k hk).imp id (fun h => Nat.le_trans HS.out h), hFr.set_ (p := ⟨d, 3, none⟩) ((hks d hD.okd).imp id (fun h => Nat.le_trans HS.out h)) _⟩

end Go.Proofs.Ytgpniaplpibhfaa

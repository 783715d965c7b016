/-
  The walk of Crash.
-/
import Derived.Test.YtgpniaplpibhfaaFound
import Derived.Test.YtgpniaplpibhfaaCrashK
namespace Go.Proofs.Ytgpniaplpibhfaa
open Go.RowKit Go.Maps Go.Proofs.YtgpniaplpibhfaaW.PrintWords Go.Proofs.YtgpniaplpibhfaaW.PrintLast Go.Proofs.YtgpniaplpibhfaaW.PrintMore
open Go.Proofs.Ytgpniaplpibhfaa.PDiskSafe
set_option linter.unusedVariables false
set_option linter.unusedSimpArgs false

/-- what holds at the loop's head -/
structure CJ (w w2 : World) (fs : Files) (L : List Name) (ps0 : List Int) (i : Nat) (v6 : Value) (W : World) : Prop where
  ex : ∃ ps done, done ++ crashF fs (L.drop i) ps = crashF fs L ps0 ∧ done.length = i ∧ PBox (w.heap.size + 1) W w.heap.size ps ∧ Kd.S kF 50 W w2.heap.size (fun _ => True) v6 done
  fr : Fr (fun b => b = w.heap.size) w2 W

theorem nm_strL (y : Name) : nm (strL y) = y := by simp [nm, strL]

set_option maxHeartbeats 2000000 in
set_option maxRecDepth 100000 in
theorem crash_any {w : World} {d : Nat} {M : DM} {ok : Nat → Prop} (h : DiskAt w d M ok) (hfit : ∀ x f, M.fs x = some f → f.1.length ≤ 4194304 ∧ f.2.length ≤ 4194304) {L : List Name} (hL : IsL M.fs L) (h16 : L.length ≤ 16) (hnm : ∀ y ∈ L, y.length ≤ 1000)
    {A : Option Addr} {n c : Nat} {ps : List Int} (hC : I64.C w A n ps) (hc : n ≤ c) (hA : ∀ ad, 0 < n → A = some ad → ad.block < w.heap.size) :
    Calls Try.prog 11 #[dptr d, .slice A n c] w fun e w' => ∃ v, e = .returned v ∧ Kd.S kF 50 w' w.heap.size (fun _ => True) v (crashF M.fs L ps) ∧ Below w.heap.size w w' := by
  have HT := Aside0.mk h.tight
  have hnl : ps.length = n := hC.1
  have hPB0 : PBox (w.heap.size + 1) (w.alloc (.cells #[.slice A n c] 31)) w.heap.size ps := by
    refine ⟨by omega, by simp, A, c, by rw [hnl]; exact heap_alloc_new w _, ?_, by omega, fun ad hn e => ⟨by have := hA ad (by omega) e; omega, by have := hA ad (by omega) e; omega⟩⟩
    rw [hnl]
    exact C_keep hC (fun ad hn e => Below.heap_alloc _ _ _ (hA ad hn e))
  have HN := Aside0.mk (names_any ((h.tight).alloc (.cells #[.slice A n c] 31)) hL.1 hL.2 h16)
  have HP := Aside0.mk hPB0
  have HF := Aside0.mk hfit
  have HLL := Aside0.mk (And.intro hL (And.intro h16 hnm))
  clear h hfit hL h16 hnm hC hc hA hnl hPB0
  go_enter Try.func11, Try.ntmps11
  go_wp2_with (go_at_call 29; refine HN.out.mono ?_; rintro e w2 ⟨v, rfl, hR, hb⟩; obtain ⟨An, cn, hv, hcn, hCn⟩ := Kd.R_reads hR; have HRN := Aside0.mk (And.intro hCn (And.intro hb (And.intro hcn hR.1))); subst hv; rw [List.length_map] at *; clear hR hb hCn hcn)
  generalize hLn : L.length = Ln at *
  have HLn := Aside0.mk hLn
  clear hLn
  have sz1 : (w.alloc (.cells #[.slice A n c] 31)).heap.size = w.heap.size + 1 := by simp
  have HZ := Aside0.mk sz1
  clear sz1
  go_loopg [6, 13] Ln (fun kq v6 v13 w' => ∃ x : Int, v13 = .int .i64 x ∧ Aside0 (∃ i : Nat, x = i ∧ i + kq = Ln ∧ CJ w w2 M.fs L ps i v6 w'))
  case atStart =>
    refine ⟨0, rfl, ⟨0, rfl, by omega, ⟨ps, [], rfl, rfl, ?_, Kd.S_nil _ _ _ _ _⟩, Fr.refl _ _⟩⟩
    obtain ⟨_, hb, _⟩ := HRN.out
    exact HP.out.keep (fun k hk => hb.block k (by rw [HZ.out]; omega)) hb.size
  case round =>
    obtain ⟨x, rfl, HI⟩ := hrel
    cases gk with
    | zero =>
      have c2b0 : decide (x < (Ln : Int)) = false := by obtain ⟨i, h1, h2, _⟩ := HI.out; simp; omega
      go_wp2
      go_ret
      obtain ⟨i, h1, h2, ⟨ps', done, q1, q2, q3, q4⟩, q5⟩ := HI.out
      obtain ⟨_, hb, _⟩ := HRN.out
      have hz := HZ.out
      have hs2 := hb.size
      rw [List.drop_eq_nil_of_le (by rw [HLn.out]; omega)] at q1
      have q1' : done = crashF M.fs L ps := by rw [← q1]; simp [crashF]
      rw [← q1']
      exact ⟨u6, rfl, Kd.S_lower q4 (by omega), ⟨q5.os.trans hb.os, q5.tape.trans hb.tape, q5.output.trans hb.output, by have := q5.size; omega, fun k hk => (q5.block k (by omega) (by omega)).trans ((hb.block k (by omega)).trans (Below.heap_alloc _ _ _ hk))⟩⟩
    | succ k1 =>
      have c2b0 : decide (x < (Ln : Int)) = true := by obtain ⟨i, h1, h2, _⟩ := HI.out; simp; omega
      have p256 : 0 ≤ x := by obtain ⟨i, h1, h2, _⟩ := HI.out; omega
      have q256 : x < (Ln : Int) := by obtain ⟨i, h1, h2, _⟩ := HI.out; omega
      obtain ⟨i, hxi, hik, ⟨psi, done, q1, q2, q3, q4⟩, q5⟩ := HI.out
      obtain ⟨hCn, hb, hcn, hown⟩ := HRN.out
      obtain ⟨hL, h16, hnm⟩ := HLL.out
      have hz := HZ.out
      have hs2 := hb.size
      obtain ⟨ad, ead, hs0⟩ := Kd.at_string hCn x p256 (by simpa [HLn.out] using q256)
      subst ead
      have hadb : (ad.add x.toNat).block = ad.block := by unfold Addr.add; split <;> rfl
      have hs1 : wr.cell? (ad.add x.toNat) = some (.string (rdOf ByteArray.empty (L.map strL) x)) := by
        refine (World.cell?_of_block ?_).trans hs0
        refine q5.block _ (World.block_lt_of_cell? _ _ hs0) ?_
        rw [hadb]
        have := hown ad.block rfl
        omega
      have hiL : i < L.length := by rw [HLn.out]; omega
      obtain ⟨y, hy⟩ : ∃ y, L[i]? = some y := ⟨_, List.getElem?_eq_getElem hiL⟩
      have hrd : rdOf ByteArray.empty (L.map strL) x = strL y := by
        unfold rdOf
        rw [hxi, Int.toNat_natCast, List.getD_eq_getElem?_getD, List.getElem?_map, hy]; rfl
      rw [hrd] at hs1
      have hyL : y ∈ L := List.mem_of_getElem? hy
      obtain ⟨f, hfy⟩ := Option.isSome_iff_exists.1 ((hL.2 y).1 hyL)
      obtain ⟨bf, bt, blk, sv, ev, sz, hD⟩ := HT.out
      have hDW := hD.move (w' := wr) (fun k hk _ => (q5.block k (by omega) (by have := hk.2; omega)).trans ((hb.block k (by have := hk.2; omega)).trans (Below.heap_alloc _ _ _ hk.2)))
      obtain ⟨g, hg⟩ := hDW.some_ hfy
      obtain ⟨hcells, hRs, hRe⟩ := hDW.file _ _ _ hg hfy
      obtain ⟨A1, c1, hsv, hle1, hC1⟩ := hRs.reads
      obtain ⟨A2, c2, hev, hle2, hC2⟩ := hRe.reads
      have hl := hDW.look (s := strL y) (by have := hnm y hyL; simp [strL, ByteArray.size, maxLen]; omega)
      rw [show blk (strL y).data.toList = some g from by rw [← hg]; rfl] at hl
      simp only [ptrV] at hl
      have h0 := hDW.c0
      rw [hsv, hev] at hcells
      have hgo := hDW.okb _ _ hg
      have HFD : Aside0 (Calls Try.prog 30 #[.pointer (some ⟨g, 0, none⟩), .func (.func 28) #[] #[.pointer (some ⟨w.heap.size, 0, none⟩)]] wr fun e w' => ∃ v, e = .returned v ∧ RB w' (fun k => wr.heap.size ≤ k) v (foundF f psi).1 ∧ PBox (w.heap.size + 1) w' w.heap.size (foundF f psi).2 ∧ Fr (fun k => k = w.heap.size) wr w') :=
        ⟨found_any (by have := q5.size; omega) hcells hC1 hle1 hC2 hle2 (HF.out _ _ hfy).1 (HF.out _ _ hfy).2 q3 (by have := hgo.2; omega) (fun a e => by have := (hRs.1 a.block (by rw [hsv, e]; rfl)).2; omega) (fun a e => by have := (hRe.1 a.block (by rw [hev, e]; rfl)).2; omega)⟩
      obtain ⟨x1, hx1w⟩ : ∃ x1, IntKind.i64.wrap (x + 1) = x1 := ⟨_, rfl⟩
      have HX1 : Aside0 (x1 = x + 1) := ⟨by rw [← hx1w, IntKind.wrap_i64]; omega⟩
      have HBP : Aside0 (w.heap.size < w2.heap.size) := ⟨by omega⟩
      have HQ4 := Aside0.mk q4
      have HQ5 := Aside0.mk q5
      have HR := Aside0.mk (And.intro hxi (And.intro hik (And.intro q1 (And.intro q2 (And.intro hy (And.intro hfy (And.intro hs2 h16)))))))
      clear hCn hb hcn hown hL h16 hnm hz hs2 hs0 hadb hiL hrd hyL hD hDW hcells hRs hRe hC1 hC2 hsv hev hgo hxi hik q1 q2 q3 q4 q5 hy hg hfy HI
      have HLF : ∃ LF, LF = (foundF f psi).1.length := ⟨_, rfl⟩
      obtain ⟨LF, hLF⟩ := HLF
      have HFL := Aside0.mk hLF
      clear hLF
      go_wp2_with (first
        | (go_at_call 30
           refine HFD.out.mono ?_
           rintro e w3 ⟨v', rfl, hq⟩
           obtain ⟨A', c', hv'⟩ := hq.1.slice
           rw [← HFL.out] at hv'
           subst hv'
           have HQ := Aside0.mk hq
           clear hq)
        | ((with_reducible refine gate_builtin (b := .append) (xs := #[.tmp 17, .tmp 28]) rfl ?_)
           at_builtin
           refine Kd.S_append kF (w0 := w3) w2.heap.size rfl (.tmp 17) (.tmp 28) 22 50 (.agg #[(.string ⟨#[]⟩), (.slice none 0 0)]) 40 rfl Try.underlying22 info50 rfl (by decide) (by omega) u6 done (⟨strL y, (foundF f psi).1⟩ : S50) [.string (strL y), .slice A' LF c'] (fun _ => True) (fun k_ => (Value.slice A' LF c').ownBlock = some k_) rfl rfl ?aP ?aK (fun _ _ => trivial) ?aO ?aB ?aS ?aL ?_
           case aP => exact kF_mkM _ _ _ (⟨strL y, (foundF f psi).1⟩ : S50) (HQ.out.1.same (fun _ _ => rfl) (fun _ hk => hk)) (fun k hk => by have h1 := HQ.out.1.1 k hk; have h2 := HQ5.out.size; omega)
           case aK =>
             intro k hk
             refine ⟨trivial, fun e => ?_⟩
             have h1 := HQ.out.1.1 k hk
             obtain ⟨inner, ho⟩ := Kd.S_own HQ4.out
             obtain ⟨cells, hcl⟩ := own_typed ho k e.symm
             have h2 := heap_lt hcl
             omega
           case aO =>
             have h5 := HQ5.out.size
             have h6 := HR.out.2.2.2.2.2.2.1
             refine Kd.S_mono (Kd.S_step (Kd.S_bound HQ4.out) (w1 := w3) (fun k hk _ => HQ.out.2.2.block k hk.2.2.1 (by have h1 := hk.2.1; have h2 := HBP.out; omega))) (fun k hk => ⟨trivial, fun e => ?_⟩)
             have h1 := HQ.out.1.1 k e
             have h2 := hk.2.2.1
             omega
           case aB => exact Below.refl _ _
           case aS => have h1 := HQ5.out.size; have h2 := HQ.out.2.2.size; omega
           case aL => have := HR.out; omega
           intro v4 w4 ho hb4 hg4 hat4
           have HO := Aside0.mk (And.intro ho (And.intro hg4 hat4))
           clear ho hb4 hg4 hat4))
      go_roundg k1
      case measure => omega
      case rel =>
        obtain ⟨hxi, hik, q1, q2, hy, hfy, hs2, h16⟩ := HR.out
        obtain ⟨ho, hg4, hat4⟩ := HO.out
        obtain ⟨hR3, hP3, hF3⟩ := HQ.out
        have q5 := HQ5.out
        have hbp := HBP.out
        have hown6 : ∀ k, u6.ownBlock = some k → w2.heap.size ≤ k := fun k hk => by
          obtain ⟨inner, ho'⟩ := Kd.S_own HQ4.out
          exact own_base ho' k hk
        refine ⟨x1, rfl, ⟨i + 1, by rw [HX1.out]; omega, by omega, ⟨(foundF f psi).2, done ++ [⟨strL y, (foundF f psi).1⟩], ?_, by simp [q2], ?_, ho⟩, ?_⟩⟩
        · rw [List.append_assoc, ← q1]
          have hiL : i < L.length := by rw [HLn.out]; omega
          have e1 : L.drop i = y :: L.drop (i + 1) := by
            rw [List.drop_eq_getElem_cons hiL]
            have := List.getElem?_eq_getElem hiL
            rw [hy] at this
            rw [← Option.some.inj this]
          rw [e1]
          simp [crashF, hfy]
        · exact hP3.keep (fun k hk => hg4.block k (by have := q5.size; have := hF3.size; omega) (fun e => by have := hown6 k e.symm; omega)) hg4.size
        · refine q5.trans (ok' := fun b => b = w.heap.size ∨ u6.ownBlock = some b) ⟨hg4.os.trans hF3.os, hg4.tape.trans hF3.tape, hg4.output.trans hF3.output, Nat.le_trans hF3.size hg4.size, fun k hk hn => ?_⟩ (fun k hk => hk.imp id (fun e => hown6 k e))
          have h1 := hF3.size
          exact (hg4.block k (by omega) (fun e => hn (.inr e.symm))).trans (hF3.block k hk (fun e => hn (.inl e)))
end Go.Proofs.Ytgpniaplpibhfaa

/-
  fold: the log's pages are brought into the base.
-/
import Derived.Test.YtmdpgjdepflbmaaGreatCN
namespace Go.Proofs.YtmdpgjdepflbmaaGreat
open Go.RowKit Go.Maps Go.Proofs.YtmdpgjdepflbmaaGreatW.PrintWords Go.Proofs.YtmdpgjdepflbmaaGreatW.PrintLast Go.Proofs.YtmdpgjdepflbmaaGreatW.PrintMore
open Go.Proofs.YtmdpgjdepflbmaaGreat.PPagerFolds
set_option linter.unusedVariables false
set_option linter.unusedSimpArgs false

theorem index_some (l : List ByteArray) (s : ByteArray) (hl : l.length ≤ 1000) : ∀ (k : Nat) (i : Nat), i ≤ l.length → l.length < i + k → (∃ j, i ≤ j ∧ ∃ x, l[j]? = some x ∧ s.toList = x.toList) → ∃ r : Int, slices_Index_string_string.l0 k l s (l.length : Int) (i : Int) = some r ∧ 0 ≤ r
  | 0, i, h1, h2, _ => by omega
  | k + 1, i, h1, h2, ⟨j, hj, x, hx, hs⟩ => by
    unfold slices_Index_string_string.l0
    have hjl := (List.getElem?_eq_some_iff.1 hx).1
    rw [if_pos (by omega), if_pos (by omega), if_pos (by omega)]
    have hri : rdOf ByteArray.empty l (i : Int) = l[i] := by simp [rdOf, List.getD_eq_getElem?_getD, show i < l.length by omega]
    by_cases he : s.toList = (rdOf ByteArray.empty l (i : Int)).toList
    · rw [if_pos he]
      exact ⟨_, rfl, by omega⟩
    · rw [if_neg he, wrap_small (by omega) (by omega)]
      refine index_some l s hl k (i + 1) (by omega) (by omega) ⟨j, ?_, x, hx, hs⟩
      rcases Nat.lt_or_ge i j with h | h
      · exact h
      · obtain rfl : j = i := by omega
        exfalso
        apply he
        rw [hri, hs]
        have := (List.getElem?_eq_some_iff.1 hx).2
        rw [this]
theorem contains_some (l : List ByteArray) (s : ByteArray) (hl : l.length ≤ 1000) (hs : ∃ x ∈ l, s.toList = x.toList) : slices_Contains_string_string.f (l.length + 1) l s = some true := by
  obtain ⟨x, hx, he⟩ := hs
  obtain ⟨j, hj⟩ := List.getElem?_of_mem hx
  obtain ⟨r, h1, h2⟩ := index_some l s hl (l.length + 1) 0 (by omega) (by omega) ⟨j, by omega, x, hj, he⟩
  unfold slices_Contains_string_string.f slices_Index_string_string.f
  rw [show slices_Index_string_string.l0 (l.length + 1) l s (l.length : Int) 0 = some r from h1]
  simp [h2]
theorem wsM_other (pg : Own) (M : DM) (L : List Int) {x : Name} (hx : x ≠ nm sB) : (wsM pg M L).fs x = M.fs x := by
  unfold wsM
  split
  · rfl
  · show setF _ _ _ x = _
    unfold setF
    rw [if_neg hx]
    exact (wrs_fs pg L M).1 x hx
theorem wsM_quiet {pg : Own} {M : DM} {L : List Int} {c : Int} (h : Quiet M c) (hL : ∀ n ∈ L, 0 ≤ n ∧ n < 4096 ∧ ((pg n).getD []).length = 512) : Quiet (wsM pg M L) (c + 1 + L.length) := by
  unfold wsM
  split
  · exact h.more (by omega)
  · exact ((wrs_quiet pg L M c h hL).sy1 (.inl rfl)).more (by omega)

set_option maxHeartbeats 2000000 in
set_option maxRecDepth 100000 in
theorem fold_log {w : World} {X : PG} {M : DM} {okP okD : Nat → Prop} {cc : Int} {c : Bytes} {bs : List BK} {k bo : Nat} {vw vm : Value} (hP : PRep w X okP bo vw vm) (hPl : ∀ j, okP j → j < w.heap.size) (hD : DiskAt w X.d M okD) (hq : Quiet M cc) (hc : cc + 6000 < 1000000) (hPD : ∀ j, okP j → ¬ okD j) (hL : LQ M c bs k) (hsz : (logB bs).length ≤ 4194304) :
    Calls Tryz.prog 69 #[dp X.p] w fun e w' => e = .returned (.int .i64 0) ∧ ∃ L okx, KeysOf (unionB bs) L ∧ L.length ≤ 4096 ∧ DiskAt w' X.d (de1 (wsM (unionB bs) M L) (nm sL)) okx ∧ (∀ j, okx j → okD j ∨ w.heap.size ≤ j) ∧ Fr (fun j => okD j ∨ j = X.p) w w' ∧ PgAt w' (X.sured (-1)) okP := by
  have hplt := hP.lt
  have c0 := hP.cell 0
  obtain ⟨LN, hLN, h16⟩ := names3 hq hD
  have HLs := Aside0.mk (list_on hD hq.off hLN.1 hLN.2 h16)
  have HNs := Aside0.mk (contains_some (LN.map strL) sL (by rw [List.length_map]; omega) ⟨strL (nm sL), List.mem_map.2 ⟨nm sL, (hLN.2 _).2 (by rw [hL.log]; rfl), rfl⟩, by
    rw [Lib.toList_data, Lib.toList_data]
    simp [nm, strL]⟩)
  obtain ⟨p, hp⟩ : ∃ p, p = X.p := ⟨_, rfl⟩
  rw [← hp] at hplt c0 ⊢
  have HX := Aside0.mk (And.intro hP (And.intro hPl (And.intro hD (And.intro hq (And.intro hc (And.intro hPD (And.intro hL (And.intro hsz (And.intro hp (And.intro hplt c0))))))))))
  clear hP hPl hD hq hc hPD hL hsz hp hLN h16
  generalize LN.map strL = LS at HLs HNs
  go_enter Tryz.func69, Tryz.ntmps69
  go_wp2_with (first
    | (go_at_call 103; refine (HLs.out).mono ?_; rintro e w1 ⟨v, rfl, hv, hb1⟩; obtain ⟨A, c', rfl, hc', hC⟩ := Kd.R_reads hv
       have HC := Aside0.mk (slices_Contains_string_string.calls _ A c' LS sL true w1 hC hc' HNs.out)
       have HBs := Aside0.mk (fun m : Nat => blocks_any (w := w1.drewN m) ((HX.out.2.2.1.below hb1).drewN m) ((hb1.cell (p := ⟨p, 0, none⟩) hplt).trans c0) HX.out.2.2.2.1.off HX.out.2.2.2.2.2.2.1.log (rest := []) (by simp) (.inl (by simp)) HX.out.2.2.2.2.2.2.1.chain.ok HX.out.2.2.2.2.2.2.2.1)
       have H1 := Aside0.mk hb1
       clear hv hb1 hC hc')
    | (go_at_call 104; refine (HC.out).mono ?_; rintro e w' ⟨rfl, ⟨n0, rfl⟩⟩)
    | (go_at_call 87; refine (HBs.out n0).mono ?_; rintro e w2 ⟨m, rfl, ⟨ff, sz, hm⟩, hm1, hm2, hb2⟩
       have hb02 : Below w.heap.size w w2 := H1.out.trans ((below_undrawn hb2).mono H1.out.size)
       have hs1 : w.heap.size ≤ w1.heap.size := H1.out.size
       have hm1' : w1.heap.size ≤ m := hm1
       obtain ⟨L, hLk⟩ := hm.map.keys Tryz.underlying3
       have hWs := writes_any (HX.out.2.2.1.tight.below hb02) HX.out.2.2.2.1 (by have := HX.out.2.2.2.2.1; omega) (hm.move rfl (fun _ _ _ => rfl) (Nat.le_refl _) (fun j hj _ => (show w.heap.size ≤ j from Nat.le_trans hs1 hj.1))) (fun j hj h => by omega) (fun h => by omega) ((hb02.cell (p := ⟨p, 0, none⟩) hplt).trans c0) (fun h => HX.out.2.2.2.2.2.1 p (by rw [HX.out.2.2.2.2.2.2.2.2.1]; exact HX.out.1.okp) h.1) hLk
       have HWs := Aside0.mk hWs
       have HL := Aside0.mk (And.intro ((hm.isInts).1 hLk) (And.intro (by rw [hm.map.size_keys Tryz.underlying3 hLk]; exact hm.few : L.length ≤ 4096) (fun n hn => by
         obtain ⟨v, hv⟩ := Option.isSome_iff_exists.1 ((hLk.2 n).1 hn)
         obtain ⟨_, _, bs', _, _, _, _, _, hbs, hl, h0, h1⟩ := hm.some_ n v hv
         exact (⟨h0, h1, by rw [hbs]; exact hl⟩ : 0 ≤ n ∧ n < 4096 ∧ ((unionB bs n).getD []).length = 512))))
       have H2 := Aside0.mk hb02
       clear hm hm1 hm2 hb2 hb02 hs1 hm1' hLk hWs)
    | (go_at_call 93; refine HWs.out.mono ?_; rintro e w3 ⟨rfl, okx, hD3, hk3, hF3⟩
       have hpk : okP p := by rw [HX.out.2.2.2.2.2.2.2.2.1]; exact HX.out.1.okp
       have hrow3 : w3.heap[p]? = _ := (hF3.block p (Nat.lt_of_lt_of_le hplt H2.out.size) (fun h => HX.out.2.2.2.2.2.1 p hpk h.1)).trans ((H2.out.block p hplt).trans (HX.out.2.2.2.2.2.2.2.2.1 ▸ HX.out.1.hp))
       have d0 := cell_of_row w3 p 0 _ _ (0, 0) hrow3
       have d12 := cell_of_row w3 p 12 _ _ (0, 0) hrow3
       have e12 := frozen_of_cells hrow3 12
       have hO : Only p w3 (w3.setCell ⟨p, 12, none⟩ (.int .i64 (-1))) := (Only.refl p w3).set_ 12 _
       have hnx : ¬ okx p := fun h => by
         rcases hk3 p h with h | h
         · exact HX.out.2.2.2.2.2.1 p hpk h.1
         · have := H2.out.size; omega
       have hDl := q_del (s := sL) (hD3.move (fun j hj _ => hO.block j (fun e => hnx (e ▸ hj)))) (wsM_quiet HX.out.2.2.2.1 HL.out.2.2) (by have := HX.out.2.2.2.2.1; have := HL.out.2.1; omega) good_L (by rw [wsM_other _ _ _ (Ne.symm nmB_L), HX.out.2.2.2.2.2.2.1.log]; rfl)
       have HDl := Aside0.mk hDl
       have H3 := Aside0.mk (And.intro hk3 (And.intro hF3 (And.intro hrow3 (And.intro hO hpk))))
       clear hD3 hk3 hF3 hrow3 hO hDl hpk hnx)
    | (go_at_call 94; refine HDl.out.mono ?_; rintro e w6 ⟨rfl, hL6⟩; have H6 := Aside0.mk hL6; clear hL6))
  go_ret
  obtain ⟨hP, hPl, hD, hq, hc, hPD, hL, hsz, hp, _, _⟩ := HX.out
  obtain ⟨hk3, hF3, hrow3, hO, hpk⟩ := H3.out
  obtain ⟨oky, hD6, hk6, hF6⟩ := H6.out
  have hb := H2.out
  have s2 := hb.size
  have s3 := hF3.size
  have s4 := hO.size
  have s6 := hF6.size
  have hr5 := row13_set12 hrow3 (.int .i64 (-1))
  generalize w3.setCell ⟨p, 12, none⟩ (.int .i64 (-1)) = w5 at hO hr5 hk6 hF6 s4 s6
  have hnx : ∀ j, okP j → ¬ okx j := fun j hj h => by
    rcases hk3 j h with h | h
    · exact hPD j hj h.1
    · have := hPl j hj; omega
  have hold : ∀ j, ¬ okD j → j ≠ p → j < w.heap.size → w6.heap[j]? = w.heap[j]? := fun j hj hjp hjl => (hF6.block j (by omega) (fun h => by
    rcases hk3 j h with h | h
    · exact hj h.1
    · omega)).trans ((hO.block j hjp).trans ((hF3.block j (by omega) (fun h => hj h.1)).trans (hb.block j hjl)))
  refine ⟨rfl, L, oky, HL.out.1, HL.out.2.1, hD6, fun j hj => ?_, ⟨hF6.os.trans (hO.os.trans (hF3.os.trans hb.os)), hF6.tape.trans (hO.tape.trans (hF3.tape.trans hb.tape)), hF6.output.trans (hO.output.trans (hF3.output.trans hb.output)), by omega, fun j hj hn' => hold j (fun h => hn' (.inl h)) (fun h => hn' (.inr (by rw [h, hp]))) hj⟩, ?_⟩
  · rcases hk6 j hj with h | h
    · exact (hk3 j h).imp (fun h => h.1) (fun h => by omega)
    · exact .inr (by omega)
  · show PgAt w6 { X with sure := -1 } okP
    refine hP.sure _ ?_ (fun j hj hjl hjp => hold j (hPD j hj) (by rw [hp]; exact hjp) hjl)
    rw [← hp]
    exact (hF6.block p (by omega) (hnx p hpk)).trans hr5
end Go.Proofs.YtmdpgjdepflbmaaGreat
namespace Go.Proofs.YtmdpgjdepflbmaaGreat
open Go.RowKit Go.Maps Go.Proofs.YtmdpgjdepflbmaaGreatW.PrintWords Go.Proofs.YtmdpgjdepflbmaaGreatW.PrintLast Go.Proofs.YtmdpgjdepflbmaaGreatW.PrintMore
open Go.Proofs.YtmdpgjdepflbmaaGreat.PPagerFolds
set_option linter.unusedVariables false
set_option linter.unusedSimpArgs false

/-- what is left of a disk whose log is folded -/
theorem fold_DL {M : DM} {c : Bytes} {bs : List BK} {k : Nat} {cc : Int} (h : LQ M c bs k) (hsyn : ∀ x f, M.fs x = some f → f.1 = f.2) (hq : Quiet M cc) {L : List Int} (hL : KeysOf (unionB bs) L) (h4 : L.length ≤ 4096) : DL (de1 (wsM (unionB bs) M L) (nm sL)) (comB c bs k) [] k ∧ Quiet (de1 (wsM (unionB bs) M L) (nm sL)) (cc + 4100) := by
  have hfull := h.chain.full
  have hok := h.chain.log.ok
  have hm4 := h.chain.most
  have hL0 : ∀ n ∈ L, 0 ≤ n ∧ n < 4096 ∧ ((unionB bs n).getD []).length = 512 := fun n hn => by
    obtain ⟨b, hb⟩ := Option.isSome_iff_exists.1 ((hL.2 n).1 hn)
    have key : ∀ (bs : List BK) (U : Own), (∀ n b, U n = some b → 0 ≤ n ∧ n < 4096 ∧ b.length = 512) → (∀ B ∈ bs, BKok B) → ∀ n b, bs.foldl (fun U B => laid U B.pg) U n = some b → 0 ≤ n ∧ n < 4096 ∧ b.length = 512 := by
      intro bs
      induction bs with
      | nil => intro U hU _ n b hb; exact hU n b hb
      | cons B bs ih =>
        intro U hU hB n b hb
        refine ih (laid U B.pg) (fun n b hb => ?_) (fun B' hB' => hB B' (by simp [hB'])) n b hb
        unfold laid at hb
        cases e : B.pg n with
        | none => rw [e] at hb; exact hU n b hb
        | some q =>
          rw [e] at hb
          obtain rfl := Option.some.inj hb
          have hBk := hB B (by simp)
          have h1 := hBk.ok n ((hBk.keys.2 n).2 (by rw [e]; rfl))
          rw [e] at h1
          exact h1
    obtain ⟨h0, h1, h2⟩ := key bs _ (fun _ _ h => by cases h) h.chain.ok n b hb
    exact ⟨h0, h1, by rw [hb]; exact h2⟩
  have hmem : ∀ n : Nat, n ∈ L.map Int.toNat ↔ (pmO (unionB bs) n).isSome = true := fun n => by
    rw [List.mem_map]
    constructor
    · rintro ⟨m, hm, rfl⟩
      have := (hL0 m hm).1
      have e : ((m.toNat : Nat) : Int) = m := by omega
      unfold pmO
      rw [e]
      exact (hL.2 m).1 hm
    · intro h
      exact ⟨(n : Int), (hL.2 _).2 h, by simp⟩
  have hcl : c.length = c.length / 512 * 512 := by have := h.md; omega
  have hov := PP.writesB_overlay hfull hmem hcl hok.le (fun n hn => hok.lt n ((hmem n).1 hn)) (fun hik => (hmem _).2 (hok.last hik))
  have hwB : wB (unionB bs) c L = comB c bs k := by rw [wB_writesB _ _ _ (fun n hn => (hL0 n hn).1), hov]; rfl
  have hbase : baseB (de1 (wsM (unionB bs) M L) (nm sL)) = comB c bs k := by
    have e1 : (de1 (wsM (unionB bs) M L) (nm sL)).fs (nm sB) = (wsM (unionB bs) M L).fs (nm sB) := by simp [de1, setF, nmB_L]
    unfold baseB
    rw [e1, ← hwB]
    by_cases hL' : L = []
    · subst hL'
      have := h.base
      unfold baseB at this
      simp only [wsM, if_pos]
      exact this
    · have h2 := (wrs_fs (unionB bs) L M).2
      rw [seenB_base M, h.base] at h2
      unfold wsM
      rw [if_neg hL']
      simp only [sy1, setF, if_pos]
      unfold seenB at h2
      exact h2
  have hlen : (comB c bs k).length = k * 512 := comB_length h.chain c
  have hjn : (de1 (wsM (unionB bs) M L) (nm sL)).fs (nm sJ) = none := by
    have e1 : (de1 (wsM (unionB bs) M L) (nm sL)).fs (nm sJ) = (wsM (unionB bs) M L).fs (nm sJ) := by simp [de1, setF, nmJ_L]
    rw [e1, wsM_other _ _ _ (Ne.symm nmB_J)]
    exact h.jn
  have hkk : (comB c bs k).length / 512 = k := by rw [hlen]; omega
  refine ⟨⟨hjn, hbase, by rw [hlen]; omega, by rw [hlen]; omega, .inl ⟨by simp [de1, setF], rfl⟩, by rw [hkk]; exact LogOf.nil hm4, fun x f hf => ?_⟩, ?_⟩
  · by_cases e1 : x = nm sL
    · subst e1
      simp [de1, setF] at hf
    · have hf2 : (wsM (unionB bs) M L).fs x = some f := by simpa [de1, setF, e1] using hf
      by_cases e2 : x = nm sB
      · subst e2
        unfold wsM at hf2
        split at hf2
        · exact hsyn _ _ hf2
        · simp only [sy1, setF, if_pos] at hf2
          obtain rfl := Option.some.inj hf2
          rfl
      · rw [wsM_other _ _ _ e2] at hf2
        exact hsyn _ _ hf2
  exact ((wsM_quiet hq hL0).de1 (.inr (.inr rfl))).more (by omega)
end Go.Proofs.YtmdpgjdepflbmaaGreat
namespace Go.Proofs.YtmdpgjdepflbmaaGreat
open Go.RowKit Go.Maps Go.Proofs.YtmdpgjdepflbmaaGreatW.PrintWords Go.Proofs.YtmdpgjdepflbmaaGreatW.PrintLast Go.Proofs.YtmdpgjdepflbmaaGreatW.PrintMore
open Go.Proofs.YtmdpgjdepflbmaaGreat.PPagerFolds
set_option linter.unusedVariables false
set_option linter.unusedSimpArgs false

theorem fold_q {w : World} {X : PG} {M : DM} {okP okD : Nat → Prop} {cc : Int} {c : Bytes} {bs : List BK} {k bo : Nat} {vw vm : Value} (hP : PRep w X okP bo vw vm) (hPl : ∀ j, okP j → j < w.heap.size) (hD : DiskAt w X.d M okD) (hq : Quiet M cc) (hc : cc + 6000 < 1000000) (hPD : ∀ j, okP j → ¬ okD j) (hL : DL M c bs k) (hsz : (logB bs).length ≤ 4194304) :
    Calls Tryz.prog 69 #[dp X.p] w fun e w' => e = .returned (.int .i64 0) ∧ ∃ M' okx s, DL M' (comB c bs k) [] k ∧ Quiet M' (cc + 4100) ∧ DiskAt w' X.d M' okx ∧ (∀ j, okx j → okD j ∨ w.heap.size ≤ j) ∧ Fr (fun j => okD j ∨ j = X.p) w w' ∧ PgAt w' (X.sured s) okP := by
  by_cases hb : bs = []
  · subst hb
    obtain ⟨LN, hLN, h16⟩ := names3 hq hD
    refine (fold_none hD (hP.cell 0) hq.off hLN h16 (hL.log.resolve_right (fun h => h.2 rfl)).1).mono ?_
    rintro e w' ⟨rfl, hb⟩
    refine ⟨rfl, M, _, X.sure, by rw [hL.com_nil]; exact hL, hq.more (by omega), hD.below hb, fun j hj => .inl hj, Fr.of_below hb, ?_⟩
    show PgAt w' X okP
    exact ⟨bo, vw, vm, hP.move (fun j _ hj => hb.block j hj)⟩
  · refine (fold_log hP hPl hD hq hc hPD (hL.lq hq hb) hsz).mono ?_
    rintro e w' ⟨rfl, L, okx, hK, h4, hD', hk', hF, hPg⟩
    obtain ⟨h1, h2⟩ := fold_DL (hL.lq hq hb) hL.syn hq hK h4
    exact ⟨rfl, _, okx, -1, h1, h2, hD', hk', hF, hPg⟩

set_option maxHeartbeats 4000000 in
set_option maxRecDepth 100000 in
theorem s_fold {w : World} {X : PG} {M : DM} {ok : Nat → Prop} {cc : Int} {c : Bytes} {bs : List BK} {k : Nat} (h : Sys w X M ok) (hq : Quiet M cc) (hcc : cc + 6000 < 1000000) (hL : DL M c bs k) (hd : X.dead = false) (hi : X.inn = false) (hsz : (logB bs).length ≤ 4194304) :
    Calls Tryz.prog 35 #[dp X.p] w fun e w' => e = .returned (.int .i64 0) ∧ ∃ M' s, SLeft w (X.sured s).ended M' ok w' ∧ DL M' (comB c bs k) [] k ∧ Quiet M' (cc + 4100) := by
  obtain ⟨okP, okD, x, v0, hP, hD, hT, hLk, h5, h6, h7, hc, hv0, hv1, hv2⟩ := h
  have hv := hv0 hi
  have hR1 := hLk.raise (level := 1) (by omega) (by omega)
  rw [hv, if_pos (by omega)] at hR1
  have hR2 := hR1.2.raise (level := 2) (by omega) (by omega)
  rw [if_pos (by omega)] at hR2
  have hR4 := hR2.2.raise (level := 4) (by omega) (by omega)
  rw [if_pos (by omega)] at hR4
  obtain ⟨bo, vw, vm, hPr⟩ := hP
  have c2 := hPr.cell 2
  have c3 := hPr.cell 3
  have c4 := hPr.cell 4
  have c5 := hPr.cell 5
  rw [hd] at c4
  rw [hi] at c5
  rw [hc] at c3
  have hlt := hPr.lt
  have hpl : X.p ≠ X.l := (h5 _ hPr.okp).2.1
  obtain ⟨p, hp⟩ : ∃ p, p = X.p := ⟨_, rfl⟩
  rw [← hp] at c2 c3 c4 c5 hlt hpl ⊢
  obtain ⟨l, hl'⟩ : ∃ l, l = X.l := ⟨_, rfl⟩
  rw [← hl'] at c2 hpl
  have HR1 := raise_all l x 0 1 w.drew (show Tab 108 w.drew l x from by rw [hl']; exact hT.drew)
  rw [show rE x 0 1 = 0 from hR1.1] at HR1
  replace HR1 := Aside0.mk HR1
  have HRR := Aside0.mk (And.intro hR2.1 (And.intro hR4.1 hR4.2))
  have HX := Aside0.mk (And.intro hPr (And.intro hD (And.intro hT (And.intro hLk (And.intro h5 (And.intro h6 (And.intro h7 (And.intro hc (And.intro hv (And.intro hp (And.intro hl' hpl)))))))))))
  have HY := Aside0.mk (And.intro hq (And.intro hcc (And.intro hL (And.intro hd (And.intro hi hsz)))))
  clear hPr hD hT hLk h5 h6 h7 hc hv hp hl' hq hcc hL hd hi hv0 hv1 hv2 hR1 hR2 hR4 hpl hsz
  go_enter Tryz.func35, Tryz.ntmps35
  go_wp2
  go_still_tail 8, (by kernel_rfl)
  go_wp2_with (go_at_call 51; refine HR1.out.mono ?_; rintro e w1 ⟨rfl, ht1, ho1⟩
               have d2 : w1.cell? ⟨p, 2, none⟩ = some (dp l) := (World.cell?_of_block (w := w) (a := ⟨p, 2, none⟩) (ho1.block p HX.out.2.2.2.2.2.2.2.2.2.2.2)).trans c2
               have d3 : w1.cell? ⟨p, 3, none⟩ = some (.int .i64 0) := (World.cell?_of_block (w := w) (a := ⟨p, 3, none⟩) (ho1.block p HX.out.2.2.2.2.2.2.2.2.2.2.2)).trans c3
               have hR := raise_all l _ 0 2 w1.drew ht1.drew
               rw [show rE (rX x 0 1) 0 2 = 0 from HRR.out.1] at hR
               have HR2 := Aside0.mk hR
               have H1 := Aside0.mk ho1
               clear ht1 ho1 hR)
  go_still_tail 8, (by kernel_rfl)
  go_wp2_with (go_at_call 51; refine HR2.out.mono ?_; rintro e w2 ⟨rfl, ht2, ho2⟩
               have f2 : w2.cell? ⟨p, 2, none⟩ = some (dp l) := (World.cell?_of_block (w := w1) (a := ⟨p, 2, none⟩) (ho2.block p HX.out.2.2.2.2.2.2.2.2.2.2.2)).trans d2
               have f3 : w2.cell? ⟨p, 3, none⟩ = some (.int .i64 0) := (World.cell?_of_block (w := w1) (a := ⟨p, 3, none⟩) (ho2.block p HX.out.2.2.2.2.2.2.2.2.2.2.2)).trans d3
               have hR := raise_all l _ 0 4 w2.drew ht2.drew
               rw [show rE (rX (rX x 0 1) 0 2) 0 4 = 0 from HRR.out.2.1] at hR
               have HR4 := Aside0.mk hR
               have H2 := Aside0.mk ho2
               clear ht2 ho2 hR)
  go_still_tail 8, (by kernel_rfl)
  go_wp2_with (first
    | (go_at_call 51; refine HR4.out.mono ?_; rintro e w3 ⟨rfl, ht3, ho3⟩
       have hk3 : ∀ j, j ≠ l → w3.heap[j]? = w.heap[j]? := fun j hj => (ho3.block j hj).trans ((H2.out.block j hj).trans (H1.out.block j hj))
       have hs3 : w3.heap.size = w.heap.size := ho3.size.trans (H2.out.size.trans H1.out.size)
       have hP3 : PRep w3 X okP bo vw vm := HX.out.1.move (fun j hj _ => hk3 j (fun e => (HX.out.2.2.2.2.1 j hj).2.1 (by rw [e, HX.out.2.2.2.2.2.2.2.2.2.2.1])))
       have hD3 : DiskAt w3 X.d M okD := HX.out.2.1.move (fun j hj _ => hk3 j (fun e => (HX.out.2.2.2.2.2.1 j hj).2.1 (by rw [e, HX.out.2.2.2.2.2.2.2.2.2.2.1])))
       have hU := undo_none hD3 (hP3.cell 0) HY.out.1.off HY.out.2.2.1.jn
       rw [← HX.out.2.2.2.2.2.2.2.2.2.1] at hU
       have HU := Aside0.mk hU
       have H3 := Aside0.mk (And.intro hP3 (And.intro hD3 (And.intro ht3 (And.intro ho3 (And.intro hk3 hs3)))))
       clear ht3 ho3 hk3 hs3 hP3 hD3 hU)
    | (go_at_call 68; refine HU.out.mono ?_; rintro e w' ⟨rfl, n0, rfl⟩
       have hF := fold_q (w := w3.drewN n0) (H3.out.1.move (fun _ _ _ => rfl)) (fun j hj => by have := (HX.out.2.2.2.2.1 j hj).2.2.2; have := H3.out.2.2.2.2.2; show j < w3.heap.size; omega) (H3.out.2.1.drewN n0) HY.out.1 HY.out.2.1 (fun j hj => (HX.out.2.2.2.2.1 j hj).2.2.1) HY.out.2.2.1 HY.out.2.2.2.2.2
       rw [← HX.out.2.2.2.2.2.2.2.2.2.1] at hF
       have HF := Aside0.mk hF
       clear hF)
    | (go_at_call 69; refine HF.out.mono ?_; rintro e w4 ⟨rfl, M', okx, s, hL4, hq4, hD4, hk4, hF4, hP4⟩
       have hF4' : Fr (fun j => okD j ∨ j = p) w3 w4 := hF4.undrawn
       have hEn := end_any hP4 (show Tab 108 w4 X.l (rX (rX (rX x 0 1) 0 2) 0 4) from by
         rw [← HX.out.2.2.2.2.2.2.2.2.2.2.1]
         exact (hF4'.block l H3.out.2.2.1.lt (fun h => h.elim (fun h => (HX.out.2.2.2.2.2.1 l h).2.1 HX.out.2.2.2.2.2.2.2.2.2.2.1) (fun h => HX.out.2.2.2.2.2.2.2.2.2.2.2 h.symm))).trans H3.out.2.2.1) (fun hk => (HX.out.2.2.2.2.1 _ hk).2.1 rfl)
       rw [show (X.sured s).p = p from HX.out.2.2.2.2.2.2.2.2.2.1.symm] at hEn
       have HEn := Aside0.mk hEn
       have H4 := Aside0.mk (And.intro hL4 (And.intro hq4 (And.intro hD4 (And.intro hk4 hF4'))))
       clear hL4 hq4 hD4 hk4 hF4 hP4 hF4' hEn)
    | (go_at_call 59; refine HEn.out.mono ?_; rintro e w5 ⟨rfl, hl5⟩; have H5 := Aside0.mk hl5; clear hl5))
  go_ret
  obtain ⟨hPr, hD, hT, hLk, h5, h6, h7, hc, hv, hp, hl', hpl⟩ := HX.out
  obtain ⟨hL4, hq4, hD4, hk4, hF4⟩ := H4.out
  obtain ⟨_, _, ht3, ho3, hk3, hs3⟩ := H3.out
  have hsz4 := hF4.size
  have hF3 : Fr (fun j => okD j ∨ j = X.l ∨ okP j) w w4 := by
    refine ⟨hF4.os.trans (ho3.os.trans (H2.out.os.trans H1.out.os)), hF4.tape.trans (ho3.tape.trans (H2.out.tape.trans H1.out.tape)), hF4.output.trans (ho3.output.trans (H2.out.output.trans H1.out.output)), by omega, fun j hj hn' => ?_⟩
    refine (hF4.block j (by omega) (fun h => h.elim (fun h => hn' (.inl h)) (fun h => hn' (.inr (.inr (by rw [h, hp]; exact hPr.okp)))))).trans (hk3 j (fun e => hn' (.inr (.inl (by rw [e, hl'])))))
  refine ⟨rfl, M', s, sys_end2 (X := X.sured s) h5 h6 h7 hc hT.lt hF3 hD4.tight (fun j hj => (hk4 j hj.1).imp id (fun h => by have h' : w3.heap.size ≤ j := h; omega)) (fun j hj => hj.2) HRR.out.2.2 (by omega) ?_, hL4, hq4⟩
  have h9 : PLeft w4 (X.sured s).ended (lX (rX (rX (rX x 0 1) 0 2) 0 4) (X.c : Int) 0) okP _ := H5.out
  show PLeft w4 _ (lX _ (X.c : Int) 0) okP _
  rw [show (X.c : Int) = 0 by rw [hc]; rfl] at h9 ⊢
  exact h9
end Go.Proofs.YtmdpgjdepflbmaaGreat
namespace Go.Proofs.YtmdpgjdepflbmaaGreat
open Go.RowKit Go.Maps Go.Proofs.YtmdpgjdepflbmaaGreatW.PrintWords Go.Proofs.YtmdpgjdepflbmaaGreatW.PrintLast Go.Proofs.YtmdpgjdepflbmaaGreatW.PrintMore
open Go.Proofs.YtmdpgjdepflbmaaGreat.PPagerFolds
set_option linter.unusedVariables false
set_option linter.unusedSimpArgs false

/-- what committed leaves, in words of a disk -/
def KLeft (w : World) (X : PG) (okP okD : Nat → Prop) (bs' : List BK) (c' : Bytes) (k : Nat) (cc : Int) (v : Value) (C : Bytes) (w' : World) : Prop :=
  ∃ M' okx s, RB w' (fun j => w.heap.size ≤ j ∧ ¬ okx j) v C ∧ PgAt w' (X.sured s) okP ∧ DiskAt w' X.d M' okx ∧ (∀ j, okx j → (okD j ∧ j < w.heap.size) ∨ (w.heap.size ≤ j ∧ j < w'.heap.size)) ∧ Fr (fun j => okD j ∨ j = X.p) w w' ∧ DL M' c' bs' k ∧ Quiet M' cc
set_option maxRecDepth 100000 in
set_option maxHeartbeats 2000000 in
theorem committed_jf {w : World} {X : PG} {M : DM} {okP okD : Nat → Prop} {cc : Int} {c : Bytes} {bs : List BK} {k bo : Nat} {vw vm : Value} (hP : PRep w X okP bo vw vm) (hPl : ∀ j, okP j → j < w.heap.size) (hD : DiskAt w X.d M okD) (hq : Quiet M cc) (hc : cc + 6000 < 1000000) (hPD : ∀ j, okP j → ¬ okD j) (hL : DL M c bs k) (hsz : (logB bs).length ≤ 4194304) (hmode : X.mode = 1) :
    Calls Tryz.prog 50 #[dp X.p] w fun e w' => ∃ v, e = .returned (.tuple #[v, .int .i64 0]) ∧ KLeft w X okP okD [] (comB c bs k) k (cc + 4100) v (comB c bs k) w' := by
  have c0 := hP.cell 0
  have c1 := hP.cell 1
  rw [hmode] at c1
  have hlt := hP.lt
  have hF := Aside0.mk (fun n => fold_q (w := w.drewN n) (hP.move (fun _ _ _ => rfl)) hPl (hD.drewN n) hq hc hPD hL hsz)
  obtain ⟨p, hp⟩ : ∃ p, p = X.p := ⟨_, rfl⟩
  rw [← hp] at c0 c1 hlt ⊢
  have HU := Aside0.mk (undo_none hD c0 hq.off hL.jn)
  have hlen : (comB c bs k).length = k * 512 := comB_length hL.chain c
  have hk4 := hL.chain.most
  obtain ⟨n, hn⟩ : ∃ n, n = (comB c bs k).length := ⟨_, rfl⟩
  have q1 : ((n : Int) % 512 != 0) = false := by rw [hn, hlen]; simp
  have q1' : (Int.tmod (n : Int) 512 != 0) = false := by rw [Int.tmod_eq_emod_of_nonneg (by omega)]; exact q1
  have q2 : decide ((2097152 : Int) < (n : Int)) = false := decide_eq_false (by rw [hn, hlen]; omega)
  have HX := Aside0.mk (And.intro hP (And.intro hPl (And.intro hD (And.intro hPD (And.intro hp (And.intro hn (And.intro hlen hk4)))))))
  clear hP hPl hD hq hc hPD hL hsz hmode hp hn hlen hk4
  go_enter Tryz.func50, Tryz.ntmps50
  go_wp2_with (first
    | (go_at_call 68; refine (HU.out).mono ?_; rintro e w' ⟨rfl, n1, rfl⟩)
    | (go_at_call 69
       have hFo := hF.out n1
       rw [← HX.out.2.2.2.2.1] at hFo
       refine hFo.mono ?_; rintro e w1 ⟨rfl, M', okx, s, hL1, hq1, hD1, hk1, hF1, bo1, vw1, vm1, hP1⟩
       have hF1' : Fr (fun j => okD j ∨ j = p) w w1 := hF1.undrawn
       have d0 := hP1.cell 0
       rw [show (X.sured s).p = p from HX.out.2.2.2.2.1.symm] at d0
       have hA := all_base hD1 d0 hq1.off (by rw [hL1.base, HX.out.2.2.2.2.2.2.1]; have := HX.out.2.2.2.2.2.2.2; omega)
       rw [hL1.base, ← HX.out.2.2.2.2.2.1] at hA
       have HA := Aside0.mk hA
       have hk1' : ∀ j, okx j → okD j ∨ w.heap.size ≤ j := hk1
       have H1 := Aside0.mk (And.intro hL1 (And.intro hq1 (And.intro hD1 (And.intro hk1' (And.intro hF1' (And.intro hP1 d0))))))
       clear hFo hL1 hq1 hD1 hk1 hF1 hP1 hF1' hA hk1' d0)
    | (go_at_call 86; refine (HA.out).mono ?_; rintro e w2 ⟨A3, c3, bb, rfl, hv, hb2⟩
       have HB := Aside0.mk (blocks_none (w := w2) (H1.out.2.2.1.below hb2) ((hb2.cell (p := ⟨p, 0, none⟩) (Nat.lt_of_lt_of_le hlt H1.out.2.2.2.2.1.size)).trans H1.out.2.2.2.2.2.2) H1.out.2.1.off (H1.out.1.log.resolve_right (fun h => h.2 rfl)).1)
       have HV := Aside0.mk (And.intro hv hb2)
       clear hv hb2)
    | (go_at_call 87; refine (HB.out).mono ?_; rintro e w' ⟨rfl, n3, rfl⟩)
    | (at_range; refine wpList_range_own _ rfl _ 110 rfl 3 48 (int_keyed Tryz.underlying3) Tryz.underlying110 sliE w2.heap.size 0 (.map []) rfl (World.ownsMap_made _ _ _ _) ?_; intro w0 hrg0 hg0 hs0))
  (try go_frame)
  refine wp_loop_rounds 1 ?_
  rw [rounds_succ]
  go_wp2_with (at_next; refine wpList_next_ranges _ rfl _ rfl 3 (int_keyed Tryz.underlying3) sliE (fun x : Value => x) (fun x : Value => x) (fun key kl _ => ⟨key, rfl⟩) (fun v y _ => ⟨v, rfl⟩) _ _ 0 (.map []) _ _ rfl hrg0 ?_ ?_)
  · intro _ _
    go_wp2
    go_ret2
    obtain ⟨hv, hb⟩ := HV.out
    obtain ⟨hL1, hq1, hD1, hk1, hF1, hP1, _⟩ := H1.out
    obtain ⟨hP, hPl, hD, hPD, hp, hn, hlen, hk4⟩ := HX.out
    have hs1 := hF1.size
    have h3 : Below w1.heap.size w1 w0 := ((pw_below_drewN hb n3).alloc hb.size (.map #[] 0)).grown hg0 (by have := hb.size; simp; omega) (fun j hj => by cases hj)
    have hv3 : U8.R 5 w0 w1.heap.size (fun j => w1.heap.size ≤ j) (.slice A3 n c3) (comB c bs k) := Kd.R_below (Kd.R_alloc (Kd.R_drewN hv n3) _) (below_of_grown hg0)
    have hs0' := h3.size
    have hkt : ∀ j, okx j ∧ j < w1.heap.size → (okD j ∧ j < w.heap.size) ∨ (w.heap.size ≤ j ∧ j < w0.heap.size) := fun j hj => by
      rcases Nat.lt_or_ge j w.heap.size with h | h
      · exact .inl ⟨(hk1 j hj.1).resolve_right (by omega), h⟩
      · exact .inr ⟨h, by omega⟩
    refine ⟨_, rfl, _, _, s, (RB.of_R hv3).same (fun _ _ => rfl) (fun j hj => ⟨by have := hv3.1 j hj; omega, fun h => by have := hv3.1 j hj; omega⟩), ⟨bo1, vw1, vm1, hP1.move (fun j _ hl => h3.block j hl)⟩, hD1.tight.below h3, hkt, ?_, hL1, hq1⟩
    refine ⟨h3.os.trans hF1.os, h3.tape.trans hF1.tape, h3.output.trans hF1.output, by omega, fun j hj hn' => (h3.block j (by omega)).trans (hF1.block j hj (fun h => hn' (h.imp id (fun h => by rw [h, hp]))))⟩
  · intro x c kl a b w' cnt' _ hlk
    cases hlk
end Go.Proofs.YtmdpgjdepflbmaaGreat
namespace Go.Proofs.YtmdpgjdepflbmaaGreat
open Go.RowKit Go.Maps Go.Proofs.YtmdpgjdepflbmaaGreatW.PrintWords Go.Proofs.YtmdpgjdepflbmaaGreatW.PrintLast Go.Proofs.YtmdpgjdepflbmaaGreatW.PrintMore
open Go.Proofs.YtmdpgjdepflbmaaGreat.PPagerFolds
set_option linter.unusedVariables false
set_option linter.unusedSimpArgs false

theorem committed_DL {w : World} {X : PG} {M : DM} {okP okD : Nat → Prop} {cc : Int} {c : Bytes} {bs : List BK} {k bo : Nat} {vw vm : Value} (hP : PRep w X okP bo vw vm) (hPl : ∀ j, okP j → j < w.heap.size) (hD : DiskAt w X.d M okD) (hq : Quiet M cc) (hc : cc + 6000 < 1000000) (hPD : ∀ j, okP j → ¬ okD j) (hL : DL M c bs k) (hsz : (logB bs).length ≤ 4194304) (hmode : X.mode = 1 ∨ X.mode = 2) :
    Calls Tryz.prog 50 #[dp X.p] w fun e w' => ∃ v c' bs', e = .returned (.tuple #[v, .int .i64 0]) ∧ KLeft w X okP okD bs' c' k (cc + 4100) v (comB c bs k) w' ∧ comB c' bs' k = comB c bs k ∧ (X.mode = 2 ∨ X.mode = 1 ∧ bs' = []) ∧ (logB bs').length ≤ (logB bs).length := by
  rcases hmode with hm | hm
  · refine (committed_jf hP hPl hD hq hc hPD hL hsz hm).mono ?_
    rintro e w' ⟨v, rfl, hK⟩
    have hK' := hK
    obtain ⟨M', okx, s, _, _, _, _, _, hL', _⟩ := hK'
    exact ⟨v, _, _, rfl, hK, hL'.com_nil, .inr ⟨hm, rfl⟩, by simp [logB]⟩
  · by_cases hb : bs = []
    · subst hb
      refine (committed_any ⟨bo, vw, vm, hP⟩ hD (.inr hm) (hL.jq hq hD)).mono ?_
      rintro e w' ⟨v, rfl, hv, hb⟩
      have hs := hb.size
      rw [hL.base, ← hL.com_nil] at hv
      refine ⟨v, c, [], rfl, ⟨M, _, X.sure, (RB.of_R hv).same (fun _ _ => rfl) (fun j hj => ⟨hv.1 j hj, fun h => by have := hv.1 j hj; have h2 := h.2; omega⟩), ?_, hD.tight.below hb, fun j hj => .inl hj, Fr.of_below hb, hL, hq.more (by omega)⟩, rfl, .inl hm, Nat.le_refl _⟩
      exact ⟨bo, vw, vm, hP.move (fun j _ hl => hb.block j hl)⟩
    · have hLq := hL.lq hq hb
      refine (committed_log ⟨bo, vw, vm, hP⟩ hD hPD hPl hq (by omega) hm hLq.jn hLq.base hLq.len hLq.md hLq.log (rest := []) (by simp) (.inl (by simp)) hb hLq.chain).mono ?_
      rintro e w' ⟨v, rfl, M', okx, hv, hPg, hD', hk', hF, hM⟩
      refine ⟨v, c, bs, rfl, ⟨M', okx, (logB bs).length, hv, hPg, hD', hk', hF, ?_, ?_⟩, rfl, .inl hm, Nat.le_refl _⟩
      · rcases hM with rfl | rfl
        · exact hL
        · exact hL.sync hq hb
      · rcases hM with rfl | rfl
        · exact hq.more (by omega)
        · exact (hq.sy1 (.inr (.inr rfl))).more (by omega)

/-- what Open leaves -/
def OLeft (w : World) (X : PG) (okD : Nat → Prop) (c : Bytes) (bs' : List BK) (k : Nat) (cc : Int) (w' : World) : Prop :=
  ∃ M' okx s, PgAt w' (X.sured s) (fun j => j = X.p) ∧ DiskAt w' X.d M' okx ∧ (∀ j, okx j → (okD j ∧ j < w.heap.size) ∨ (X.p < j ∧ j < w'.heap.size)) ∧ Fr okD w w' ∧ DL M' c bs' k ∧ Quiet M' cc
set_option maxRecDepth 100000 in
theorem popen_DL {w : World} {d l : Nat} {M : DM} {okD : Nat → Prop} {cc : Int} {c : Bytes} {bs : List BK} {k : Nat} (hD : DiskAt w d M okD) (hq : Quiet M cc) (hc : cc + 6000 < 1000000) (hL : DL M c bs k) (hsz : (logB bs).length ≤ 4194304) (m : Int) (hm : m = 1 ∨ m = 2) (cn : Nat) (hcn : cn < 4) :
    Calls Tryz.prog 16 #[dp d, .int .i64 m, dp l, .int .i64 cn] w fun e w' => e = .returned (.tuple #[dp w.heap.size, .int .i64 0]) ∧ ∃ c' bs', OLeft w (newPG w.heap.size d l m cn) okD c' bs' k (cc + 4100) w' ∧ comB c' bs' k = comB c bs k ∧ (m = 2 ∨ m = 1 ∧ bs' = []) ∧ (logB bs').length ≤ (logB bs).length := by
  have hnew := PRep.new w d l m cn
  have hW0 := fun (o : Obj) => (show (w.alloc o).heap.size = w.heap.size + 1 from by simp)
  obtain ⟨W, hW⟩ : ∃ W, W = w.alloc (.cells #[dp d, .int .i64 m, dp l, .int .i64 cn, .bool false, .bool false, .bool false, .slice none 0 0, .map none, .int .i64 0, .slice none 0 0, .int .i64 0, .int .i64 (-1)] 113) := ⟨_, rfl⟩
  rw [← hW] at hnew
  have hsW : W.heap.size = w.heap.size + 1 := by rw [hW]; exact hW0 _
  have hbW : Below w.heap.size w W := by rw [hW]; exact (Below.refl _ _).alloc (Nat.le_refl _) _
  obtain ⟨bo, vw, vm, hP⟩ := hnew
  have HC := committed_DL hP (fun j hj => by subst hj; omega) (hD.tight.below hbW) hq hc (fun j hj h => by subst hj; exact Nat.lt_irrefl _ h.2) hL hsz hm
  rw [show (newPG w.heap.size d l m cn).p = w.heap.size from rfl] at HC
  have HC := Aside0.mk HC
  have HCo := Aside0.mk (conn_yes cn w (by omega) (by omega))
  have HX := Aside0.mk (And.intro hW (And.intro hsW hbW))
  clear hD hq hL hcn hP hW hsW hbW hW0
  rcases hm with rfl | rfl
  all_goals
    go_enter Tryz.func16, Tryz.ntmps16
    go_wp2_with (first
      | (go_at_call 49; refine (HCo.out).mono ?_; rintro e w' ⟨rfl, rfl⟩)
      | (go_at_call 50; (try rw [← HX.out.1]); refine (HC.out).mono ?_; rintro e w1 ⟨v, c', bs', rfl, hK, hcom, hmm, hls⟩; obtain ⟨A3, c3, hv3⟩ : ∃ A q, v = .slice A (comB c bs k).length q := by (obtain ⟨_, _, _, hv, _⟩ := hK; exact hv.slice)
         subst hv3
         have H1 := Aside0.mk (And.intro hK (And.intro hcom (And.intro hmm hls))); clear hK hcom hmm hls))
    go_ret2
    obtain ⟨hW, hsW, hbW⟩ := HX.out
    obtain ⟨⟨M', okx, s, hv, hPg, hD', hk', hF, hDL, hQ⟩, hcom, hmm, hls⟩ := H1.out
    have hs1 := hF.size
    refine ⟨rfl, c', bs', ⟨M', okx, s, hPg, hD', fun j hj => ?_, ⟨hF.os.trans hbW.os, hF.tape.trans hbW.tape, hF.output.trans hbW.output, by omega, fun j hj hn => (hF.block j (by omega) (fun h => h.elim (fun h => hn h.1) (fun h => by have h' : j = w.heap.size := h; omega))).trans (hbW.block j hj)⟩, hDL, hQ⟩, hcom, by first | (simp; done) | simpa [newPG] using hmm, hls⟩
    rcases hk' j hj with h | h
    · exact .inl h.1
    · exact .inr ⟨by show w.heap.size < j; omega, h.2⟩

set_option maxRecDepth 100000 in
theorem lopen_DL {w : World} {d : Nat} {M : DM} {okD : Nat → Prop} {cc : Int} {c : Bytes} {bs : List BK} {k : Nat} (hD : DiskAt w d M okD) (hk : ∀ j, okD j → j < w.heap.size) (hq : Quiet M cc) (hc : cc + 6000 < 1000000) (hL : DL M c bs k) (hsz : (logB bs).length ≤ 4194304) (m : Int) (hm : m = 1 ∨ m = 2) :
    Calls Tryz.prog 30 #[dp d, .int .i64 m] w fun e w' => e = .returned (dp (w.heap.size + 1)) ∧ ∃ M' s c' bs', Sys w' ((newPG (w.heap.size + 1) d w.heap.size m 0).sured s) M' (fun j => okD j ∨ w.heap.size ≤ j) ∧ Fr okD w w' ∧ DL M' c' bs' k ∧ Quiet M' (cc + 4100) ∧ comB c' bs' k = comB c bs k ∧ (m = 2 ∨ m = 1 ∧ bs' = []) ∧ (logB bs').length ≤ (logB bs).length := by
  have HN := Aside0.mk (new_any w)
  have HO := popen_DL (w := w.alloc (.cells #[.int .i64 0, .int .i64 0, .int .i64 0, .int .i64 0] 108)) (l := w.heap.size) (hD.alloc _) hq hc hL hsz m hm 0 (by omega)
  rw [show (w.alloc (.cells #[.int .i64 0, .int .i64 0, .int .i64 0, .int .i64 0] 108)).heap.size = w.heap.size + 1 from by simp] at HO
  replace HO := Aside0.mk HO
  have HD := Aside0.mk (And.intro hD hk)
  clear hD hk hq hc hL hsz
  go_enter Tryz.func30, Tryz.ntmps30
  go_wp2_with (first
    | (go_at_call 14; refine (HN.out).mono ?_; rintro e w' ⟨rfl, rfl⟩)
    | (go_at_call 16; refine (HO.out).mono ?_; rintro e w2 ⟨rfl, c', bs', hO, hcom, hmm, hls⟩; have H := Aside0.mk (And.intro hO (And.intro hcom (And.intro hmm hls))); clear hO hcom hmm hls)
    | (go_at_call 15; refine (num12_any _ _).mono ?_; rintro e w' ⟨rfl, rfl⟩))
  go_ret
  obtain ⟨⟨M', okx, s, hPg, hD', hk', hF, hDL, hQ⟩, hcom, hmm, hls⟩ := H.out
  obtain ⟨hD, hk⟩ := HD.out
  have s1 : (w.alloc (.cells #[.int .i64 0, .int .i64 0, .int .i64 0, .int .i64 0] 108)).heap.size = w.heap.size + 1 := by simp
  rw [s1] at hk'
  have hT : Tab 108 (w.alloc (.cells #[.int .i64 0, .int .i64 0, .int .i64 0, .int .i64 0] 108)) w.heap.size (fun _ => 0) := Tab.new w
  have hpl : w.heap.size + 1 < w2.heap.size := hPg.lt
  have hkx : ∀ j, okx j → (okD j ∧ j < w.heap.size) ∨ (w.heap.size + 1 < j ∧ j < w2.heap.size) := fun j hj => (hk' j hj).imp (fun h => ⟨h.1, hk j h.1⟩) id
  refine ⟨rfl, M', s, c', bs', ⟨fun j => j = w.heap.size + 1, okx, fun _ => 0, 0, hPg, hD', (hF.block w.heap.size (by omega) (fun h => by have := hk _ h; omega)).trans hT, ⟨rfl, rfl, rfl, rfl⟩, ?_, fun j hj => ?_, .inr (Nat.le_refl _), rfl, fun _ => rfl, (fun h => by cases h), (fun h => by cases h)⟩, ?_, hDL, hQ, hcom, hmm, hls⟩
  · rintro j rfl
    refine ⟨.inr (by omega), by show _ ≠ w.heap.size; omega, fun h => ?_, hpl⟩
    rcases hkx _ h with h | h
    · have := h.2; omega
    · have := h.1; omega
  · rcases hkx j hj with h | h
    · exact ⟨.inl h.1, by show j ≠ w.heap.size; omega, by omega⟩
    · exact ⟨.inr (by omega), by show j ≠ w.heap.size; omega, h.2⟩
  · exact ⟨hF.os, hF.tape, hF.output, by have := hF.size; omega, fun j hj hn => (hF.block j (by omega) hn).trans (Below.heap_alloc w _ j hj)⟩
end Go.Proofs.YtmdpgjdepflbmaaGreat

/-
  What a pager shows, as the laws ask it: same; its pages.
-/
import Derived.Test.YtmdpgjdepflbmaaGreatCM
import Derived.Test.YtmdpgjdepflbmaaGreatCG
import Derived.Test.YtmdpgjdepflbmaaGreatCJ
namespace Go.Proofs.YtmdpgjdepflbmaaGreat
open Go.RowKit Go.Maps Go.Proofs.YtmdpgjdepflbmaaGreatW.PrintWords Go.Proofs.YtmdpgjdepflbmaaGreatW.PrintLast Go.Proofs.YtmdpgjdepflbmaaGreatW.PrintMore
open Go.Proofs.YtmdpgjdepflbmaaGreat.PPagerFolds
set_option linter.unusedVariables false
set_option linter.unusedSimpArgs false

section
variable {w w1 w2 : World} {X X1 X2 : PG} {M M1 M2 : DM} {ok : Nat → Prop}
theorem SLeft.trans (h : SLeft w X1 M1 ok w1) (k : SLeft w1 X2 M2 (Grow w ok w1) w2) : SLeft w X2 M2 ok w2 := by
  have s1 := h.2.size
  have s2 := k.2.size
  exact ⟨k.1.mono (fun j hj => hj.elim (fun hj => hj.imp id (fun h => ⟨h.1, by omega⟩)) (fun hj => .inr ⟨by omega, hj.2⟩)), h.2.trans k.2 (fun j hj => hj.imp id (fun h => h.1))⟩
theorem SLeft.step (h : SLeft w X1 M1 ok w1) (hb : Below w1.heap.size w1 w2) : SLeft w X1 M1 ok w2 := by
  have s1 := h.2.size
  have s2 := hb.size
  exact ⟨(h.1.below hb).mono (fun j hj => hj.imp id (fun h => ⟨h.1, by omega⟩)), h.2.trans (Fr.of_below (ok := fun _ => False) hb) (fun j hj => hj.elim)⟩
theorem s_count (h : Sys w X M ok) : Calls Tryz.prog 25 #[dp X.p] w fun e w' => e = .returned (.int .i64 X.count) ∧ w = w' := by
  obtain ⟨bo, vw, vm, hP⟩ := h.pg
  have c9 := hP.cell 9
  obtain ⟨ct, hct⟩ : ∃ ct, ct = X.count := ⟨_, rfl⟩
  rw [← hct] at c9 ⊢
  obtain ⟨p, hp⟩ : ∃ p, p = X.p := ⟨_, rfl⟩
  rw [← hp] at c9 ⊢
  clear hP hct hp h
  go_enter Tryz.func25, Tryz.ntmps25
  go_wp2
  go_ret
  exact ⟨rfl, rfl⟩
end

/-- the law's page of a byte -/
theorem page12_l (a : Int) : ∀ (k i : Nat) (l : List Int), l.length = 512 → i ≤ 512 → 512 < i + k → ∃ r, cadastrelaw12_page.l0 k a l i = some r ∧ r.length = 512
  | 0, i, l, h1, h2, h3 => by omega
  | k + 1, i, l, h1, h2, h3 => by
    unfold cadastrelaw12_page.l0
    by_cases hc : i < 512
    · rw [if_pos (by omega), if_pos (by omega), wrap64_small (x := (i : Int) + 1) (by omega) (by omega)]
      exact page12_l a k (i + 1) _ (by rw [List.length_set]; exact h1) (by omega) (by omega)
    · rw [if_neg (by omega)]
      exact ⟨l, rfl, h1⟩
theorem page12_f (a : Int) : ∃ r, cadastrelaw12_page.f 513 a = some r ∧ r.length = 512 := by
  unfold cadastrelaw12_page.f
  rw [if_pos (by decide)]
  exact page12_l a 513 0 _ (by rw [List.length_replicate]) (by omega) (by omega)
def pg12 (a : Int) : Bytes := (cadastrelaw12_page.f 513 a).getD []
theorem pg12_length (a : Int) : (pg12 a).length = 512 := by
  obtain ⟨r, h1, h2⟩ := page12_f a
  unfold pg12
  rw [h1]; exact h2
theorem page12_any (a : Int) (w : World) : Calls Tryz.prog 21 #[.int .i64 a] w fun e w' => ∃ v, e = .returned v ∧ (Kd.int .u8).R 5 w' w.heap.size (fun k => w.heap.size ≤ k) v (pg12 a) ∧ Below w.heap.size w w' := by
  obtain ⟨r, h1, h2⟩ := page12_f a
  have e : pg12 a = r := by unfold pg12; rw [h1]; rfl
  rw [e]
  refine (cadastrelaw12_page.calls 513 a r w h1).mono ?_
  rintro e w' ⟨v, rfl, hv, hb⟩
  exact ⟨v, rfl, Kd.R_of_own (Kd.own_of_R hv) (fun k hk => own_base (Kd.own_of_R hv) k hk), hb⟩
/-- the law's mode of a number -/
def mode12 (a : Int) : Int := (cadastrelaw12_Mode.f a).getD 1
theorem within2 (a : Int) : ∃ r, cadastrelaw0_Within.f a 2 = some r ∧ (r = 0 ∨ r = 1) := by
  have e1 : IntKind.u64.wrap (2 : Int) = 2 := by simp [IntKind.wrap, IntKind.bits, IntKind.signed]
  have hu : 0 ≤ IntKind.u64.wrap a := by simp [IntKind.wrap, IntKind.bits, IntKind.signed]; omega
  refine ⟨IntKind.u64.wrap a % 2, ?_, by omega⟩
  unfold cadastrelaw0_Within.f
  rw [e1, if_neg (by omega), Int.tmod_eq_emod_of_nonneg hu, wrap64_small (by omega) (by omega)]
theorem mode12_or (a : Int) : cadastrelaw12_Mode.f a = some (mode12 a) ∧ (mode12 a = 1 ∨ mode12 a = 2) := by
  obtain ⟨r, h1, h2⟩ := within2 a
  unfold mode12 cadastrelaw12_Mode.f
  rw [h1, Option.bind_some]
  rcases h2 with rfl | rfl
  · exact ⟨rfl, .inl (by rw [wrap64_small (by omega) (by omega)]; rfl)⟩
  · exact ⟨rfl, .inr (by rw [wrap64_small (by omega) (by omega)]; rfl)⟩
theorem mode12_any (a : Int) (w : World) : Calls Tryz.prog 17 #[.int .i64 a] w fun e w' => e = .returned (.int .i64 (mode12 a)) ∧ ∃ m, w' = w.drewN m :=
  (cadastrelaw12_Mode.calls a _ w (mode12_or a).1).mono (by
    rintro e w' ⟨rfl, m, rfl⟩
    exact ⟨rfl, m, rfl⟩)

/-- pages in a slice -/
def WantAt (w : World) (P : Nat → Prop) (A : Option Addr) (n c : Nat) (L : List Bytes) : Prop := L.length = n ∧ n ≤ c ∧ ∀ (i : Nat) (bs : Bytes), L[i]? = some bs → ∃ tb off v, A = some ⟨tb, off, none⟩ ∧ w.cell? ⟨tb, off + i, none⟩ = some v ∧ P tb ∧ bs.length = 512 ∧ U8.R 5 w 0 P v bs
theorem WantAt.move {w w' : World} {P : Nat → Prop} {A : Option Addr} {n c : Nat} {L : List Bytes} (h : WantAt w P A n c L) (hm : ∀ k, P k → k < w.heap.size → w'.heap[k]? = w.heap[k]?) : WantAt w' P A n c L := by
  obtain ⟨h1, h2, h3⟩ := h
  refine ⟨h1, h2, fun i bs hi => ?_⟩
  obtain ⟨tb, off, v, rfl, hc, hp, h5, hR⟩ := h3 i bs hi
  exact ⟨tb, off, v, rfl, (World.cell?_of_block (a := ⟨tb, off + i, none⟩) (hm tb hp (World.block_lt_of_cell? _ _ hc))).trans hc, hp, h5, Kd.R_step hR (fun k hk hl => hm k hk hl)⟩
set_option maxHeartbeats 2000000 in
set_option maxRecDepth 100000 in
theorem same_any {w : World} {p : Nat} {Xb : PG} {Mb : DM} {ok : Nat → Prop} {A : Option Addr} {n c : Nat} {L : List Bytes}
    (hBeg : Calls Tryz.prog 19 #[dp p] w fun e w' => e = .returned (.int .i64 0) ∧ SLeft w Xb Mb ok w')
    (hp : Xb.p = p) (hd : Xb.dead = false) (hi : Xb.inn = true) (hwl : Xb.was.length ≤ 4194304) (hcnt : Xb.count = n) (hv : ∀ (i : Nat) (bs : Bytes), L[i]? = some bs → Xb.view i = bs) (hW : WantAt w (fun k => ¬ ok k) A n c L) (hn : n ≤ 4096) :
    Calls Tryz.prog 28 #[dp p, .slice A n c] w fun e w' => e = .returned (.bool true) ∧ SLeft w Xb.ended Mb ok w' := by
  have HB := Aside0.mk hBeg
  have HW := Aside0.mk hW
  have HX := Aside0.mk (And.intro hp (And.intro hd (And.intro hi (And.intro hwl (And.intro hcnt hv)))))
  clear hBeg hW hp hd hi hwl hv hcnt
  go_enter Tryz.func28, Tryz.ntmps28
  go_wp2_with (first
    | (go_at_call 19; refine HB.out.mono ?_; rintro e w1 ⟨rfl, hS⟩
       have hC := s_count hS.1
       rw [HX.out.1, HX.out.2.2.2.2.1] at hC
       have HC := Aside0.mk hC
       have hF := hS.2
       have HW1 := Aside0.mk (HW.out.move (w' := w1) (fun k hk hl => hF.block k hl hk))
       have HS := Aside0.mk hS
       clear hS hC hF)
    | (go_at_call 25; refine HC.out.mono ?_; rintro e w' ⟨rfl, rfl⟩)
    | (go_at_call 15; refine (num12_any _ _).mono ?_; rintro e w' ⟨rfl, rfl⟩))
  go_loopw [5, 6] (fun v5 v6 wr => ∃ i : Nat, v5 = .bool true ∧ v6 = .int .i64 i ∧ i ≤ n ∧ Aside0 (SLeft w Xb Mb ok wr)) (fun _ v6 _ => n - (intOf v6).toNat)
  case atStart => exact ⟨0, rfl, rfl, by omega, ⟨HS.out⟩⟩
  case round =>
    obtain ⟨i, rfl, rfl, hi, HI⟩ := hrel
    by_cases h5 : i < n
    · obtain ⟨hp, hd, hii, hwl, _, hv⟩ := HX.out
      have hF := HI.out.2
      obtain ⟨hL, hnc, hw⟩ := HW.out.move (w' := wr) (fun k hk hl => hF.block k hl hk)
      obtain ⟨bs, hbs⟩ : ∃ bs, L[i]? = some bs := ⟨_, List.getElem?_eq_getElem (by omega)⟩
      obtain ⟨tb, off, v, rfl, hcx, hptb, h512, hR⟩ := hw i bs hbs
      obtain ⟨Av, cv, rfl⟩ := Kd.R_slice hR
      rw [h512] at hR hcx
      have hRd := pread_in HI.out.1.pg (i : Int) hd hii (by omega) (by omega) hwl
      rw [hp, hv i bs hbs] at hRd
      have HR := Aside0.mk hRd
      have HV := Aside0.mk (And.intro hR h512)
      clear hp hd hii hwl hv hF hL hw hRd hR hptb h512 hbs
      go_wp2_with (first
        | (go_at_call 23; refine HR.out.mono ?_; rintro e w7 ⟨v7, rfl, hv7, hb7⟩
           obtain ⟨A7, c7, rfl⟩ := Kd.R_slice hv7
           rw [HV.out.2] at hv7 ⊢
           obtain ⟨hC7, hc7, _⟩ := C_of_row hv7
           have d0 : w7.cell? ⟨tb, off + i, none⟩ = _ := (hb7.cell (p := ⟨tb, off + i, none⟩) (World.block_lt_of_cell? _ _ hcx)).trans hcx
           obtain ⟨hCt, hct, _⟩ := C_of_row (Kd.R_below HV.out.1 hb7)
           have HE := eqbytes_any hC7 hc7 hCt hct (by omega)
           rw [decide_eq_true rfl] at HE
           replace HE := Aside0.mk HE
           have H7 := Aside0.mk hb7
           clear hv7 hb7 hC7 hc7 hCt hct)
        | (go_at_call 24; refine HE.out.mono ?_; rintro e w' ⟨rfl, m7, rfl⟩)
        | (go_at_call 15; refine (num12_any _ _).mono ?_; rintro e w' ⟨rfl, rfl⟩))
      go_roundw
      case rel => exact ⟨i + 1, rfl, by go_num, by omega, ⟨(HI.out.step H7.out).step (pw_below_drewN (Below.refl _ _) m7)⟩⟩
      case measure => simp [intOf]; omega
    · have hRo := s_roll HI.out.1 HX.out.2.1 HX.out.2.2.1
      rw [HX.out.1] at hRo
      have HRo := Aside0.mk hRo
      clear hRo
      go_wp2_with (first
        | (go_at_call 27; refine HRo.out.mono ?_; rintro e w8 ⟨rfl, hS8⟩; have H8 := Aside0.mk hS8; clear hS8)
        | (go_at_call 15; refine (num12_any _ _).mono ?_; rintro e w' ⟨rfl, rfl⟩))
      go_ret
      exact ⟨rfl, HI.out.trans H8.out⟩
end Go.Proofs.YtmdpgjdepflbmaaGreat
namespace Go.Proofs.YtmdpgjdepflbmaaGreat
open Go.RowKit Go.Maps Go.Proofs.YtmdpgjdepflbmaaGreatW.PrintWords Go.Proofs.YtmdpgjdepflbmaaGreatW.PrintLast Go.Proofs.YtmdpgjdepflbmaaGreatW.PrintMore
open Go.Proofs.YtmdpgjdepflbmaaGreat.PPagerFolds
set_option linter.unusedVariables false
set_option linter.unusedSimpArgs false

theorem Sys.disk {w : World} {X : PG} {M : DM} {ok : Nat → Prop} (h : Sys w X M ok) : ∃ okD : Nat → Prop, DiskAt w X.d M okD ∧ ∀ k, okD k → ok k ∧ k < w.heap.size := by
  obtain ⟨okP, okD, x, v, h1, h2, h3, h4, h5, h6, h7, h8⟩ := h
  exact ⟨okD, h2, fun k hk => ⟨(h6 k hk).1, (h6 k hk).2.2⟩⟩
theorem quiet0 : Quiet M0 0 := ⟨rfl, fun _ => rfl, Int.le_refl _, Int.le_refl _, fun x h => by simp [M0] at h, fun x f h => by simp [M0] at h⟩
theorem Sys.own_len {w : World} {X : PG} {M : DM} {ok : Nat → Prop} (h : Sys w X M ok) (hi : X.inn = true) : ∀ n p, X.own n = some p → 0 ≤ n ∧ n < 4096 ∧ p.length = 512 := fun n p hp => by
  obtain ⟨bo, vw, vm, hP⟩ := h.pg
  exact own_range (hP.own hi) hp
set_option maxHeartbeats 2000000 in
set_option maxRecDepth 100000 in
theorem wakes12_any (w : World) : Calls Tryz.prog 29 #[] w fun e w' => e = .returned (.bool true) ∧ Below w.heap.size w w' := by
  have HD := Aside0.mk (dnew_nil w)
  go_enter Tryz.func29, Tryz.ntmps29
  go_wp2_with (first
    | (go_at_call 13; refine (HD.out).mono ?_; rintro e w1 ⟨rfl, hD, hb⟩
       have HO := Aside0.mk (lopen_any (hD.tight') JQ.zero (fun k hk => hk.2) 1 (.inl rfl))
       have H1 := Aside0.mk (And.intro hD hb)
       clear hD hb)
    | (go_at_call 30; refine (HO2.out).mono ?_; rintro e w7 ⟨rfl, hS7, hb7⟩; have H7 := Aside0.mk (And.intro hS7 hb7); clear hS7 hb7)
    | (go_at_call 30; refine (HO.out).mono ?_; rintro e w2 ⟨rfl, hS, hb2⟩
       have HBg := Aside0.mk (s_begin hS JQ.zero rfl rfl rfl rfl)
       have H2 := Aside0.mk (And.intro hS hb2)
       clear hS hb2)
    | (go_at_call 19; refine (HBg.out).mono ?_; rintro e w3 ⟨rfl, hS3⟩; have H3 := Aside0.mk hS3; clear hS3)
    | (go_at_call 21; refine (page12_any 3 _).mono ?_; rintro e w8 ⟨v8, rfl, hv8, hb8⟩
       have H7' := H7.out
       obtain ⟨A8, c8, rfl⟩ := Kd.R_slice hv8
       rw [pg12_length] at hv8 ⊢
       have H8 := Aside0.mk (And.intro hv8 hb8)
       clear hv8 hb8 H7')
    | (go_at_call 21; refine (page12_any 3 _).mono ?_; rintro e w4 ⟨v4, rfl, hv4, hb4⟩
       obtain ⟨b4, c4, rfl, _⟩ := Kd.R_form hv4 (by rw [pg12_length]; omega)
       rw [pg12_length] at hv4 ⊢
       obtain ⟨hC4, _, _⟩ := C_of_row hv4
       have hS4 := H3.out.1.tight.below hb4
       have HWr := Aside0.mk (s_write (cb := c4) hS4 0 rfl rfl (by omega) (by omega) hC4 (fun ad e => by cases e; exact ⟨fun hk => absurd hk.2 (Nat.not_lt.2 (row_base hv4)), row_lt hv4⟩))
       have H4 := Aside0.mk hb4
       clear hv4 hb4 hC4 hS4)
    | (go_at_call 20; refine HWr.out.mono ?_; rintro e w5 ⟨rfl, hS5⟩
       have hT : TI ((PG.begun (newPG (w1.heap.size + 1) (w.heap.size + 2) w1.heap.size 1 0) M0).put 0 (pg12 3)) := (TI.begun rfl rfl (by simp [baseB, M0]) (by simp [baseB, M0])).put 0 _ (by omega)
       have HCm := Aside0.mk (s_commit hS5.1 quiet0 (by omega) rfl rfl rfl hT)
       have H5 := Aside0.mk (And.intro hS5 hT)
       clear hS5 hT)
    | (go_at_call 26; refine HCm.out.mono ?_; rintro e w6 ⟨rfl, M', hS6, hC, hQ⟩
       obtain ⟨p1, p2, p3, p4⟩ := commit_pages H5.out.2 (H5.out.1.1.own_len rfl) rfl hC rfl
       have hJ : JQ M' := JQ.commit JQ.zero H5.out.2 hQ p1 p3 p4
       obtain ⟨okD, hD6, hk6⟩ := hS6.1.disk
       have HO2 := Aside0.mk (lopen_any hD6 hJ (fun k hk => (hk6 k hk).2) 2 (.inr rfl))
       have H6 := Aside0.mk (And.intro hS6 (And.intro hJ (And.intro p1 (And.intro p2 hk6))))
       clear hS6 hC hQ p1 p2 p3 p4 hJ hD6 hk6)
    | (go_at_call 15; refine (num12_any _ _).mono ?_; rintro e w' ⟨rfl, rfl⟩))
  have hs7 := H7.out.1
  obtain ⟨hv8, hb8⟩ := H8.out
  have hbW : Below w7.heap.size w7 (w8.alloc (.cells #[.slice A8 512 c8] 48)) := hb8.alloc hb8.size _
  have hBeg := s_begin2 (hs7.tight.below hbW) H6.out.2.1 (.inr rfl) rfl rfl rfl
  have hwant : WantAt (w8.alloc (.cells #[.slice A8 512 c8] 48)) (fun k => ¬ ((okD k ∨ w6.heap.size ≤ k) ∧ k < w7.heap.size)) (some ⟨w8.heap.size, 0, none⟩) 1 1 [pg12 3] := by
    refine ⟨rfl, Nat.le_refl _, fun i bs hi => ?_⟩
    have h0 : i = 0 := by
      have := (List.getElem?_eq_some_iff.1 hi).1
      simpa using this
    subst h0
    obtain rfl : pg12 3 = bs := by simpa using hi
    have s8 := hb8.size
    refine ⟨w8.heap.size, 0, _, rfl, cell_of_row _ _ 0 _ _ (0, 0) (heap_alloc_new w8 _), fun h => by omega, pg12_length 3, Kd.R_mono (Kd.R_lower (Kd.R_alloc hv8 _) (Nat.zero_le _)) (fun k hk h => by omega)⟩
  have hpg : ∀ n : Nat, ((newPG (w6.heap.size + 1) (w.heap.size + 2) w6.heap.size 2 0).begun M').view n = ((PG.begun (newPG (w1.heap.size + 1) (w.heap.size + 2) w1.heap.size 1 0) M0).put 0 (pg12 3)).view n := fun n => (page_nat ((newPG (w6.heap.size + 1) (w.heap.size + 2) w6.heap.size 2 0).begun M') n).trans (H6.out.2.2.2.1 n)
  have hc1 : ((PG.begun (newPG (w1.heap.size + 1) (w.heap.size + 2) w1.heap.size 1 0) M0).put 0 (pg12 3)).count = 1 := by
    show max (((baseB M0).length / 512 : Nat) : Int) (0 + 1) = 1
    rw [show baseB M0 = [] from rfl]
    rfl
  have hSm := same_any (n := 1) (c := 1) (L := [pg12 3]) hBeg rfl rfl rfl (by have := H6.out.2.1.len; show (baseB M').length ≤ _; omega) (by show (((baseB M').length / 512 : Nat) : Int) = _; rw [H6.out.2.2.1, hc1]; rfl) (fun i bs hi => by
    have h0 : i = 0 := by
      have := (List.getElem?_eq_some_iff.1 hi).1
      simpa using this
    subst h0
    obtain rfl : pg12 3 = bs := by simpa using hi
    exact (hpg 0).trans (by simp [PG.view, PG.put])) hwant (by omega)
  refine hSm.mono ?_; rintro e w10 ⟨rfl, hS10⟩
  have H10 := Aside0.mk (And.intro hS10 hbW)
  clear hs7 hv8 hb8 hbW hBeg hwant hpg hc1 hSm hS10
  go_wp2
  go_ret
  refine ⟨rfl, ?_⟩
  have hb1 := H1.out.2
  have hb2 := H2.out.2
  have hF3 := H3.out.2
  have hb4 := H4.out
  have hF5 := H5.out.1.2
  have hF6 := H6.out.1.2
  have hk6 := H6.out.2.2.2.2
  have hb7 := H7.out.2
  obtain ⟨hS10, hbW⟩ := H10.out
  have hF10 := hS10.2
  have s1 := hb1.size
  have s2 := hb2.size
  have s3 := hF3.size
  have s4 := hb4.size
  have s5 := hF5.size
  have s6 := hF6.size
  have s7 := hb7.size
  have b3 : Below w.heap.size w w3 := (hb1.trans (hb2.mono s1)).trans (hF3.below (fun k hk => by omega) (by omega))
  have b4 : Below w.heap.size w w4 := b3.trans (hb4.mono (by omega))
  have b5 : Below w.heap.size w w5 := b4.trans (hF5.below (fun k hk => by rcases hk.1 with h | h <;> omega) (by omega))
  have b6 : Below w.heap.size w w6 := b5.trans (hF6.below (fun k hk => by
    rcases hk with h | h
    · rcases h.1 with h | h <;> omega
    · omega) (by omega))
  have b7 : Below w.heap.size w w7 := b6.trans (hb7.mono (by omega))
  have bW := b7.trans (hbW.mono (by omega))
  refine bW.trans (hF10.below (fun k hk => ?_) bW.size)
  rcases hk.1 with h | h
  · rcases (hk6 k h).1 with h | h
    · rcases h with h | h
      · rcases h.1 with h | h <;> omega
      · omega
    · omega
  · omega
end Go.Proofs.YtmdpgjdepflbmaaGreat
namespace Go.Proofs.YtmdpgjdepflbmaaGreat
open Go.RowKit Go.Maps Go.Proofs.YtmdpgjdepflbmaaGreatW.PrintWords Go.Proofs.YtmdpgjdepflbmaaGreatW.PrintLast Go.Proofs.YtmdpgjdepflbmaaGreatW.PrintMore
open Go.Proofs.YtmdpgjdepflbmaaGreat.PPagerFolds
set_option linter.unusedVariables false
set_option linter.unusedSimpArgs false

end Go.Proofs.YtmdpgjdepflbmaaGreat
namespace Go.Proofs.YtmdpgjdepflbmaaGreat
open Go.RowKit Go.Maps Go.Proofs.YtmdpgjdepflbmaaGreatW.PrintWords Go.Proofs.YtmdpgjdepflbmaaGreatW.PrintLast Go.Proofs.YtmdpgjdepflbmaaGreatW.PrintMore
open Go.Proofs.YtmdpgjdepflbmaaGreat.PPagerFolds
set_option linter.unusedVariables false
set_option linter.unusedSimpArgs false

end Go.Proofs.YtmdpgjdepflbmaaGreat
namespace Go.Proofs.YtmdpgjdepflbmaaGreat
open Go.RowKit Go.Maps Go.Proofs.YtmdpgjdepflbmaaGreatW.PrintWords Go.Proofs.YtmdpgjdepflbmaaGreatW.PrintLast Go.Proofs.YtmdpgjdepflbmaaGreatW.PrintMore
open Go.Proofs.YtmdpgjdepflbmaaGreat.PPagerFolds
set_option linter.unusedVariables false
set_option linter.unusedSimpArgs false

section
variable {w : World} {X : PG} {M : DM} {ok : Nat → Prop}
end
end Go.Proofs.YtmdpgjdepflbmaaGreat
namespace Go.Proofs.YtmdpgjdepflbmaaGreat
open Go.RowKit Go.Maps Go.Proofs.YtmdpgjdepflbmaaGreatW.PrintWords Go.Proofs.YtmdpgjdepflbmaaGreatW.PrintLast Go.Proofs.YtmdpgjdepflbmaaGreatW.PrintMore
open Go.Proofs.YtmdpgjdepflbmaaGreat.PPagerFolds
set_option linter.unusedVariables false
set_option linter.unusedSimpArgs false

/-! ### what the law does, in plain words -/
/-! ### the pager and a row of numbers, side by side -/
section
variable {W w w' : World} {X X' : PG} {M M' : DM} {ids : List Int} {v : Value}
end
end Go.Proofs.YtmdpgjdepflbmaaGreat

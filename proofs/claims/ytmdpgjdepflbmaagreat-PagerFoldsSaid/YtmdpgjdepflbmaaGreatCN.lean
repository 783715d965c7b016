/-
  What a pager shows, as the laws ask it: same; its pages.
-/
import Derived.Test.YtmdpgjdepflbmaaGreatCM
import Derived.Test.YtmdpgjdepflbmaaGreatCG
import Derived.Test.YtmdpgjdepflbmaaGreatCJ
namespace Go.Proofs.YtmdpgjdepflbmaaGreat
open Go.RowKit Go.Maps Go.Proofs.YtmdpgjdepflbmaaGreatW.PrintWords Go.Proofs.YtmdpgjdepflbmaaGreatW.PrintLast Go.Proofs.YtmdpgjdepflbmaaGreatW.PrintMore
open Go.Proofs.YtmdpgjdepflbmaaGreat.PPagerFolds
set_option linter.unusedVariables false
set_option linter.unusedSimpArgs false

section
variable {w w1 w2 : World} {X X1 X2 : PG} {M M1 M2 : DM} {ok : Nat → Prop}
theorem SLeft.trans (h : SLeft w X1 M1 ok w1) (k : SLeft w1 X2 M2 (Grow w ok w1) w2) : SLeft w X2 M2 ok w2 := by
  have s1 := h.2.size
  have s2 := k.2.size
  exact ⟨k.1.mono (fun j hj => hj.elim (fun hj => hj.imp id (fun h => ⟨h.1, by omega⟩)) (fun hj => .inr ⟨by omega, hj.2⟩)), h.2.trans k.2 (fun j hj => hj.imp id (fun h => h.1))⟩
theorem SLeft.step (h : SLeft w X1 M1 ok w1) (hb : Below w1.heap.size w1 w2) : SLeft w X1 M1 ok w2 := by
  have s1 := h.2.size
  have s2 := hb.size
  exact ⟨(h.1.below hb).mono (fun j hj => hj.imp id (fun h => ⟨h.1, by omega⟩)), h.2.trans (Fr.of_below (ok := fun _ => False) hb) (fun j hj => hj.elim)⟩
theorem s_count (h : Sys w X M ok) : Calls Tryz.prog 25 #[dp X.p] w fun e w' => e = .returned (.int .i64 X.count) ∧ w = w' := by
  obtain ⟨bo, vw, vm, hP⟩ := h.pg
  have c9 := hP.cell 9
  obtain ⟨ct, hct⟩ : ∃ ct, ct = X.count := ⟨_, rfl⟩
  rw [← hct] at c9 ⊢
  obtain ⟨p, hp⟩ : ∃ p, p = X.p := ⟨_, rfl⟩
  rw [← hp] at c9 ⊢
  clear hP hct hp h
  go_enter Tryz.func25, Tryz.ntmps25
  go_wp2
  go_ret
  exact ⟨rfl, rfl⟩
end

/-- the law's page of a byte -/
theorem page12_l (a : Int) : ∀ (k i : Nat) (l : List Int), l.length = 512 → i ≤ 512 → 512 < i + k → ∃ r, cadastrelaw12_page.l0 k a l i = some r ∧ r.length = 512
  | 0, i, l, h1, h2, h3 => by omega
  | k + 1, i, l, h1, h2, h3 => by
    unfold cadastrelaw12_page.l0
    by_cases hc : i < 512
    · rw [if_pos (by omega), if_pos (by omega), wrap64_small (x := (i : Int) + 1) (by omega) (by omega)]
      exact page12_l a k (i + 1) _ (by rw [List.length_set]; exact h1) (by omega) (by omega)
    · rw [if_neg (by omega)]
      exact ⟨l, rfl, h1⟩
theorem page12_f (a : Int) : ∃ r, cadastrelaw12_page.f 513 a = some r ∧ r.length = 512 := by
  unfold cadastrelaw12_page.f
  rw [if_pos (by decide)]
  exact page12_l a 513 0 _ (by rw [List.length_replicate]) (by omega) (by omega)
def pg12 (a : Int) : Bytes := (cadastrelaw12_page.f 513 a).getD []
theorem pg12_length (a : Int) : (pg12 a).length = 512 := by
  obtain ⟨r, h1, h2⟩ := page12_f a
  unfold pg12
  rw [h1]; exact h2
theorem page12_any (a : Int) (w : World) : Calls Tryz.prog 21 #[.int .i64 a] w fun e w' => ∃ v, e = .returned v ∧ (Kd.int .u8).R 5 w' w.heap.size (fun k => w.heap.size ≤ k) v (pg12 a) ∧ Below w.heap.size w w' := by
  obtain ⟨r, h1, h2⟩ := page12_f a
  have e : pg12 a = r := by unfold pg12; rw [h1]; rfl
  rw [e]
  refine (cadastrelaw12_page.calls 513 a r w h1).mono ?_
  rintro e w' ⟨v, rfl, hv, hb⟩
  exact ⟨v, rfl, Kd.R_of_own (Kd.own_of_R hv) (fun k hk => own_base (Kd.own_of_R hv) k hk), hb⟩
/-- the law's mode of a number -/
def mode12 (a : Int) : Int := (cadastrelaw12_Mode.f a).getD 1
theorem within2 (a : Int) : ∃ r, cadastrelaw0_Within.f a 2 = some r ∧ (r = 0 ∨ r = 1) := by
  have e1 : IntKind.u64.wrap (2 : Int) = 2 := by simp [IntKind.wrap, IntKind.bits, IntKind.signed]
  have hu : 0 ≤ IntKind.u64.wrap a := by simp [IntKind.wrap, IntKind.bits, IntKind.signed]; omega
  refine ⟨IntKind.u64.wrap a % 2, ?_, by omega⟩
  unfold cadastrelaw0_Within.f
  rw [e1, if_neg (by omega), Int.tmod_eq_emod_of_nonneg hu, wrap64_small (by omega) (by omega)]
theorem mode12_or (a : Int) : cadastrelaw12_Mode.f a = some (mode12 a) ∧ (mode12 a = 1 ∨ mode12 a = 2) := by
  obtain ⟨r, h1, h2⟩ := within2 a
  unfold mode12 cadastrelaw12_Mode.f
  rw [h1, Option.bind_some]
  rcases h2 with rfl | rfl
  · exact ⟨rfl, .inl (by rw [wrap64_small (by omega) (by omega)]; rfl)⟩
  · exact ⟨rfl, .inr (by rw [wrap64_small (by omega) (by omega)]; rfl)⟩
theorem mode12_any (a : Int) (w : World) : Calls Tryz.prog 17 #[.int .i64 a] w fun e w' => e = .returned (.int .i64 (mode12 a)) ∧ ∃ m, w' = w.drewN m :=
  (cadastrelaw12_Mode.calls a _ w (mode12_or a).1).mono (by
    rintro e w' ⟨rfl, m, rfl⟩
    exact ⟨rfl, m, rfl⟩)

/-- pages in a slice -/
def WantAt (w : World) (P : Nat → Prop) (A : Option Addr) (n c : Nat) (L : List Bytes) : Prop := L.length = n ∧ n ≤ c ∧ ∀ (i : Nat) (bs : Bytes), L[i]? = some bs → ∃ tb off v, A = some ⟨tb, off, none⟩ ∧ w.cell? ⟨tb, off + i, none⟩ = some v ∧ P tb ∧ bs.length = 512 ∧ U8.R 5 w 0 P v bs
theorem WantAt.move {w w' : World} {P : Nat → Prop} {A : Option Addr} {n c : Nat} {L : List Bytes} (h : WantAt w P A n c L) (hm : ∀ k, P k → k < w.heap.size → w'.heap[k]? = w.heap[k]?) : WantAt w' P A n c L := by
  obtain ⟨h1, h2, h3⟩ := h
  refine ⟨h1, h2, fun i bs hi => ?_⟩
  obtain ⟨tb, off, v, rfl, hc, hp, h5, hR⟩ := h3 i bs hi
  exact ⟨tb, off, v, rfl, (World.cell?_of_block (a := ⟨tb, off + i, none⟩) (hm tb hp (World.block_lt_of_cell? _ _ hc))).trans hc, hp, h5, Kd.R_step hR (fun k hk hl => hm k hk hl)⟩
set_option maxHeartbeats 2000000 in
set_option maxRecDepth 100000 in
theorem same_any {w : World} {p : Nat} {Xb : PG} {Mb : DM} {ok : Nat → Prop} {A : Option Addr} {n c : Nat} {L : List Bytes}
    (hBeg : Calls Tryz.prog 19 #[dp p] w fun e w' => e = .returned (.int .i64 0) ∧ SLeft w Xb Mb ok w')
    (hp : Xb.p = p) (hd : Xb.dead = false) (hi : Xb.inn = true) (hwl : Xb.was.length ≤ 4194304) (hcnt : Xb.count = n) (hv : ∀ (i : Nat) (bs : Bytes), L[i]? = some bs → Xb.view i = bs) (hW : WantAt w (fun k => ¬ ok k) A n c L) (hn : n ≤ 4096) :
    Calls Tryz.prog 28 #[dp p, .slice A n c] w fun e w' => e = .returned (.bool true) ∧ SLeft w Xb.ended Mb ok w' := by
  have HB := Aside0.mk hBeg
  have HW := Aside0.mk hW
  have HX := Aside0.mk (And.intro hp (And.intro hd (And.intro hi (And.intro hwl (And.intro hcnt hv)))))
  clear hBeg hW hp hd hi hwl hv hcnt
  go_enter Tryz.func28, Tryz.ntmps28
  go_wp2_with (first
    | (go_at_call 19; refine HB.out.mono ?_; rintro e w1 ⟨rfl, hS⟩
       have hC := s_count hS.1
       rw [HX.out.1, HX.out.2.2.2.2.1] at hC
       have HC := Aside0.mk hC
       have hF := hS.2
       have HW1 := Aside0.mk (HW.out.move (w' := w1) (fun k hk hl => hF.block k hl hk))
       have HS := Aside0.mk hS
       clear hS hC hF)
    | (go_at_call 25; refine HC.out.mono ?_; rintro e w' ⟨rfl, rfl⟩)
    | (go_at_call 15; refine (num12_any _ _).mono ?_; rintro e w' ⟨rfl, rfl⟩))
  go_loopw [5, 6] (fun v5 v6 wr => ∃ i : Nat, v5 = .bool true ∧ v6 = .int .i64 i ∧ i ≤ n ∧ Aside0 (SLeft w Xb Mb ok wr)) (fun _ v6 _ => n - (intOf v6).toNat)
  case atStart => exact ⟨0, rfl, rfl, by omega, ⟨HS.out⟩⟩
  case round =>
    obtain ⟨i, rfl, rfl, hi, HI⟩ := hrel
    by_cases h5 : i < n
    · obtain ⟨hp, hd, hii, hwl, _, hv⟩ := HX.out
      have hF := HI.out.2
      obtain ⟨hL, hnc, hw⟩ := HW.out.move (w' := wr) (fun k hk hl => hF.block k hl hk)
      obtain ⟨bs, hbs⟩ : ∃ bs, L[i]? = some bs := ⟨_, List.getElem?_eq_getElem (by omega)⟩
      obtain ⟨tb, off, v, rfl, hcx, hptb, h512, hR⟩ := hw i bs hbs
      obtain ⟨Av, cv, rfl⟩ := Kd.R_slice hR
      rw [h512] at hR hcx
      have hRd := pread_in HI.out.1.pg (i : Int) hd hii (by omega) (by omega) hwl
      rw [hp, hv i bs hbs] at hRd
      have HR := Aside0.mk hRd
      have HV := Aside0.mk (And.intro hR h512)
      clear hp hd hii hwl hv hF hL hw hRd hR hptb h512 hbs
      go_wp2_with (first
        | (go_at_call 23; refine HR.out.mono ?_; rintro e w7 ⟨v7, rfl, hv7, hb7⟩
           obtain ⟨A7, c7, rfl⟩ := Kd.R_slice hv7
           rw [HV.out.2] at hv7 ⊢
           obtain ⟨hC7, hc7, _⟩ := C_of_row hv7
           have d0 : w7.cell? ⟨tb, off + i, none⟩ = _ := (hb7.cell (p := ⟨tb, off + i, none⟩) (World.block_lt_of_cell? _ _ hcx)).trans hcx
           obtain ⟨hCt, hct, _⟩ := C_of_row (Kd.R_below HV.out.1 hb7)
           have HE := eqbytes_any hC7 hc7 hCt hct (by omega)
           rw [decide_eq_true rfl] at HE
           replace HE := Aside0.mk HE
           have H7 := Aside0.mk hb7
           clear hv7 hb7 hC7 hc7 hCt hct)
        | (go_at_call 24; refine HE.out.mono ?_; rintro e w' ⟨rfl, m7, rfl⟩)
        | (go_at_call 15; refine (num12_any _ _).mono ?_; rintro e w' ⟨rfl, rfl⟩))
      go_roundw
      case rel => exact ⟨i + 1, rfl, by go_num, by omega, ⟨(HI.out.step H7.out).step (pw_below_drewN (Below.refl _ _) m7)⟩⟩
      case measure => simp [intOf]; omega
    · have hRo := s_roll HI.out.1 HX.out.2.1 HX.out.2.2.1
      rw [HX.out.1] at hRo
      have HRo := Aside0.mk hRo
      clear hRo
      go_wp2_with (first
        | (go_at_call 27; refine HRo.out.mono ?_; rintro e w8 ⟨rfl, hS8⟩; have H8 := Aside0.mk hS8; clear hS8)
        | (go_at_call 15; refine (num12_any _ _).mono ?_; rintro e w' ⟨rfl, rfl⟩))
      go_ret
      exact ⟨rfl, HI.out.trans H8.out⟩
end Go.Proofs.YtmdpgjdepflbmaaGreat
namespace Go.Proofs.YtmdpgjdepflbmaaGreat
open Go.RowKit Go.Maps Go.Proofs.YtmdpgjdepflbmaaGreatW.PrintWords Go.Proofs.YtmdpgjdepflbmaaGreatW.PrintLast Go.Proofs.YtmdpgjdepflbmaaGreatW.PrintMore
open Go.Proofs.YtmdpgjdepflbmaaGreat.PPagerFolds
set_option linter.unusedVariables false
set_option linter.unusedSimpArgs false

theorem Sys.disk {w : World} {X : PG} {M : DM} {ok : Nat → Prop} (h : Sys w X M ok) : ∃ okD : Nat → Prop, DiskAt w X.d M okD ∧ ∀ k, okD k → ok k ∧ k < w.heap.size := by
  obtain ⟨okP, okD, x, v, h1, h2, h3, h4, h5, h6, h7, h8⟩ := h
  exact ⟨okD, h2, fun k hk => ⟨(h6 k hk).1, (h6 k hk).2.2⟩⟩
theorem quiet0 : Quiet M0 0 := ⟨rfl, fun _ => rfl, Int.le_refl _, Int.le_refl _, fun x h => by simp [M0] at h, fun x f h => by simp [M0] at h⟩
theorem Sys.own_len {w : World} {X : PG} {M : DM} {ok : Nat → Prop} (h : Sys w X M ok) (hi : X.inn = true) : ∀ n p, X.own n = some p → 0 ≤ n ∧ n < 4096 ∧ p.length = 512 := fun n p hp => by
  obtain ⟨bo, vw, vm, hP⟩ := h.pg
  exact own_range (hP.own hi) hp
set_option maxHeartbeats 2000000 in
set_option maxRecDepth 100000 in
theorem wakes12_any (w : World) : Calls Tryz.prog 29 #[] w fun e w' => e = .returned (.bool true) ∧ Below w.heap.size w w' := by
  have HD := Aside0.mk (dnew_nil w)
  go_enter Tryz.func29, Tryz.ntmps29
  go_wp2_with (first
    | (go_at_call 13; refine (HD.out).mono ?_; rintro e w1 ⟨rfl, hD, hb⟩
       have HO := Aside0.mk (lopen_any (hD.tight') JQ.zero (fun k hk => hk.2) 1 (.inl rfl))
       have H1 := Aside0.mk (And.intro hD hb)
       clear hD hb)
    | (go_at_call 30; refine (HO2.out).mono ?_; rintro e w7 ⟨rfl, hS7, hb7⟩; have H7 := Aside0.mk (And.intro hS7 hb7); clear hS7 hb7)
    | (go_at_call 30; refine (HO.out).mono ?_; rintro e w2 ⟨rfl, hS, hb2⟩
       have HBg := Aside0.mk (s_begin hS JQ.zero rfl rfl rfl rfl)
       have H2 := Aside0.mk (And.intro hS hb2)
       clear hS hb2)
    | (go_at_call 19; refine (HBg.out).mono ?_; rintro e w3 ⟨rfl, hS3⟩; have H3 := Aside0.mk hS3; clear hS3)
    | (go_at_call 21; refine (page12_any 3 _).mono ?_; rintro e w8 ⟨v8, rfl, hv8, hb8⟩
       have H7' := H7.out
       obtain ⟨A8, c8, rfl⟩ := Kd.R_slice hv8
       rw [pg12_length] at hv8 ⊢
       have H8 := Aside0.mk (And.intro hv8 hb8)
       clear hv8 hb8 H7')
    | (go_at_call 21; refine (page12_any 3 _).mono ?_; rintro e w4 ⟨v4, rfl, hv4, hb4⟩
       obtain ⟨b4, c4, rfl, _⟩ := Kd.R_form hv4 (by rw [pg12_length]; omega)
       rw [pg12_length] at hv4 ⊢
       obtain ⟨hC4, _, _⟩ := C_of_row hv4
       have hS4 := H3.out.1.tight.below hb4
       have HWr := Aside0.mk (s_write (cb := c4) hS4 0 rfl rfl (by omega) (by omega) hC4 (fun ad e => by cases e; exact ⟨fun hk => absurd hk.2 (Nat.not_lt.2 (row_base hv4)), row_lt hv4⟩))
       have H4 := Aside0.mk hb4
       clear hv4 hb4 hC4 hS4)
    | (go_at_call 20; refine HWr.out.mono ?_; rintro e w5 ⟨rfl, hS5⟩
       have hT : TI ((PG.begun (newPG (w1.heap.size + 1) (w.heap.size + 2) w1.heap.size 1 0) M0).put 0 (pg12 3)) := (TI.begun rfl rfl (by simp [baseB, M0]) (by simp [baseB, M0])).put 0 _ (by omega)
       have HCm := Aside0.mk (s_commit hS5.1 quiet0 (by omega) rfl rfl rfl hT)
       have H5 := Aside0.mk (And.intro hS5 hT)
       clear hS5 hT)
    | (go_at_call 26; refine HCm.out.mono ?_; rintro e w6 ⟨rfl, M', hS6, hC, hQ⟩
       obtain ⟨p1, p2, p3, p4⟩ := commit_pages H5.out.2 (H5.out.1.1.own_len rfl) rfl hC rfl
       have hJ : JQ M' := JQ.commit JQ.zero H5.out.2 hQ p1 p3 p4
       obtain ⟨okD, hD6, hk6⟩ := hS6.1.disk
       have HO2 := Aside0.mk (lopen_any hD6 hJ (fun k hk => (hk6 k hk).2) 2 (.inr rfl))
       have H6 := Aside0.mk (And.intro hS6 (And.intro hJ (And.intro p1 (And.intro p2 hk6))))
       clear hS6 hC hQ p1 p2 p3 p4 hJ hD6 hk6)
    | (go_at_call 15; refine (num12_any _ _).mono ?_; rintro e w' ⟨rfl, rfl⟩))
  have hs7 := H7.out.1
  obtain ⟨hv8, hb8⟩ := H8.out
  have hbW : Below w7.heap.size w7 (w8.alloc (.cells #[.slice A8 512 c8] 48)) := hb8.alloc hb8.size _
  have hBeg := s_begin2 (hs7.tight.below hbW) H6.out.2.1 (.inr rfl) rfl rfl rfl
  have hwant : WantAt (w8.alloc (.cells #[.slice A8 512 c8] 48)) (fun k => ¬ ((okD k ∨ w6.heap.size ≤ k) ∧ k < w7.heap.size)) (some ⟨w8.heap.size, 0, none⟩) 1 1 [pg12 3] := by
    refine ⟨rfl, Nat.le_refl _, fun i bs hi => ?_⟩
    have h0 : i = 0 := by
      have := (List.getElem?_eq_some_iff.1 hi).1
      simpa using this
    subst h0
    obtain rfl : pg12 3 = bs := by simpa using hi
    have s8 := hb8.size
    refine ⟨w8.heap.size, 0, _, rfl, cell_of_row _ _ 0 _ _ (0, 0) (heap_alloc_new w8 _), fun h => by omega, pg12_length 3, Kd.R_mono (Kd.R_lower (Kd.R_alloc hv8 _) (Nat.zero_le _)) (fun k hk h => by omega)⟩
  have hpg : ∀ n : Nat, ((newPG (w6.heap.size + 1) (w.heap.size + 2) w6.heap.size 2 0).begun M').view n = ((PG.begun (newPG (w1.heap.size + 1) (w.heap.size + 2) w1.heap.size 1 0) M0).put 0 (pg12 3)).view n := fun n => (page_nat ((newPG (w6.heap.size + 1) (w.heap.size + 2) w6.heap.size 2 0).begun M') n).trans (H6.out.2.2.2.1 n)
  have hc1 : ((PG.begun (newPG (w1.heap.size + 1) (w.heap.size + 2) w1.heap.size 1 0) M0).put 0 (pg12 3)).count = 1 := by
    show max (((baseB M0).length / 512 : Nat) : Int) (0 + 1) = 1
    rw [show baseB M0 = [] from rfl]
    rfl
  have hSm := same_any (n := 1) (c := 1) (L := [pg12 3]) hBeg rfl rfl rfl (by have := H6.out.2.1.len; show (baseB M').length ≤ _; omega) (by show (((baseB M').length / 512 : Nat) : Int) = _; rw [H6.out.2.2.1, hc1]; rfl) (fun i bs hi => by
    have h0 : i = 0 := by
      have := (List.getElem?_eq_some_iff.1 hi).1
      simpa using this
    subst h0
    obtain rfl : pg12 3 = bs := by simpa using hi
    exact (hpg 0).trans (by simp [PG.view, PG.put])) hwant (by omega)
  refine hSm.mono ?_; rintro e w10 ⟨rfl, hS10⟩
  have H10 := Aside0.mk (And.intro hS10 hbW)
  clear hs7 hv8 hb8 hbW hBeg hwant hpg hc1 hSm hS10
  go_wp2
  go_ret
  refine ⟨rfl, ?_⟩
  have hb1 := H1.out.2
  have hb2 := H2.out.2
  have hF3 := H3.out.2
  have hb4 := H4.out
  have hF5 := H5.out.1.2
  have hF6 := H6.out.1.2
  have hk6 := H6.out.2.2.2.2
  have hb7 := H7.out.2
  obtain ⟨hS10, hbW⟩ := H10.out
  have hF10 := hS10.2
  have s1 := hb1.size
  have s2 := hb2.size
  have s3 := hF3.size
  have s4 := hb4.size
  have s5 := hF5.size
  have s6 := hF6.size
  have s7 := hb7.size
  have b3 : Below w.heap.size w w3 := (hb1.trans (hb2.mono s1)).trans (hF3.below (fun k hk => by omega) (by omega))
  have b4 : Below w.heap.size w w4 := b3.trans (hb4.mono (by omega))
  have b5 : Below w.heap.size w w5 := b4.trans (hF5.below (fun k hk => by rcases hk.1 with h | h <;> omega) (by omega))
  have b6 : Below w.heap.size w w6 := b5.trans (hF6.below (fun k hk => by
    rcases hk with h | h
    · rcases h.1 with h | h <;> omega
    · omega) (by omega))
  have b7 : Below w.heap.size w w7 := b6.trans (hb7.mono (by omega))
  have bW := b7.trans (hbW.mono (by omega))
  refine bW.trans (hF10.below (fun k hk => ?_) bW.size)
  rcases hk.1 with h | h
  · rcases (hk6 k h).1 with h | h
    · rcases h with h | h
      · rcases h.1 with h | h <;> omega
      · omega
    · omega
  · omega
end Go.Proofs.YtmdpgjdepflbmaaGreat
namespace Go.Proofs.YtmdpgjdepflbmaaGreat
open Go.RowKit Go.Maps Go.Proofs.YtmdpgjdepflbmaaGreatW.PrintWords Go.Proofs.YtmdpgjdepflbmaaGreatW.PrintLast Go.Proofs.YtmdpgjdepflbmaaGreatW.PrintMore
open Go.Proofs.YtmdpgjdepflbmaaGreat.PPagerFolds
set_option linter.unusedVariables false
set_option linter.unusedSimpArgs false

/-- a disk: its base's bytes, the blocks of its log, how many pages there are -/
structure DL (M : DM) (c : Bytes) (bs : List BK) (k : Nat) : Prop where
  jn : M.fs (nm sJ) = none
  base : baseB M = c
  len : c.length ≤ 2097152
  md : c.length % 512 = 0
  log : (M.fs (nm sL) = none ∧ bs = []) ∨ (M.fs (nm sL) = some (logB bs, logB bs) ∧ bs ≠ [])
  chain : LogOf (c.length / 512) bs k
  /-- all that is seen is safe -/
  syn : ∀ x f, M.fs x = some f → f.1 = f.2
theorem LogOf.nil_k {i k : Nat} (h : LogOf i [] k) : k = i := by
  have h1 : PP.Log i [] k (pmO (unionB [])) := h.log
  have : ∀ (L : List PP.Blk) (k : Nat) (U : PP.PM), PP.Log i L k U → L = [] → k = i := by
    intro L k U hL he
    cases hL with
    | nil => rfl
    | snoc _ _ => simp at he
  exact this _ _ _ h1 rfl
theorem DL.zero : DL M0 [] [] 0 := ⟨rfl, rfl, by simp, by simp, .inl ⟨rfl, rfl⟩, LogOf.nil (by simp), fun x f h => by cases h⟩
theorem DL.is {M : DM} {c : Bytes} {bs : List BK} {k : Nat} (h : DL M c bs k) : LogIs M bs := h.log.imp id (fun h => h.1)
theorem DL.com_nil {M : DM} {c : Bytes} {k : Nat} (h : DL M c [] k) : comB c [] k = c := by
  rw [h.chain.nil_k]; exact comB_nil h.md
theorem names3 {M : DM} {cc : Int} (hq : Quiet M cc) {w : World} {d : Nat} {ok : Nat → Prop} (hD : DiskAt w d M ok) : ∃ L : List Name, (L.Pairwise (· < ·) ∧ ∀ x, x ∈ L ↔ (M.fs x).isSome = true) ∧ L.length ≤ 16 := by
  obtain ⟨L, hL⟩ := hD.isL
  exact ⟨L, hL, by have := hq.card3 hL; omega⟩
theorem DL.jq {M : DM} {c : Bytes} {k : Nat} {cc : Int} (h : DL M c [] k) (hq : Quiet M cc) {w : World} {d : Nat} {ok : Nat → Prop} (hD : DiskAt w d M ok) : JQ M :=
  ⟨hq.off, names3 hq hD, h.jn, (h.log.resolve_right (fun h => h.2 rfl)).1, by rw [h.base]; exact h.len, by rw [h.base]; exact h.md⟩
theorem DL.lq {M : DM} {c : Bytes} {bs : List BK} {k : Nat} {cc : Int} (h : DL M c bs k) (hq : Quiet M cc) (hb : bs ≠ []) : LQ M c bs k :=
  ⟨hq.off, h.jn, h.base, h.len, h.md, (h.log.resolve_left (fun h => hb h.2)).1, hb, h.chain⟩
theorem DL.sync {M : DM} {c : Bytes} {bs : List BK} {k : Nat} {cc : Int} (h : DL M c bs k) (hq : Quiet M cc) (hb : bs ≠ []) : DL (sy1 M (nm sL)) c bs k := by
  have := (h.lq hq hb).sync
  refine ⟨this.jn, this.base, this.len, this.md, .inr ⟨this.log, hb⟩, this.chain, fun x f hf => ?_⟩
  by_cases e : x = nm sL
  · subst e
    rw [this.log] at hf
    obtain rfl := Option.some.inj hf
    rfl
  · exact h.syn x f (by simpa [sy1, setF, e] using hf)

theorem begun_begC {X : PG} {M : DM} {c : Bytes} (h : baseB M = c) : X.begun M = X.begC X.sure c := by
  subst h; rfl
/-- a transaction begins -/
theorem s_beg {w : World} {X : PG} {M : DM} {ok : Nat → Prop} {cc : Int} {c : Bytes} {bs : List BK} {k : Nat} (h : Sys w X M ok) (hq : Quiet M cc) (hcc : cc + 10 < 1000000) (hL : DL M c bs k) (hm : X.mode = 2 ∨ X.mode = 1 ∧ bs = []) (hd : X.dead = false) (hi : X.inn = false) (hwr : X.wrote = false) :
    Calls Tryz.prog 19 #[dp X.p] w fun e w' => e = .returned (.int .i64 0) ∧ ∃ M' s, SLeft w (X.begC s (comB c bs k)) M' ok w' ∧ DL M' c bs k ∧ Quiet M' (cc + 1) := by
  by_cases hb : bs = []
  · subst hb
    obtain ⟨okD, hD, _⟩ := h.disk
    refine (s_begin2 h (hL.jq hq hD) (hm.elim .inr (fun h => .inl h.1)) hd hi hwr).mono ?_
    rintro e w' ⟨rfl, hS⟩
    refine ⟨rfl, M, X.sure, ?_, hL, hq.more (by omega)⟩
    rw [hL.com_nil, ← begun_begC hL.base]
    exact hS
  · refine (s_begin_log h hq hcc (hL.lq hq hb) (hm.resolve_right (fun h => hb h.2)) hd hi hwr).mono ?_
    rintro e w' ⟨rfl, M', hM, hS⟩
    rcases hM with rfl | rfl
    · exact ⟨rfl, _, _, hS, hL, hq.more (by omega)⟩
    · exact ⟨rfl, _, _, hS, hL.sync hq hb, (hq.sy1 (.inr (.inr rfl)))⟩

/-- what a transaction's pages are -/
def resB (X : PG) : Bytes := PP.overlay X.was X.count.toNat (pmO X.own)
theorem res_spec {X : PG} (hT : TI X) (hown : ∀ n p, X.own n = some p → 0 ≤ n ∧ n < 4096 ∧ p.length = 512) : (resB X).length = X.count.toNat * 512 ∧ ∀ n : Nat, PP.pageAt (resB X) n = X.view n := by
  have hfull : PP.Full (pmO X.own) := fun n b h => (hown n b h).2.2
  have hl : (resB X).length = X.count.toNat * 512 := PP.overlay_length hfull _ _
  have hlen : X.was.length = X.was.length / 512 * 512 := by have := hT.md; omega
  have c0 := hT.now.c0
  refine ⟨hl, fun n => ?_⟩
  unfold PG.view
  by_cases hn : n < X.count.toNat
  · unfold resB
    rw [PP.pageAt_overlay hfull _ _ _ hn, page_nat]
    rfl
  · rw [PP.pageAt_past _ _ (by rw [hl]; omega)]
    have ho : X.own (n : Int) = none := by
      cases ho : X.own (n : Int) with
      | none => rfl
      | some p => have := hT.now.lt _ p ho; omega
    rw [ho, page_nat, PP.pageAt_past _ _ (by omega)]
    rfl
theorem res_news {X : PG} (hown : ∀ n p, X.own n = some p → 0 ≤ n ∧ n < 4096 ∧ p.length = 512) : PP.overlay X.was X.count.toNat (pmO (newsP X)) = resB X := by
  have hfull : PP.Full (pmO X.own) := fun n b h => (hown n b h).2.2
  rw [news_pm]
  exact PP.overlay_news hfull _ _ _
theorem res_same {X : PG} (hT : TI X) (hown : ∀ n p, X.own n = some p → 0 ≤ n ∧ n < 4096 ∧ p.length = 512) (hn : ∀ n, newsP X n = none) : resB X = X.was := by
  have c0 := hT.now.c0
  have hlen : X.was.length = X.was.length / 512 * 512 := by have := hT.md; omega
  have hcnt : X.count.toNat = X.was.length / 512 := by
    rcases Nat.lt_or_ge (X.was.length / 512) X.count.toNat with h | h
    · obtain ⟨b, hb⟩ := Option.isSome_iff_exists.1 (hT.now.top (by omega))
      have := newsP_some hb
      rw [hn, if_pos (.inl (by omega))] at this
      cases this
    · omega
  rw [← res_news hown, show pmO (newsP X) = fun _ => none from funext (fun n => hn _), hcnt]
  exact PP.overlay_none _ _ hlen
/-- a transaction is committed -/
theorem s_com {w : World} {X : PG} {M : DM} {ok : Nat → Prop} {cc : Int} {c : Bytes} {bs : List BK} {k : Nat} (h : Sys w X M ok) (hq : Quiet M cc) (hcc : cc + 20000 < 1000000) (hL : DL M c bs k) (hm : X.mode = 2 ∨ X.mode = 1 ∧ bs = []) (hd : X.dead = false) (hi : X.inn = true) (hT : TI X) (hw : X.was = comB c bs k) (hsz : (logB bs).length ≤ 2080000) :
    Calls Tryz.prog 26 #[dp X.p] w fun e w' => e = .returned (.int .i64 0) ∧ ∃ M' s c' bs' k', SLeft w (X.sured s).ended M' ok w' ∧ DL M' c' bs' k' ∧ Quiet M' (cc + 5000) ∧ (X.mode = 2 ∨ X.mode = 1 ∧ bs' = []) ∧ comB c' bs' k' = resB X ∧ (logB bs').length ≤ (logB bs).length + (9 + 516 * X.count.toNat) := by
  have hown := h.own_len hi
  obtain ⟨okD, hDk, _⟩ := h.disk
  have c1 := hT.now.c1
  have c0 := hT.now.c0
  rcases hm with hm | ⟨hm, rfl⟩
  · refine (s_commit_log h hq hcc hm hL.is hL.chain.ok (by omega) hd hi hT).mono ?_
    rintro e w' ⟨rfl, M', s, hS, ⟨L, hK, hC⟩, hQ⟩
    rcases hC with ⟨hL0, hfs⟩ | ⟨hL0, hfs⟩
    · subst hL0
      have hn : ∀ n, newsP X n = none := fun n => by
        cases e : newsP X n with
        | none => rfl
        | some b => have := (hK.2 n).2 (by rw [e]; rfl); simp at this
      refine ⟨rfl, M', s, c, bs, k, hS, ⟨?_, ?_, hL.len, hL.md, ?_, hL.chain, by rw [hfs]; exact hL.syn⟩, hQ, .inl hm, ?_, by omega⟩
      · rw [hfs]; exact hL.jn
      · have : baseB M' = baseB M := by unfold baseB; rw [hfs]
        rw [this]; exact hL.base
      · rw [hfs]; exact hL.log
      · rw [← hw, res_same hT hown hn]
    · obtain ⟨hB, hBk, hcn⟩ := news_blk hT hown hK
      rw [hw, comB_length hL.chain, Nat.mul_div_cancel _ (by omega : 0 < 512)] at hBk
      have hcl : c.length = c.length / 512 * 512 := by have := hL.md; omega
      refine ⟨rfl, M', s, c, bs ++ [⟨X.count.toNat, newsP X, L⟩], X.count.toNat, hS, ⟨?_, ?_, hL.len, hL.md, .inr ⟨?_, by simp⟩, hL.chain.snoc hB hBk, fun x f hf => by
        rw [hfs] at hf
        by_cases e : x = nm sL
        · simp only [if_pos e] at hf
          obtain rfl := Option.some.inj hf
          rfl
        · simp only [if_neg e] at hf
          exact hL.syn x f hf⟩, hQ, .inl hm, ?_, ?_⟩
      · rw [hfs]; simp [nmJ_L, hL.jn]
      · have : M'.fs (nm sB) = M.fs (nm sB) := by rw [hfs]; simp [nmB_L]
        have h2 : baseB M' = baseB M := by unfold baseB; rw [this]
        rw [h2]; exact hL.base
      · rw [hfs]; simp
      · rw [comB_snoc hL.chain hcl hBk, ← hw]
        exact res_news hown
      · rw [logB_snoc, List.length_append, bytes1_length hB]
        have hll := range_length L 0 X.count (by omega) hK.1 (fun x hx => by
          obtain ⟨b, hb⟩ := Option.isSome_iff_exists.1 ((hK.2 x).1 hx)
          cases ho : X.own x with
          | none => rw [newsP_none ho] at hb; cases hb
          | some p => exact ⟨(hown x p ho).1, hT.now.lt x p ho⟩)
        show (logB bs).length + (9 + L.length * 516) ≤ _
        omega
  · refine (s_commit h hq hcc hm hd hi hT).mono ?_
    rintro e w' ⟨rfl, M', hS, hC, hQ⟩
    have hB : baseB M = X.was := by rw [hL.base, hw, hL.com_nil]
    obtain ⟨p1, p2, p3, p4⟩ := commit_pages hT hown hB hC hL.jn
    have hJ := (hL.jq hq hDk).commit hT hQ p1 p3 p4
    obtain ⟨r1, r2⟩ := res_spec hT hown
    have hres : baseB M' = resB X := PP.by_pages p1 r1 (fun n _ => by rw [p2, r2])
    have hD' : DL M' (baseB M') [] ((baseB M').length / 512) := ⟨p3, rfl, hJ.len, hJ.md, .inl ⟨hJ.lg, rfl⟩, LogOf.nil (by have := hJ.len; omega), fun x f hf => by
      obtain ⟨L, _, hC⟩ := hC
      rcases hC with ⟨_, hfs⟩ | ⟨_, hfs⟩
      · rw [hfs] at hf; exact hL.syn x f hf
      · rw [hfs] at hf
        by_cases e1 : x = nm sJ
        · simp [e1] at hf
        · by_cases e2 : x = nm sB
          · simp only [if_neg e1, if_pos e2] at hf
            obtain rfl := Option.some.inj hf
            rfl
          · simp only [if_neg e1, if_neg e2] at hf
            exact hL.syn x f hf⟩
    refine ⟨rfl, M', X.sure, baseB M', [], _, hS, hD', hQ, .inr ⟨hm, rfl⟩, ?_, by simp⟩
    rw [hD'.com_nil, hres]
end Go.Proofs.YtmdpgjdepflbmaaGreat
namespace Go.Proofs.YtmdpgjdepflbmaaGreat
open Go.RowKit Go.Maps Go.Proofs.YtmdpgjdepflbmaaGreatW.PrintWords Go.Proofs.YtmdpgjdepflbmaaGreatW.PrintLast Go.Proofs.YtmdpgjdepflbmaaGreatW.PrintMore
open Go.Proofs.YtmdpgjdepflbmaaGreat.PPagerFolds
set_option linter.unusedVariables false
set_option linter.unusedSimpArgs false

end Go.Proofs.YtmdpgjdepflbmaaGreat
namespace Go.Proofs.YtmdpgjdepflbmaaGreat
open Go.RowKit Go.Maps Go.Proofs.YtmdpgjdepflbmaaGreatW.PrintWords Go.Proofs.YtmdpgjdepflbmaaGreatW.PrintLast Go.Proofs.YtmdpgjdepflbmaaGreatW.PrintMore
open Go.Proofs.YtmdpgjdepflbmaaGreat.PPagerFolds
set_option linter.unusedVariables false
set_option linter.unusedSimpArgs false

section
variable {w : World} {X : PG} {M : DM} {ok : Nat → Prop}
end
end Go.Proofs.YtmdpgjdepflbmaaGreat
namespace Go.Proofs.YtmdpgjdepflbmaaGreat
open Go.RowKit Go.Maps Go.Proofs.YtmdpgjdepflbmaaGreatW.PrintWords Go.Proofs.YtmdpgjdepflbmaaGreatW.PrintLast Go.Proofs.YtmdpgjdepflbmaaGreatW.PrintMore
open Go.Proofs.YtmdpgjdepflbmaaGreat.PPagerFolds
set_option linter.unusedVariables false
set_option linter.unusedSimpArgs false

/-! ### what the law does, in plain words -/
def PG.mkd (X : PG) : PG := { X with next := X.next + 1, marks := X.marks ++ [⟨X.next + 1, X.own, X.count⟩] }
def PG.bkd (X : PG) (k : Mk) (i : Nat) : PG := { X with own := k.own, count := k.count, marks := X.marks.take (i + 1) }
theorem TI.mkd {X : PG} (h : TI X) : TI X.mkd := ⟨h.was, h.md, h.now, h.wr, fun m hm => by
  rcases List.mem_append.1 hm with hm | hm
  · exact h.mks m hm
  · rw [List.mem_singleton.1 hm]
    exact ⟨h.now, h.wr⟩⟩
theorem TI.bkd {X : PG} (h : TI X) {k : Mk} {i : Nat} (hk : k ∈ X.marks) : TI (X.bkd k i) := ⟨h.was, h.md, (h.mks k hk).1, (h.mks k hk).2, fun m hm => h.mks m (List.mem_of_mem_take hm)⟩
/-! ### the pager and a row of numbers, side by side -/
section
variable {W w w' : World} {X X' : PG} {M M' : DM} {ids : List Int} {v : Value}
theorem TI.begC {X : PG} (hw : X.wrote = false) (hm : X.marks = []) {s : Int} {C : Bytes} (hl : C.length ≤ 2097152) (hmd : C.length % 512 = 0) : TI (X.begC s C) := by
  refine ⟨hl, hmd, ⟨fun n b h => ?_, Int.le_refl _, ?_, fun h => ?_⟩, fun _ _ => rfl, fun m hm' => ?_⟩
  · cases (show (none : Option Bytes) = some b from h)
  · show ((C.length / 512 : Nat) : Int) ≤ 4096
    omega
  · exact absurd h (Int.lt_irrefl _)
  · have : m ∈ X.marks := hm'
    rw [hm] at this
    cases this
end
end Go.Proofs.YtmdpgjdepflbmaaGreat

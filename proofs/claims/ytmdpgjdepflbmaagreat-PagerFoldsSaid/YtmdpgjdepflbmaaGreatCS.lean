/-
  same, over pages told as the print tells them; put: a page laid in a row of pages.
-/
import Derived.Test.YtmdpgjdepflbmaaGreatCQ
import Derived.Test.YtmdpgjdepflbmaaGreatCR
namespace Go.Proofs.YtmdpgjdepflbmaaGreat
open Go.RowKit Go.Maps Go.Proofs.YtmdpgjdepflbmaaGreatW.PrintWords Go.Proofs.YtmdpgjdepflbmaaGreatW.PrintLast Go.Proofs.YtmdpgjdepflbmaaGreatW.PrintMore
open Go.Proofs.YtmdpgjdepflbmaaGreat.PPagerFolds
set_option linter.unusedVariables false
set_option linter.unusedSimpArgs false

set_option maxHeartbeats 2000000 in
set_option maxRecDepth 100000 in
theorem same_v {w : World} {p : Nat} {R : PG → DM → Prop} {ok : Nat → Prop} {A : Option Addr} {n c : Nat} {L : List Bytes}
    (hBeg : Calls Tryz.prog 19 #[dp p] w fun e w' => e = .returned (.int .i64 0) ∧ ∃ Xb Mb, R Xb Mb ∧ SLeft w Xb Mb ok w')
    (hR : ∀ Xb Mb, R Xb Mb → Xb.p = p ∧ Xb.dead = false ∧ Xb.inn = true ∧ Xb.was.length ≤ 4194304 ∧ Xb.count = n ∧ ∀ (i : Nat) (bs : Bytes), L[i]? = some bs → Xb.view i = bs) (hW : Kd.V (Kd.slice 5 U8) 48 w 0 (fun k => ¬ ok k) (.slice A n c) L) (h512 : ∀ bs ∈ L, bs.length = 512) (hn : n ≤ 4096) :
    Calls Tryz.prog 28 #[dp p, .slice A n c] w fun e w' => e = .returned (.bool true) ∧ ∃ Xb Mb, R Xb Mb ∧ SLeft w Xb.ended Mb ok w' := by
  have HB := Aside0.mk hBeg
  have hLn : n = L.length := (Kd.V_at hW).1
  have HW := Aside0.mk (And.intro hW (And.intro h512 hLn))
  have HRR := Aside0.mk hR
  clear hBeg hW hR h512 hLn
  go_enter Tryz.func28, Tryz.ntmps28
  go_wp2_with (first
    | (go_at_call 19; refine HB.out.mono ?_; rintro e w1 ⟨rfl, Xb, Mb, hRb, hS⟩
       have HX := Aside0.mk (HRR.out Xb Mb hRb)
       have HRb := Aside0.mk hRb
       have hC := s_count hS.1
       rw [HX.out.1, HX.out.2.2.2.2.1] at hC
       have HC := Aside0.mk hC
       have hF := hS.2
       have HS := Aside0.mk hS
       clear hS hC hF hRb)
    | (go_at_call 25; refine HC.out.mono ?_; rintro e w' ⟨rfl, rfl⟩)
    | (go_at_call 15; refine (num12_any _ _).mono ?_; rintro e w' ⟨rfl, rfl⟩))
  go_loopw [5, 6] (fun v5 v6 wr => ∃ i : Nat, v5 = .bool true ∧ v6 = .int .i64 i ∧ i ≤ n ∧ Aside0 (SLeft w Xb Mb ok wr)) (fun _ v6 _ => n - (intOf v6).toNat)
  case atStart => exact ⟨0, rfl, rfl, by omega, ⟨HS.out⟩⟩
  case round =>
    obtain ⟨i, rfl, rfl, hi, HI⟩ := hrel
    by_cases h5 : i < n
    · obtain ⟨hp, hd, hii, hwl, _, hv⟩ := HX.out
      have hF := HI.out.2
      have hV := Kd.V_step HW.out.1 (w1 := wr) (fun k hk hl => hF.block k hl hk)
      have hLn := HW.out.2.2
      obtain ⟨bs, hbs⟩ : ∃ bs, L[i]? = some bs := ⟨_, List.getElem?_eq_getElem (by omega)⟩
      have h512 := HW.out.2.1 bs (List.mem_of_getElem? hbs)
      obtain ⟨ad, rfl⟩ : ∃ ad, A = some ad := by
        obtain ⟨A', c', he, _, hf⟩ := hV
        injection he with he1 _ _
        subst he1
        obtain ⟨ad, _, e, _⟩ := Kd.F_get hf ([] : Bytes) (i : Int) (by omega) (by omega)
        exact ⟨ad, e⟩
      obtain ⟨cs, _, hFK, hcc⟩ := Kd.V_get hV ([] : Bytes) (i : Int) (by omega) (by omega)
      rw [show L.getD (i : Int).toNat [] = bs by simp [List.getD_eq_getElem?_getD, hbs]] at hFK
      obtain ⟨Av, cv, rfl, hcv, hFv⟩ := Kd.FK_slice_open hFK
      have hcx : wr.cell? (ad.add i) = some (.slice Av 512 cv) := by
        have := hcc 0 _ rfl
        rw [h512] at this
        simpa [Kd.slice] using this
      have hCv : U8.C wr Av 512 bs := by
        have := Kd.F_now hFv
        rwa [h512] at this
      rw [h512] at hcv
      have hRd := pread_in HI.out.1.pg (i : Int) hd hii (by omega) (by omega) hwl
      rw [hp, hv i bs hbs] at hRd
      have HR := Aside0.mk hRd
      have HV := Aside0.mk (And.intro hCv (And.intro h512 hcv))
      clear hp hd hii hwl hv hF hV hLn hRd hCv h512 hbs hFK hcc hFv hcv
      go_wp2_with (first
        | (go_at_call 23; refine HR.out.mono ?_; rintro e w7 ⟨v7, rfl, hv7, hb7⟩
           obtain ⟨A7, c7, rfl⟩ := Kd.R_slice hv7
           rw [HV.out.2.1] at hv7 ⊢
           obtain ⟨hC7, hc7, _⟩ := C_of_row hv7
           have d0 : w7.cell? (ad.add i) = _ := (hb7.cell (p := ad.add i) (World.block_lt_of_cell? _ _ hcx)).trans hcx
           have hCt := Kd.C_below HV.out.1 hb7
           have HE := eqbytes_any hC7 hc7 hCt HV.out.2.2 (by omega)
           rw [decide_eq_true rfl] at HE
           replace HE := Aside0.mk HE
           have H7 := Aside0.mk hb7
           clear hv7 hb7 hC7 hc7 hCt)
        | (go_at_call 24; refine HE.out.mono ?_; rintro e w' ⟨rfl, m7, rfl⟩)
        | (go_at_call 15; refine (num12_any _ _).mono ?_; rintro e w' ⟨rfl, rfl⟩))
      go_roundw
      case rel => exact ⟨i + 1, rfl, by go_num, by omega, ⟨(HI.out.step H7.out).step (pw_below_drewN (Below.refl _ _) m7)⟩⟩
      case measure => simp [intOf]; omega
    · have hRo := s_roll HI.out.1 HX.out.2.1 HX.out.2.2.1
      rw [HX.out.1] at hRo
      have HRo := Aside0.mk hRo
      clear hRo
      go_wp2_with (first
        | (go_at_call 27; refine HRo.out.mono ?_; rintro e w8 ⟨rfl, hS8⟩; have H8 := Aside0.mk hS8; clear hS8)
        | (go_at_call 15; refine (num12_any _ _).mono ?_; rintro e w' ⟨rfl, rfl⟩))
      go_ret
      exact ⟨rfl, Xb, Mb, HRb.out, HI.out.trans H8.out⟩

/-! ### put -/
/-- a page laid in a list of pages -/
def putL (l : List Bytes) (n : Nat) (p : Bytes) : List Bytes := (l ++ List.replicate (n + 1 - l.length) (List.replicate 512 0)).set n p
theorem put_l (n : Nat) (p : Bytes) (hn : n < 100000) : ∀ (k : Nat) (l : List Bytes), l.length ≤ 100000 → n + 1 < l.length + k → 0 < k → cadastrelaw12_put.l0 k (n : Int) p l = some (putL l n p)
  | 0, l, _, _, h => by omega
  | k + 1, l, hl, hk, _ => by
    unfold cadastrelaw12_put.l0
    by_cases h : l.length ≤ n
    · rw [if_pos (by omega), if_pos (by omega), if_pos (by omega), put_l n p hn k (l ++ [List.replicate 512 0]) (by rw [List.length_append, List.length_singleton]; omega) (by rw [List.length_append, List.length_singleton]; omega) (by omega)]
      unfold putL
      rw [List.length_append, List.append_assoc, show n + 1 - l.length = (n + 1 - (l.length + 1)) + 1 by omega, List.replicate_succ]
      rfl
    · rw [if_neg (by omega), if_pos (by omega), if_pos (by omega)]
      unfold putL
      rw [show n + 1 - l.length = 0 by omega]
      simp
theorem put_f (l : List Bytes) (n : Nat) (p : Bytes) (hn : n < 100000) (hl : l.length ≤ 100000) : cadastrelaw12_put.f 200000 l (n : Int) p = some (putL l n p) := by
  unfold cadastrelaw12_put.f
  simp only [Option.bind_some, List.length_nil, List.nil_append]
  rw [if_pos (by omega)]
  exact put_l n p hn 200000 l hl (by omega) (by omega)
theorem lput_any {w : World} {P0 P2 : Nat → Prop} {A A2 : Option Addr} {m c c2 : Nat} {l : List Bytes} {n : Nat} {p : Bytes} (hm : l.length = m) (h0 : Kd.V (Kd.slice 5 U8) 48 w w.heap.size P0 (.slice A m c) l) (h2 : Kd.V U8 5 w w.heap.size P2 (.slice A2 512 c2) p) (hp : p.length = 512) (hn : n < 100000) (hl : l.length ≤ 100000) :
    Calls Tryz.prog 22 #[.slice A m c, .int .i64 n, .slice A2 512 c2] w fun e w' => ∃ v, e = .returned v ∧ Kd.V (Kd.slice 5 U8) 48 w' 0 (fun k => (P0 k ∨ P2 k) ∨ w.heap.size ≤ k) v (putL l n p) ∧ Below w.heap.size w w' := by
  subst hm
  rw [← hp] at h2 ⊢
  refine (cadastrelaw12_put.calls 200000 P0 A c l n P2 A2 c2 p _ w h0 h2 (put_f l n p hn hl)).mono ?_
  rintro e w' ⟨v, rfl, h1, hb⟩
  exact ⟨v, rfl, Kd.N_V h1, hb⟩
theorem putL_length (l : List Bytes) (n : Nat) (p : Bytes) : (putL l n p).length = max l.length (n + 1) := by
  unfold putL; rw [List.length_set, List.length_append, List.length_replicate]; omega
theorem putL_get (l : List Bytes) (n : Nat) (p : Bytes) (i : Nat) (hi : i < max l.length (n + 1)) : (putL l n p)[i]? = some (if i = n then p else (l[i]?).getD (List.replicate 512 0)) := by
  have hl : i < (l ++ List.replicate (n + 1 - l.length) (List.replicate 512 (0 : Int))).length := by rw [List.length_append, List.length_replicate]; omega
  unfold putL
  rw [List.getElem?_set]
  by_cases e : n = i
  · subst e
    rw [if_pos rfl, if_pos hl, if_pos rfl]
  · rw [if_neg e, if_neg (Ne.symm e)]
    by_cases h : i < l.length
    · rw [List.getElem?_append_left h, List.getElem?_eq_getElem h]; rfl
    · rw [List.getElem?_append_right (by omega), List.getElem?_replicate, if_pos (by omega), List.getElem?_eq_none (by omega)]; rfl
end Go.Proofs.YtmdpgjdepflbmaaGreat
namespace Go.Proofs.YtmdpgjdepflbmaaGreat
open Go.RowKit Go.Maps Go.Proofs.YtmdpgjdepflbmaaGreatW.PrintWords Go.Proofs.YtmdpgjdepflbmaaGreatW.PrintLast Go.Proofs.YtmdpgjdepflbmaaGreatW.PrintMore
open Go.Proofs.YtmdpgjdepflbmaaGreat.PPagerFolds
set_option linter.unusedVariables false
set_option linter.unusedSimpArgs false

abbrev PV (w : World) (P : Nat → Prop) (v : Value) (Dn : List Bytes) : Prop := Kd.V (Kd.slice 5 U8) 48 w 0 P v Dn
/-- bytes are these pages -/
structure Holds (C : Bytes) (Dn : List Bytes) : Prop where
  len : C.length = Dn.length * 512
  at_ : ∀ (i : Nat) (b : Bytes), Dn[i]? = some b → PP.pageAt C i = b
  full : ∀ b ∈ Dn, b.length = 512
/-- a transaction's pages are these -/
structure Sees (X : PG) (Dn : List Bytes) : Prop where
  cnt : X.count = Dn.length
  at_ : ∀ (i : Nat) (b : Bytes), Dn[i]? = some b → X.view i = b
  past : ∀ (i : Nat), Dn.length ≤ i → X.view i = List.replicate 512 0
  full : ∀ b ∈ Dn, b.length = 512
theorem Holds.nil : Holds [] [] := ⟨rfl, fun i b h => by simp at h, fun b h => by simp at h⟩
theorem Holds.sees {X : PG} {C : Bytes} {Dn : List Bytes} (h : Holds C Dn) (s : Int) : Sees (X.begC s C) Dn := by
  have hv : ∀ i : Nat, (X.begC s C).view i = PP.pageAt C i := fun i => page_nat (X.begC s C) i
  refine ⟨?_, fun i b hb => (hv i).trans (h.at_ i b hb), fun i hi => ?_, h.full⟩
  · show ((C.length / 512 : Nat) : Int) = _
    rw [h.len, Nat.mul_div_cancel _ (by omega)]
  · rw [hv i, PP.pageAt_past _ _ (by rw [h.len]; omega), noughts_rep]
theorem Sees.put {X : PG} {Dn : List Bytes} (h : Sees X Dn) (n : Nat) (p : Bytes) (hp : p.length = 512) : Sees (X.put n p) (putL Dn n p) := by
  have hl := putL_length Dn n p
  have hv : ∀ i : Nat, (X.put n p).view i = if i = n then p else X.view i := fun i => by
    by_cases e : i = n
    · subst e; simp [PG.view, PG.put]
    · have e' : (i : Int) ≠ n := by omega
      rw [if_neg e]
      unfold PG.view
      simp only [PG.put, if_neg e']
      rfl
  refine ⟨?_, fun i b hb => ?_, fun i hi => ?_, fun b hb => ?_⟩
  · show max X.count ((n : Int) + 1) = _
    rw [hl, h.cnt]; omega
  · have hi : i < (putL Dn n p).length := (List.getElem?_eq_some_iff.1 hb).1
    rw [putL_get Dn n p i (by omega)] at hb
    rw [hv i]
    by_cases e : i = n
    · rw [if_pos e] at hb ⊢; exact Option.some.inj hb
    · rw [if_neg e] at hb ⊢
      cases hd : Dn[i]? with
      | none =>
        rw [hd] at hb
        rw [h.past i (List.getElem?_eq_none_iff.1 hd)]
        exact Option.some.inj hb
      | some q =>
        rw [hd] at hb
        rw [h.at_ i q hd]
        exact Option.some.inj hb
  · rw [hv i, if_neg (by omega)]
    exact h.past i (by omega)
  · obtain ⟨i, hi⟩ := List.getElem?_of_mem hb
    have hil : i < (putL Dn n p).length := (List.getElem?_eq_some_iff.1 hi).1
    rw [putL_get Dn n p i (by omega)] at hi
    obtain rfl := Option.some.inj hi
    split
    · exact hp
    · cases hd : Dn[i]? with
      | none => exact List.length_replicate
      | some q => exact h.full q (List.mem_of_getElem? hd)
theorem Sees.holds {X : PG} {Dn : List Bytes} (h : Sees X Dn) (hT : TI X) (hown : ∀ n p, X.own n = some p → 0 ≤ n ∧ n < 4096 ∧ p.length = 512) : Holds (resB X) Dn := by
  obtain ⟨r1, r2⟩ := res_spec hT hown
  exact ⟨by rw [r1, h.cnt]; simp, fun i b hb => (r2 i).trans (h.at_ i b hb), h.full⟩

section
variable {W w w' : World} {X X' : PG} {M M' : DM} {v : Value} {Dn : List Bytes}
end
end Go.Proofs.YtmdpgjdepflbmaaGreat
namespace Go.Proofs.YtmdpgjdepflbmaaGreat
open Go.RowKit Go.Maps Go.Proofs.YtmdpgjdepflbmaaGreatW.PrintWords Go.Proofs.YtmdpgjdepflbmaaGreatW.PrintLast Go.Proofs.YtmdpgjdepflbmaaGreatW.PrintMore
open Go.Proofs.YtmdpgjdepflbmaaGreat.PPagerFolds
set_option linter.unusedVariables false
set_option linter.unusedSimpArgs false

section
variable {W w w' : World} {X : PG} {M : DM} {v : Value} {Dn : List Bytes} {d : Nat}
end
end Go.Proofs.YtmdpgjdepflbmaaGreat
namespace Go.Proofs.YtmdpgjdepflbmaaGreat
open Go.RowKit Go.Maps Go.Proofs.YtmdpgjdepflbmaaGreatW.PrintWords Go.Proofs.YtmdpgjdepflbmaaGreatW.PrintLast Go.Proofs.YtmdpgjdepflbmaaGreatW.PrintMore
open Go.Proofs.YtmdpgjdepflbmaaGreat.PPagerFolds
set_option linter.unusedVariables false
set_option linter.unusedSimpArgs false

/-- what stands beside: told by blocks that are not turned -/
structure Stab (B : World → (Nat → Prop) → Prop) : Prop where
  step : ∀ {w w' : World} {P : Nat → Prop}, B w P → (∀ k, P k → k < w.heap.size → w'.heap[k]? = w.heap[k]?) → B w' P
  mono : ∀ {w : World} {P Q : Nat → Prop}, B w P → (∀ k, P k → Q k) → B w Q
structure GJ (W : World) (X : PG) (M : DM) (B : World → (Nat → Prop) → Prop) (w : World) : Prop where
  ex : ∃ ok : Nat → Prop, Sys w X M ok ∧ (∀ k, ok k → W.heap.size ≤ k ∧ k < w.heap.size) ∧ B w (fun k => k < w.heap.size ∧ ¬ ok k)
  below : Below W.heap.size W w
  stab : Stab B
structure GD (W : World) (d : Nat) (M : DM) (B : World → (Nat → Prop) → Prop) (w : World) : Prop where
  ex : ∃ ok : Nat → Prop, DiskAt w d M ok ∧ (∀ k, ok k → W.heap.size ≤ k ∧ k < w.heap.size) ∧ B w (fun k => k < w.heap.size ∧ ¬ ok k)
  below : Below W.heap.size W w
  stab : Stab B
section
variable {W w w' : World} {X X' : PG} {M M' : DM} {B : World → (Nat → Prop) → Prop} {d : Nat}
theorem GJ.left {ok : Nat → Prop} (hb : Below W.heap.size W w) (hst : Stab B) (hok : ∀ k, ok k → W.heap.size ≤ k ∧ k < w.heap.size) (hV : B w (fun k => k < w.heap.size ∧ ¬ ok k)) (hS : SLeft w X' M' ok w') : GJ W X' M' B w' := by
  have hs := hS.2.size
  refine ⟨⟨_, hS.1, fun k hk => ?_, ?_⟩, hb.trans (hS.2.below (fun k hk => (hok k hk).1) hb.size), hst⟩
  · rcases hk with hk | hk
    · have := hok k hk; exact ⟨this.1, by omega⟩
    · exact ⟨by have := hb.size; omega, hk.2⟩
  · refine hst.mono (hst.step hV (fun k hk hl => hS.2.block k hl hk.2)) (fun k hk => ⟨by omega, fun h => h.elim hk.2 (fun h => by omega)⟩)
theorem GJ.step (h : GJ W X M B w) (hb : Below w.heap.size w w') : GJ W X M B w' := by
  obtain ⟨ok, hS, hok, hV⟩ := h.ex
  have hs := hb.size
  exact ⟨⟨ok, hS.below hb, fun k hk => by have := hok k hk; exact ⟨this.1, by omega⟩, h.stab.mono (h.stab.step hV (fun k hk hl => hb.block k hl)) (fun k hk => ⟨by omega, hk.2⟩)⟩, h.below.trans (hb.mono h.below.size), h.stab⟩
theorem GD.step (h : GD W d M B w) (hb : Below w.heap.size w w') : GD W d M B w' := by
  obtain ⟨ok, hD, hok, hV⟩ := h.ex
  have hs := hb.size
  exact ⟨⟨ok, hD.below hb, fun k hk => by have := hok k hk; exact ⟨this.1, by omega⟩, h.stab.mono (h.stab.step hV (fun k hk hl => hb.block k hl)) (fun k hk => ⟨by omega, hk.2⟩)⟩, h.below.trans (hb.mono h.below.size), h.stab⟩
theorem GJ.disk (h : GJ W X M B w) : GD W X.d M B w := by
  obtain ⟨ok, hS, hok, hV⟩ := h.ex
  obtain ⟨okD, hD, hk⟩ := hS.disk
  exact ⟨⟨okD, hD, fun k hk' => hok k (hk k hk').1, h.stab.mono hV (fun k hk' => ⟨hk'.1, fun h => hk'.2 (hk k h).1⟩)⟩, h.below, h.stab⟩
theorem GJ.own_len (h : GJ W X M B w) (hi : X.inn = true) : ∀ n p, X.own n = some p → 0 ≤ n ∧ n < 4096 ∧ p.length = 512 := by
  obtain ⟨ok, hS, hok, hV⟩ := h.ex
  exact hS.own_len hi
end

/-- the disk of a pager: committed bytes, at most ls bytes of log, at most cc strokes -/
structure Dsk (mo : Int) (C : Bytes) (ls : Nat) (cc : Int) (M : DM) : Prop where
  ex : ∃ c bs k, DL M c bs k ∧ comB c bs k = C ∧ (mo = 2 ∨ mo = 1 ∧ bs = []) ∧ (logB bs).length ≤ ls
  q : Quiet M cc
theorem Dsk.more {mo : Int} {C : Bytes} {ls ls' : Nat} {cc cc' : Int} {M : DM} (h : Dsk mo C ls cc M) (h1 : ls ≤ ls') (h2 : cc ≤ cc') : Dsk mo C ls' cc' M := by
  obtain ⟨c, bs, k, a, b, e, f⟩ := h.ex
  exact ⟨⟨c, bs, k, a, b, e, by omega⟩, h.q.more h2⟩
theorem Dsk.new : Dsk 2 [] 0 0 M0 := ⟨⟨[], [], 0, DL.zero, DL.zero.com_nil, .inl rfl, by simp [logB]⟩, quiet0⟩
/-- a pager without a transaction -/
structure Sh (X : PG) (p d : Nat) (mo cc : Int) : Prop where
  p : X.p = p
  d : X.d = d
  md : X.mode = mo
  dead : X.dead = false
  inn : X.inn = false
  wr : X.wrote = false
  mks : X.marks = []
  cnt : X.count = 0
  nx0 : 0 ≤ X.next
  nx : X.next ≤ cc
/-- a pager in a transaction that sees these pages -/
structure Ib (X : PG) (p d : Nat) (mo : Int) (C : Bytes) (Ds : List Bytes) (cc : Int) : Prop where
  p : X.p = p
  d : X.d = d
  md : X.mode = mo
  dead : X.dead = false
  inn : X.inn = true
  was : X.was = C
  ti : TI X
  see : Sees X Ds
  nx0 : 0 ≤ X.next
  nx : X.next ≤ cc
theorem Ib.ended {X : PG} {p d : Nat} {mo cc : Int} {C : Bytes} {Ds : List Bytes} (h : Ib X p d mo C Ds cc) : Sh X.ended p d mo cc := ⟨h.p, h.d, h.md, h.dead, rfl, rfl, rfl, rfl, h.nx0, h.nx⟩
theorem Sh.more {X : PG} {p d : Nat} {mo cc cc' : Int} (h : Sh X p d mo cc) (hc : cc ≤ cc') : Sh X p d mo cc' := ⟨h.p, h.d, h.md, h.dead, h.inn, h.wr, h.mks, h.cnt, h.nx0, Int.le_trans h.nx hc⟩
theorem Ib.more {X : PG} {p d : Nat} {mo cc cc' : Int} {C : Bytes} {Ds : List Bytes} (h : Ib X p d mo C Ds cc) (hc : cc ≤ cc') : Ib X p d mo C Ds cc' := ⟨h.p, h.d, h.md, h.dead, h.inn, h.was, h.ti, h.see, h.nx0, Int.le_trans h.nx hc⟩
def Shut (W : World) (B : World → (Nat → Prop) → Prop) (p d : Nat) (mo : Int) (C : Bytes) (ls : Nat) (cc : Int) (w : World) : Prop := ∃ X M, GJ W X M B w ∧ Sh X p d mo cc ∧ Dsk mo C ls cc M
def Opn (W : World) (B : World → (Nat → Prop) → Prop) (X : PG) (p d : Nat) (mo : Int) (C : Bytes) (Ds : List Bytes) (ls : Nat) (cc : Int) (w : World) : Prop := ∃ M, GJ W X M B w ∧ Ib X p d mo C Ds cc ∧ Dsk mo C ls cc M
def Dk (W : World) (B : World → (Nat → Prop) → Prop) (d : Nat) (C : Bytes) (ls : Nat) (cc : Int) (w : World) : Prop := ∃ M, GD W d M B w ∧ Dsk 2 C ls cc M
section
variable {W w w' : World} {X : PG} {M : DM} {B B' : World → (Nat → Prop) → Prop} {p d ls : Nat} {mo cc : Int} {C : Bytes} {Ds : List Bytes}
theorem Shut.step (h : Shut W B p d mo C ls cc w) (hb : Below w.heap.size w w') : Shut W B p d mo C ls cc w' := by
  obtain ⟨X, M, a, b, e⟩ := h
  exact ⟨X, M, a.step hb, b, e⟩
theorem Opn.step (h : Opn W B X p d mo C Ds ls cc w) (hb : Below w.heap.size w w') : Opn W B X p d mo C Ds ls cc w' := by
  obtain ⟨M, a, b, e⟩ := h
  exact ⟨M, a.step hb, b, e⟩
theorem Dk.step (h : Dk W B d C ls cc w) (hb : Below w.heap.size w w') : Dk W B d C ls cc w' := by
  obtain ⟨M, a, e⟩ := h
  exact ⟨M, a.step hb, e⟩
theorem Shut.drewN (h : Shut W B p d mo C ls cc w) (n : Nat) : Shut W B p d mo C ls cc (w.drewN n) := h.step (pw_below_drewN (Below.refl _ _) n)
theorem Opn.drewN (h : Opn W B X p d mo C Ds ls cc w) (n : Nat) : Opn W B X p d mo C Ds ls cc (w.drewN n) := h.step (pw_below_drewN (Below.refl _ _) n)
theorem Dk.drewN (h : Dk W B d C ls cc w) (n : Nat) : Dk W B d C ls cc (w.drewN n) := h.step (pw_below_drewN (Below.refl _ _) n)
theorem Shut.more {ls' : Nat} {cc' : Int} (h : Shut W B p d mo C ls cc w) (h1 : ls ≤ ls') (h2 : cc ≤ cc') : Shut W B p d mo C ls' cc' w := by
  obtain ⟨X, M, a, b, e⟩ := h
  exact ⟨X, M, a, b.more h2, e.more h1 h2⟩
theorem Opn.more {ls' : Nat} {cc' : Int} (h : Opn W B X p d mo C Ds ls cc w) (h1 : ls ≤ ls') (h2 : cc ≤ cc') : Opn W B X p d mo C Ds ls' cc' w := by
  obtain ⟨M, a, b, e⟩ := h
  exact ⟨M, a, b.more h2, e.more h1 h2⟩
theorem Shut.below (h : Shut W B p d mo C ls cc w) : Below W.heap.size W w := by obtain ⟨X, M, a, b, e⟩ := h; exact a.below
theorem Opn.below (h : Opn W B X p d mo C Ds ls cc w) : Below W.heap.size W w := by obtain ⟨M, a, b, e⟩ := h; exact a.below
theorem Dk.below (h : Dk W B d C ls cc w) : Below W.heap.size W w := by obtain ⟨M, a, e⟩ := h; exact a.below
theorem Opn.ib (h : Opn W B X p d mo C Ds ls cc w) : Ib X p d mo C Ds cc := by obtain ⟨M, a, b, e⟩ := h; exact b
theorem o_begin (h : Shut W B p d mo C ls cc w) (hcc : cc + 10 < 1000000) (hH : Holds C Ds) (hl : Ds.length ≤ 4096) :
    Calls Tryz.prog 19 #[dp p] w fun e w' => e = .returned (.int .i64 0) ∧ ∃ X, Opn W B X p d mo C Ds ls (cc + 1) w' ∧ X.marks = [] := by
  obtain ⟨X, M, hG, hX, hD⟩ := h
  obtain ⟨c, bs, k, hL, hC, hm, hls⟩ := hD.ex
  obtain ⟨ok, hS, hok, hV⟩ := hG.ex
  have hS0 := s_beg hS hD.q hcc hL (by rw [hX.md]; exact hm) hX.dead hX.inn hX.wr
  rw [hX.p] at hS0
  refine hS0.mono ?_
  rintro e w' ⟨rfl, M', s, hS', hL', hq'⟩
  have hlen := hH.len
  refine ⟨rfl, _, ⟨M', GJ.left hG.below hG.stab hok hV hS', ⟨hX.p, hX.d, hX.md, hX.dead, rfl, hC, TI.begC hX.wr hX.mks (by rw [hC]; omega) (by rw [hC]; omega), by rw [hC]; exact hH.sees s, hX.nx0, Int.le_trans hX.nx (by omega)⟩, ⟨c, bs, k, hL', hC, hm, hls⟩, hq'⟩, hX.mks⟩
theorem o_commit (h : Opn W B X p d mo C Ds ls cc w) (hcc : cc + 20000 < 1000000) (hls : ls ≤ 2080000) :
    Calls Tryz.prog 26 #[dp p] w fun e w' => e = .returned (.int .i64 0) ∧ ∃ C', Shut W B p d mo C' (ls + (9 + 516 * Ds.length)) (cc + 5000) w' ∧ Holds C' Ds := by
  obtain ⟨M, hG, hX, hD⟩ := h
  obtain ⟨c, bs, k, hL, hC, hm, hls'⟩ := hD.ex
  have how := hG.own_len hX.inn
  obtain ⟨ok, hS, hok, hV⟩ := hG.ex
  have hS0 := s_com hS hD.q hcc hL (by rw [hX.md]; exact hm) hX.dead hX.inn hX.ti (by rw [hX.was, hC]) (by omega)
  rw [hX.p] at hS0
  refine hS0.mono ?_
  rintro e w' ⟨rfl, M', s, c', bs', k', hS', hL', hq', hm', hC', hl'⟩
  rw [hX.md] at hm'
  rw [hX.see.cnt] at hl'
  refine ⟨rfl, resB X, ⟨_, M', GJ.left hG.below hG.stab hok hV hS', ⟨hX.p, hX.d, hX.md, hX.dead, rfl, rfl, rfl, rfl, hX.nx0, Int.le_trans hX.nx (by omega)⟩, ⟨c', bs', k', hL', hC', hm', by simp only [Int.toNat_natCast] at hl'; omega⟩, hq'⟩, hX.see.holds hX.ti how⟩
theorem o_roll (h : Opn W B X p d mo C Ds ls cc w) :
    Calls Tryz.prog 27 #[dp p] w fun e w' => e = .returned (.int .i64 0) ∧ Shut W B p d mo C ls cc w' := by
  obtain ⟨M, hG, hX, hD⟩ := h
  obtain ⟨ok, hS, hok, hV⟩ := hG.ex
  have hS0 := s_roll hS hX.dead hX.inn
  rw [hX.p] at hS0
  refine hS0.mono ?_
  rintro e w' ⟨rfl, hS'⟩
  exact ⟨rfl, _, M, GJ.left hG.below hG.stab hok hV hS', hX.ended, hD⟩
theorem o_count (h : Opn W B X p d mo C Ds ls cc w) : Calls Tryz.prog 25 #[dp p] w fun e w' => e = .returned (.int .i64 (Ds.length : Nat)) ∧ w = w' := by
  obtain ⟨M, hG, hX, hD⟩ := h
  obtain ⟨ok, hS, hok, hV⟩ := hG.ex
  have hS0 := s_count hS
  rw [hX.p, hX.see.cnt] at hS0
  exact hS0
theorem o_read (h : Opn W B X p d mo C Ds ls cc w) (n : Nat) (h1 : n < 4096) :
    Calls Tryz.prog 23 #[dp p, .int .i64 n] w fun e w' => ∃ v', e = .returned (.tuple #[v', .int .i64 0]) ∧ U8.R 5 w' w.heap.size (fun k => w.heap.size ≤ k) v' ((Ds[n]?).getD (List.replicate 512 0)) ∧ Below w.heap.size w w' := by
  obtain ⟨M, hG, hX, hD⟩ := h
  obtain ⟨ok, hS, hok, hV⟩ := hG.ex
  have hv : X.view (n : Int) = (Ds[n]?).getD (List.replicate 512 0) := by
    cases e : Ds[n]? with
    | none => exact hX.see.past n (List.getElem?_eq_none_iff.1 e)
    | some b => exact hX.see.at_ n b e
  have hS0 := pread_in hS.pg n hX.dead hX.inn (by omega) (by omega) (by have := hX.ti.was; omega)
  rw [hX.p, hv] at hS0
  exact hS0
theorem o_open (h : Dk W B d C ls cc w) (hc : cc + 6000 < 1000000) (hls : ls ≤ 4194304) (m : Int) (hm : m = 1 ∨ m = 2) :
    Calls Tryz.prog 30 #[dp d, .int .i64 m] w fun e w' => ∃ p, e = .returned (dp p) ∧ Shut W B p d m C ls (cc + 4100) w' := by
  obtain ⟨M, hG, hD⟩ := h
  obtain ⟨c, bs, k, hL, hC, hm0, hls'⟩ := hD.ex
  obtain ⟨ok, hDi, hok, hV⟩ := hG.ex
  refine (lopen_DL hDi (fun j hj => (hok j hj).2) hD.q hc hL (by omega) m hm).mono ?_
  rintro e w' ⟨rfl, M', s, c', bs', hS, hF, hDL, hQ, hcom, hmm, hls2⟩
  have hs := hF.size
  have hW := hG.below.size
  refine ⟨_, rfl, _, M', ⟨⟨_, hS.tight, fun j hj => ⟨hj.1.elim (fun h => (hok j h).1) (fun h => by omega), hj.2⟩, ?_⟩, hG.below.trans (hF.below (fun j hj => (hok j hj).1) hW), hG.stab⟩, ⟨rfl, rfl, rfl, rfl, rfl, rfl, rfl, rfl, Int.le_refl _, Int.le_trans hQ.st0 hQ.st1⟩, ⟨c', bs', k, hDL, hcom.trans hC, hmm, by omega⟩, hQ⟩
  exact hG.stab.mono (hG.stab.step hV (fun j hj hl => hF.block j hl hj.2)) (fun j hj => ⟨by omega, fun h => h.1.elim hj.2 (fun h => by omega)⟩)
theorem o_same {n q : Nat} {A : Option Addr} (h : Shut W B p d mo C ls cc w) (hcc : cc + 10 < 1000000) (hB : ∀ P : Nat → Prop, B w P → PV w P (.slice A n q) Ds) (hH : Holds C Ds) (hlen : Ds.length ≤ 4096) :
    Calls Tryz.prog 28 #[dp p, .slice A n q] w fun e w' => e = .returned (.bool true) ∧ Shut W B p d mo C ls (cc + 1) w' := by
  obtain ⟨X, M, hG, hX, hD⟩ := h
  obtain ⟨c, bs, k, hL, hC, hm, hls⟩ := hD.ex
  obtain ⟨ok, hS, hok, hV⟩ := hG.ex
  have hn : n = Ds.length := (Kd.V_at (hB _ hV)).1
  have hlen' := hH.len
  have hS0 := s_beg hS hD.q hcc hL (by rw [hX.md]; exact hm) hX.dead hX.inn hX.wr
  rw [hX.p] at hS0
  refine (same_v (p := p) (R := fun Xb Mb => ∃ s, Xb = X.begC s (comB c bs k) ∧ DL Mb c bs k ∧ Quiet Mb (cc + 1)) (hS0.mono (by
    rintro e w' ⟨rfl, M', s, hS', hL', hq'⟩
    exact ⟨rfl, _, _, ⟨s, rfl, hL', hq'⟩, hS'⟩)) (by
    rintro Xb Mb ⟨s, rfl, _, _⟩
    rw [hC]
    have hs := hH.sees (X := X) s
    exact ⟨hX.p, hX.dead, rfl, by show C.length ≤ _; omega, by rw [hs.cnt, hn], hs.at_⟩) (Kd.V_mono (hB _ hV) (fun j hj => hj.2)) hH.full (by omega)).mono ?_
  rintro e w' ⟨rfl, Xb, Mb, ⟨s, rfl, hL', hq'⟩, hS'⟩
  exact ⟨rfl, _, Mb, GJ.left hG.below hG.stab hok hV hS', ⟨hX.p, hX.d, hX.md, hX.dead, rfl, rfl, rfl, rfl, hX.nx0, Int.le_trans hX.nx (by omega)⟩, ⟨c, bs, k, hL', hC, hm, hls⟩, hq'⟩
theorem o_fold (h : Shut W B p d mo C ls cc w) (hcc : cc + 6000 < 1000000) (hls : ls ≤ 4194304) :
    Calls Tryz.prog 35 #[dp p] w fun e w' => e = .returned (.int .i64 0) ∧ ∃ X M, GJ W X M B w' ∧ Sh X p d mo (cc + 4100) ∧ ∃ k, DL M C [] k ∧ Quiet M (cc + 4100) := by
  obtain ⟨X, M, hG, hX, hD⟩ := h
  obtain ⟨c, bs, k, hL, hC, hm, hls'⟩ := hD.ex
  obtain ⟨ok, hS, hok, hV⟩ := hG.ex
  have hS0 := s_fold hS hD.q hcc hL hX.dead hX.inn (by omega)
  rw [hX.p] at hS0
  refine hS0.mono ?_
  rintro e w' ⟨rfl, M', s, hS', hL', hq'⟩
  rw [hC] at hL'
  exact ⟨rfl, _, M', GJ.left hG.below hG.stab hok hV hS', ⟨hX.p, hX.d, hX.md, hX.dead, rfl, rfl, rfl, rfl, hX.nx0, Int.le_trans hX.nx (by omega)⟩, k, hL', hq'⟩
theorem o_mark (h : Opn W B X p d mo C Ds ls cc w) (hcc : cc < 1000000) (hml : X.marks.length ≤ 100000) :
    Calls Tryz.prog 32 #[dp p] w fun e w' => e = .returned (.tuple #[.int .i64 (X.next + 1), .int .i64 0]) ∧ Opn W B X.mkd p d mo C Ds ls (cc + 1) w' := by
  obtain ⟨M, hG, hX, hD⟩ := h
  obtain ⟨ok, hS, hok, hV⟩ := hG.ex
  have hS0 : Calls Tryz.prog 32 #[dp X.p] w fun e w' => e = .returned (.tuple #[.int .i64 (X.next + 1), .int .i64 0]) ∧ SLeft w X.mkd M ok w' := s_mark hS hX.dead hX.inn hX.nx0 (Int.lt_of_le_of_lt hX.nx hcc) hml
  rw [hX.p] at hS0
  refine hS0.mono ?_
  rintro e w' ⟨rfl, hS'⟩
  exact ⟨rfl, M, GJ.left hG.below hG.stab hok hV hS', ⟨hX.p, hX.d, hX.md, hX.dead, hX.inn, hX.was, hX.ti.mkd, ⟨hX.see.cnt, hX.see.at_, hX.see.past, hX.see.full⟩, by have := hX.nx0; show 0 ≤ X.next + 1; omega, by have := hX.nx; show X.next + 1 ≤ cc + 1; omega⟩, hD.more (Nat.le_refl _) (by omega)⟩
theorem o_back (h : Opn W B X p d mo C Ds ls cc w) (hml : X.marks.length ≤ 100000) {m : Int} {i : Nat} {k : Mk} {Dk : List Bytes} (hk : X.marks[i]? = some k) (hkn : k.n = m) (hfirst : ∀ (j : Nat), j < i → ∀ x, X.marks[j]? = some x → x.n ≠ m) (hsee : Sees (X.bkd k i) Dk) :
    Calls Tryz.prog 31 #[dp p, .int .i64 m] w fun e w' => e = .returned (.int .i64 0) ∧ Opn W B (X.bkd k i) p d mo C Dk ls cc w' := by
  obtain ⟨M, hG, hX, hD⟩ := h
  obtain ⟨ok, hS, hok, hV⟩ := hG.ex
  have hS0 : Calls Tryz.prog 31 #[dp X.p, .int .i64 m] w fun e w' => e = .returned (.int .i64 0) ∧ SLeft w (X.bkd k i) M ok w' := s_back hS hX.dead hX.inn hml hk hkn hfirst
  rw [hX.p] at hS0
  refine hS0.mono ?_
  rintro e w' ⟨rfl, hS'⟩
  exact ⟨rfl, M, GJ.left hG.below hG.stab hok hV hS', ⟨hX.p, hX.d, hX.md, hX.dead, hX.inn, hX.was, hX.ti.bkd (List.mem_of_getElem? hk), hsee, hX.nx0, hX.nx⟩, hD⟩
end
end Go.Proofs.YtmdpgjdepflbmaaGreat
namespace Go.Proofs.YtmdpgjdepflbmaaGreat
open Go.RowKit Go.Maps Go.Proofs.YtmdpgjdepflbmaaGreatW.PrintWords Go.Proofs.YtmdpgjdepflbmaaGreatW.PrintLast Go.Proofs.YtmdpgjdepflbmaaGreatW.PrintMore
open Go.Proofs.YtmdpgjdepflbmaaGreat.PPagerFolds
set_option linter.unusedVariables false
set_option linter.unusedSimpArgs false

theorem secs_same (s : Bytes) (e : Nat) (ps : List Int) : ∀ (n k : Nat), e ≤ k + n → secs s e k s ps = (s, ps)
  | 0, k, h => by rw [secs, if_neg (by omega)]
  | n + 1, k, h => by
    rw [secs]
    split
    · have e1 : sector s s k (min (k + 64) e) ps = (s, ps) := by unfold sector; rw [if_pos rfl]
      rw [e1]
      exact secs_same s e ps n (k + 64) (by omega)
    · rfl
theorem found_same (s : Bytes) (ps : List Int) : foundF (s, s) ps = (s, ps) := by
  have h1 : lenF (s, s) ps = (s.length, ps) := by unfold lenF; rw [if_pos rfl]
  have h2 : padTo s s.length = s := by unfold padTo; simp
  unfold foundF
  simp only [h1, Nat.max_self, h2]
  rw [secs_same s s.length ps s.length 0 (by omega)]
  simp
def filesL (fs : Files) (L : List Name) : List S50 := L.map (fun y => ⟨strL y, ((fs y).getD ([], [])).2⟩)
theorem crashF_syn {fs : Files} (hs : ∀ x f, fs x = some f → f.1 = f.2) : ∀ (L : List Name) (ps : List Int), crashF fs L ps = filesL fs L
  | [], ps => rfl
  | y :: L, ps => by
    have e : (fs y).getD ([], []) = (((fs y).getD ([], [])).2, ((fs y).getD ([], [])).2) := by
      cases h : fs y with
      | none => rfl
      | some f => have := hs y f h; obtain ⟨a, b⟩ := f; simp only [Option.getD_some] at this ⊢; rw [this]
    unfold crashF filesL
    rw [e, found_same, crashF_syn hs L ps]
    rfl
theorem fsOf_files {fs : Files} {L : List Name} (hL : IsL fs L) (hs : ∀ x f, fs x = some f → f.1 = f.2) : fsOf (filesL fs L) = fs := by
  funext y
  unfold fsOf filesL
  have hnd : ∀ (L : List Name), (∀ x ∈ L, (fs x).isSome = true) → ((L.map (fun y => (⟨strL y, ((fs y).getD ([], [])).2⟩ : S50))).find? (fun x => decide (nm x.f0 = y))).map (fun x => (x.f1, x.f1)) = if y ∈ L then fs y else none := by
    intro L
    induction L with
    | nil => intro _; rfl
    | cons a L ih =>
      intro hm
      rw [List.map_cons, List.find?_cons]
      by_cases e : a = y
      · subst e
        rw [show decide (nm (strL a) = a) = true by rw [nm_strL]; simp]
        obtain ⟨f, hf⟩ := Option.isSome_iff_exists.1 (hm a (by simp))
        have := hs a f hf
        obtain ⟨p, q⟩ := f
        simp only at this
        subst this
        simp [hf]
      · rw [show decide (nm (strL a) = y) = false by rw [nm_strL]; simp [e]]
        rw [ih (fun x hx => hm x (by simp [hx]))]
        simp [Ne.symm e]
  rw [hnd L (fun x hx => (hL.2 x).1 hx)]
  by_cases h : y ∈ L
  · rw [if_pos h]
  · rw [if_neg h]
    cases e : fs y with
    | none => rfl
    | some f => exact absurd ((hL.2 y).2 (by rw [e]; rfl)) h
theorem files_ok {M : DM} {cc : Int} (hq : Quiet M cc) {L : List Name} (hL : IsL M.fs L) : FilesOk (filesL M.fs L) := by
  have h3 := hq.card3 hL
  refine ⟨by unfold filesL; rw [List.length_map]; omega, fun x hx => ?_, ?_⟩
  · obtain ⟨y, hy, rfl⟩ := List.mem_map.1 hx
    obtain ⟨f, hf⟩ := Option.isSome_iff_exists.1 ((hL.2 y).1 hy)
    refine ⟨?_, by show ((M.fs y).getD ([], [])).2.length ≤ _; rw [hf]; exact (hq.len y f hf).2⟩
    rcases hq.three y ((hL.2 y).1 hy) with rfl | rfl | rfl
    · exact good_B
    · exact good_J
    · exact good_L
  · unfold filesL
    rw [List.pairwise_map]
    refine hL.1.imp (fun {a b} h => ?_)
    show nm (strL a) < nm (strL b)
    rw [nm_strL, nm_strL]
    exact h
theorem crash_DL {w : World} {d : Nat} {M : DM} {okD : Nat → Prop} {cc : Int} {c : Bytes} {bs : List BK} {k : Nat} (hD : DiskAt w d M okD) (hq : Quiet M cc) (hL : DL M c bs k) {A : Option Addr} {n q : Nat} {ps : List Int} (hC : I64.C w A n ps) (hc : n ≤ q) (hA : ∀ ad, 0 < n → A = some ad → ad.block < w.heap.size) :
    Calls Tryz.prog 33 #[dptr d, .slice A n q] w fun e w' => ∃ A1 c1 l, e = .returned (.slice A1 l.length c1) ∧ Kd.C k50 w' A1 l.length l ∧ l.length ≤ c1 ∧ FilesOk l ∧ fsOf l = M.fs ∧ Below w.heap.size w w' := by
  obtain ⟨L, hLL⟩ := hD.isL
  have h3 := hq.card3 hLL
  refine (crash_any hD hq.len hLL (by omega) (fun y hy => ?_) hC hc hA).mono ?_
  · rcases hq.three y ((hLL.2 y).1 hy) with rfl | rfl | rfl <;> decide
  · rintro e w' ⟨v, rfl, hS, hB⟩
    rw [crashF_syn hL.syn] at hS
    obtain ⟨A1, c1, hv, hle, hC1⟩ := Kd.S_reads hS
    exact ⟨A1, c1, _, by rw [hv], hC1, hle, files_ok hq hLL, fsOf_files hLL hL.syn, hB⟩
theorem newdisk_DL {w : World} {M : DM} {cc : Int} {c : Bytes} {bs : List BK} {k : Nat} (hq : Quiet M cc) (hL : DL M c bs k) {A : Option Addr} {c1 : Nat} {l : List S50} (hC : Kd.C k50 w A l.length l) (hc : l.length ≤ c1) (hF : FilesOk l) (hfs : fsOf l = M.fs) :
    Calls Tryz.prog 13 #[.slice A l.length c1, .slice none 0 0] w fun e w' => e = .returned (.tuple #[dptr (w.heap.size + 2), .int .i64 0]) ∧ ∃ M', DiskAt w' (w.heap.size + 2) M' (fun k => w.heap.size ≤ k) ∧ DL M' c bs k ∧ Quiet M' 0 ∧ Below w.heap.size w w' := by
  refine (new_ok (l := l) (t := []) hC hc (⟨rfl, Nat.zero_le _, fun h => absurd h (Nat.lt_irrefl _)⟩ : Kd.C k39 w none 0 []) (Nat.le_refl _) hF ⟨fun x h => by simp at h, fun x h => by simp at h⟩ (by simp)).mono ?_
  rintro e w' ⟨rfl, hD, hb⟩
  have e1 : (newM l []).fs = M.fs := hfs
  refine ⟨rfl, _, hD, ⟨by rw [e1]; exact hL.jn, ?_, hL.len, hL.md, by rw [e1]; exact hL.log, hL.chain, by rw [e1]; exact hL.syn⟩, ⟨rfl, fun n => rfl, Int.le_refl _, Int.le_refl _, by rw [e1]; exact hq.three, by rw [e1]; exact hq.len⟩, hb⟩
  have := hL.base
  unfold baseB at this ⊢
  rw [e1]
  exact this
end Go.Proofs.YtmdpgjdepflbmaaGreat
namespace Go.Proofs.YtmdpgjdepflbmaaGreat
open Go.RowKit Go.Maps Go.Proofs.YtmdpgjdepflbmaaGreatW.PrintWords Go.Proofs.YtmdpgjdepflbmaaGreatW.PrintLast Go.Proofs.YtmdpgjdepflbmaaGreatW.PrintMore
open Go.Proofs.YtmdpgjdepflbmaaGreat.PPagerFolds
set_option linter.unusedVariables false
set_option linter.unusedSimpArgs false

section
variable {W w w' : World} {X : PG} {M : DM} {B : World → (Nat → Prop) → Prop} {p d ls : Nat} {mo cc : Int} {C : Bytes} {Ds : List Bytes}
theorem o_new (hG : GD W d M B w) (hD : Dsk 2 C ls cc M) {A : Option Addr} {c1 : Nat} {l : List S50} (hC : Kd.C k50 w A l.length l) (hc : l.length ≤ c1) (hF : FilesOk l) (hfs : fsOf l = M.fs) :
    Calls Tryz.prog 13 #[.slice A l.length c1, .slice none 0 0] w fun e w' => ∃ d', e = .returned (.tuple #[dp d', .int .i64 0]) ∧ Dk W B d' C ls 0 w' := by
  obtain ⟨c, bs, k, hL, hCo, hm, hls⟩ := hD.ex
  obtain ⟨ok, hDi, hok, hV⟩ := hG.ex
  refine (newdisk_DL hD.q hL hC hc hF hfs).mono ?_
  rintro e w' ⟨rfl, M', hD', hL', hq', hb⟩
  have hs := hb.size
  have hW := hG.below.size
  refine ⟨_, rfl, M', ⟨⟨_, hD'.tight, fun j hj => ⟨by have := hj.1; omega, hj.2⟩, ?_⟩, hG.below.trans (hb.mono hW), hG.stab⟩, ⟨c, bs, k, hL', hCo, .inl rfl, hls⟩, hq'⟩
  exact hG.stab.mono (hG.stab.step hV (fun k hk hl => hb.block k hl)) (fun j hj => ⟨by omega, fun h => by have := h.1; omega⟩)
theorem Dk.start {W w : World} {ok : Nat → Prop} (hD : DiskAt w d M0 ok) (hok : ∀ k, ok k → W.heap.size ≤ k ∧ k < w.heap.size) (hb : Below W.heap.size W w) (hst : Stab B) (hB : ∀ P, B w P) : Dk W B d [] 0 0 w :=
  ⟨M0, ⟨⟨ok, hD, hok, hB _⟩, hb, hst⟩, Dsk.new⟩
end
end Go.Proofs.YtmdpgjdepflbmaaGreat

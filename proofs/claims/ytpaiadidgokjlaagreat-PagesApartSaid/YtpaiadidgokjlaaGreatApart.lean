/-
  PagesApart: pages that are held side by side.
-/
import Derived.Test.YtpaiadidgokjlaaGreatFs
namespace Go.Proofs.YtpaiadidgokjlaaGreat
open Go.RowKit Go.Maps Go.Proofs.YtpaiadidgokjlaaGreatW.PrintWords Go.Proofs.YtpaiadidgokjlaaGreatW.PrintLast Go.Proofs.YtpaiadidgokjlaaGreatW.PrintMore
open Go.Proofs.YtpaiadidgokjlaaGreat.PPagesModel
set_option linter.unusedVariables false
set_option linter.unusedSimpArgs false

theorem within_any (a : Int) (n : Nat) (h0 : 1 ≤ n) (h1 : n < 1000000) (w : World) : Calls Tryz.prog 15 #[.int .i64 a, .int .i64 n] w fun e w' => ∃ r : Nat, e = .returned (.int .i64 r) ∧ r < n ∧ (r : Int) = (IntKind.u64.wrap a) % n ∧ ∃ m, w' = w.drewN m := by
  have e1 : IntKind.u64.wrap (n : Int) = n := by simp [IntKind.wrap, IntKind.bits, IntKind.signed]; omega
  have hu : 0 ≤ IntKind.u64.wrap a := by simp [IntKind.wrap, IntKind.bits, IntKind.signed]; omega
  obtain ⟨r, hr⟩ : ∃ r : Nat, (r : Int) = (IntKind.u64.wrap a) % n := ⟨((IntKind.u64.wrap a) % n).toNat, by have := Int.emod_nonneg (IntKind.u64.wrap a) (show (n : Int) ≠ 0 by omega); omega⟩
  have hrn : r < n := by have := Int.emod_lt_of_pos (IntKind.u64.wrap a) (show (0 : Int) < n by omega); omega
  have hf : cadastrelaw0_Within.f a n = some (r : Int) := by
    unfold cadastrelaw0_Within.f
    rw [e1, if_neg (by omega), Int.tmod_eq_emod_of_nonneg hu, ← hr, wrap64_small (by omega) (by omega)]
  refine (cadastrelaw0_Within.calls a n r w hf).mono ?_
  rintro e w' ⟨rfl, ⟨m, rfl⟩⟩
  exact ⟨r, rfl, hrn, hr, m, rfl⟩

/-- the pages that were held so far, what stands on them, in the order in which they came -/
structure AS (w wr : World) (g : Nat) (B : PG) (V : Int → Bytes) (cnt : Int) (ok : Nat → Prop) (v6 : Value) (L : List Int) (i : Nat) : Prop where
  fs : FS w wr g B M0 V cnt ok
  row : I64.R 3 wr w.heap.size (fun k => w.heap.size ≤ k ∧ ¬ ok k) v6 L
  len : L.length = i
  nd : L.Nodup
  held : ∀ m, HeldP (V 0) m ↔ m ∈ L
  text : ∀ (j : Nat) (p : Int), L[j]? = some p → V p = pageB j
  top : wordZ (V 0) 16 ≤ i

/-- the same, the first ones given back -/
structure AG (w wr : World) (g : Nat) (B : PG) (V : Int → Bytes) (cnt : Int) (ok : Nat → Prop) (v6 : Value) (L : List Int) (i : Nat) : Prop where
  fs : FS w wr g B M0 V cnt ok
  row : I64.R 3 wr w.heap.size (fun k => w.heap.size ≤ k ∧ ¬ ok k) v6 L
  held : ∀ m, HeldP (V 0) m ↔ m ∈ L.drop i
  top : wordZ (V 0) 16 ≤ L.length
theorem below_tr {w a b : World} (h : Below w.heap.size w a) (k : Below a.heap.size a b) : Below w.heap.size w b := h.trans (k.mono h.size)
theorem make512 : ∀ W : World, (Instr.makeSlice 35 (.int .i64 512) (.int .i64 512)).run Tryz.prog W = .ok (.slice (some ⟨W.heap.size, 0, none⟩) 512 512) (W.alloc (.cells (madeCells #[.int .u8 0] 512) 5)) :=
  fun W => print_make 35 5 .u8 1 Tryz.underlying35 info5 (by decide) 512 (by decide) W
theorem made512 (W : World) : U8.C (W.alloc (.cells (madeCells #[.int .u8 0] 512) 5)) (some ⟨W.heap.size, 0, none⟩) 512 zeros := by
  have h := own_made W 0 5 .u8 512 (Nat.zero_le _) (by decide)
  have hR : U8.R 5 (W.alloc (.cells (madeCells #[.int .u8 0] 512) 5)) 0 (fun _ => True) (.slice (some ⟨W.heap.size, 0, none⟩) 512 512) zeros :=
    Kd.R_of_own (by rw [show zeros.length = 512 from List.length_replicate]; exact h) (fun _ _ => trivial)
  exact (C_of_row hR).1
theorem irow_cell {w : World} {base : Nat} {ok : Nat → Prop} {gz n cap : Nat} {l : List Int} (h : I64.R 3 w base ok (.slice (some ⟨gz, 0, none⟩) n cap) l) (j : Nat) (hj : j < n) : w.cell? ⟨gz, j, none⟩ = some (.int .i64 (rd l j)) := by
  obtain ⟨h1, h2⟩ := Kd.R_celln 0 h (j : Int) (by omega) (by omega)
  rw [Int.toNat_natCast] at h1
  rw [h1]; rfl
theorem drop_cons {L : List Int} {k : Nat} (h : k < L.length) : L.drop k = rd L k :: L.drop (k + 1) := by
  rw [List.drop_eq_getElem_cons h]
  simp [rd, List.getD_eq_getElem?_getD, h]

set_option maxHeartbeats 1500000 in
set_option maxRecDepth 100000 in
theorem apart_any (A : Option Addr) (len cap : Nat) (D C L : Nat → Int) (w : World) (hl0 : len ≤ 9223372036854775807) (hA : Acts w A len D C L) :
    Calls Tryz.prog 3 #[.slice A len cap] w fun e w' => e = .returned (.bool true) ∧ Below w.heap.size w w' := by
  have HS := Aside0.mk (fs_start w)
  clear hA
  go_enter Tryz.func3, Tryz.ntmps3
  go_wp2_with fail
  refine (HS.out).mono ?_
  rintro e w1 ⟨g, p, d, l, ok0, rfl, hF⟩
  have H1 := Aside0.mk hF
  have HWi := Aside0.mk (within_any (len : Int) 30 (by omega) (by omega) w1)
  clear hF HS
  go_wp2_with fail
  refine (HWi.out).mono ?_
  rintro e w' ⟨r, rfl, hr, -, m0, rfl⟩
  obtain ⟨n, hn⟩ : ∃ n : Nat, n = 1 + r := ⟨_, rfl⟩
  have hn30 : n ≤ 30 := by omega
  have hnr : (1 : Int) + (r : Int) = n := by omega
  have HNR := Aside0.mk (And.intro hnr hn)
  clear hn hr
  go_wp2
  clear hnr
  go_loopw [6, 7] (fun v6 v7 wr => ∃ k : Nat, v7 = .int .i64 k ∧ k ≤ n ∧ Aside0 (∃ V cnt ok L, AS w wr g (B0 p d l) V cnt ok v6 L k)) (fun _ v7 _ => n - (intOf v7).toNat)
  case atStart => exact ⟨0, rfl, by omega, ⟨_, _, _, [], H1.out.drewN _, Kd.R_nil _ _ _ _ _, rfl, List.nodup_nil, fun m => by simp [V0_zero, zero_none], fun j p h => by simp at h, by rw [V0_zero, zero_top]; omega⟩⟩
  case round =>
    clear H1 HWi
    obtain ⟨k, rfl, hk, HI⟩ := hrel
    by_cases h1 : k < n
    · obtain ⟨V, cnt, ok, L, hA⟩ := HI.out
      have HA := Aside0.mk hA
      have HAl := Aside0.mk (fs_alloc hA.fs (by have := hA.top; omega))
      clear hA HI
      go_wp2_with fail
      refine (HAl.out).mono ?_
      rintro e w2 ⟨x, V2, cnt2, rfl, hF2, x1, x2, hx, hh2, hV2, ht2, hr2, _, _⟩
      have hrow2 := row_fr HA.out.row hF2.fr
      obtain ⟨A6, c6, rfl, hC6, hc6⟩ := R_row hrow2
      rw [HA.out.len] at hC6 hc6 hrow2 ⊢
      have HIn := in_any A6 k c6 L x w2 hC6 (by omega)
      rw [decide_eq_false (fun h => hx ((HA.out.held x).2 h))] at HIn
      replace HIn := Aside0.mk HIn
      have H2 := Aside0.mk (And.intro hF2 (And.intro hh2 (And.intro hV2 (And.intro ht2 (And.intro hx hrow2)))))
      clear hF2 hh2 hV2 ht2 hr2 hrow2 hC6 hc6 hx
      go_wp2_with (first
        | (go_at_call 17; refine (num13_any _ _).mono ?_; rintro e w' ⟨rfl, rfl⟩)
        | (go_at_call 18; refine (HIn.out).mono ?_; rintro e w' ⟨rfl, rfl⟩)
        | (go_at_call 20; refine (lpage_any _ _).mono ?_; rintro e w3 ⟨v3, rfl, hv3, hb3⟩
           have hF3 := H2.out.1.st.step hb3
           have hrow3 := Kd.R_below H2.out.2.2.2.2.2 hb3
           have hv3' := row_new H2.out.1.st hv3
           have HWr := Aside0.mk (fs_write hF3 x ((H2.out.2.1 x).2 (.inl rfl)) hv3' (pageB_length _))
           have H3 := Aside0.mk (And.intro hF3 hrow3)
           clear hF3 hrow3 hv3 hv3' hb3)
        | (go_at_call 19; refine (HWr.out).mono ?_; rintro e w4 ⟨rfl, hF4⟩
           have hrow4 := row_fr H3.out.2 hF4.fr
           have H4 := Aside0.mk (And.intro hF4 hrow4)
           clear hF4 hrow4)
        | ((with_reducible refine gate_builtin (b := .append) (xs := #[.tmp 57, .tmp 59]) rfl ?_); at_builtin; refine Kd.R_append I64 (w0 := w) w.heap.size rfl (.tmp 57) (.tmp 59) 28 3 (.int .i64 0) 8 rfl Tryz.underlying28 info3 rfl (by decide) (by omega) (.slice A6 k c6) L x [.int .i64 x] (fun j => w.heap.size ≤ j ∧ ¬ Grow w3 (Grow wr ok w2) w4 j) (fun _ => False) rfl rfl ?aP (fun _ hk => hk.elim) ?aF ?aO ?aB ?aS ?aL ?_; (case aP => exact rfl); (case aF => exact (fun j hj => ⟨Nat.le_trans H4.out.1.st.below.size hj, fun h => by have := H4.out.1.st.lt j h; omega⟩)); (case aO => exact H4.out.2); (case aB => exact H4.out.1.st.below); (case aS => exact H4.out.1.st.below.size); (case aL => rw [HA.out.len]; omega); intro v5 w5 ho hb hg hat; have H5 := Aside0.mk (And.intro ho (And.intro hb (And.intro hg hat))); clear ho hb hg hat))
      go_roundw
      case rel =>
        obtain ⟨hF2, hh2, hV2, ht2, hx, hrow2⟩ := H2.out
        obtain ⟨ho, hb, hg, hat⟩ := H5.out
        have x0 : x ≠ 0 := by omega
        have hV0 : (if (0 : Int) = x then pageB k else V2 0) = V2 0 := if_neg (by omega)
        have hxL : x ∉ L := fun h => hx ((HA.out.held x).2 h)
        refine ⟨k + 1, by go_num, by omega, ⟨_, _, _, L ++ [x], H4.out.1.st.grown hg (fun j hj => ⟨(H4.out.2.1 j hj).2, (H4.out.2.1 j hj).1⟩), ho, by simp [HA.out.len], ?_, ?_, ?_, ?_⟩⟩
        · rw [List.nodup_append]
          exact ⟨HA.out.nd, by simp, fun a ha b hb => by simp at hb; subst hb; exact fun e => hxL (e ▸ ha)⟩
        · intro m
          rw [hV0, hh2 m, List.mem_append, HA.out.held m]
          simp
          exact Or.comm
        · intro j q hq
          by_cases hj : j < L.length
          · rw [List.getElem?_append_left hj] at hq
            have hqL : q ∈ L := List.mem_of_getElem? hq
            have hqx : q ≠ x := fun e => hxL (e ▸ hqL)
            have hq0 : q ≠ 0 := by have := ((HA.out.held q).2 hqL).1; omega
            rw [if_neg hqx, hV2 q hq0, if_neg hqx]
            exact HA.out.text j q hq
          · rw [List.getElem?_append_right (by omega)] at hq
            have : j = k := by
              have := HA.out.len
              have h2 := (List.getElem?_eq_some_iff.1 hq).1
              simp at h2
              omega
            subst this
            rw [HA.out.len, Nat.sub_self] at hq
            have : q = x := by simpa using hq.symm
            subst this
            simp
        · rw [hV0]
          have := HA.out.top
          rcases ht2 with h | h
          · rw [h]; omega
          · rw [h.1]; omega
      case measure => simp [intOf]; omega
    · obtain ⟨V, cnt, ok, L, hA⟩ := HI.out
      have hkn : k = n := by omega
      subst hkn
      obtain ⟨g6, c6, rfl, _, _, _⟩ := Kd.R_form hA.row (by rw [hA.len]; have := HNR.out.2; omega)
      rw [hA.len] at hA ⊢
      have HL := Aside0.mk hA.len
      have HA := Aside0.mk hA
      have hz : decide ((k : Int) < k) = false := by simp
      clear hA HI
      go_wp2
      go_loopw [10] (fun v10 wr => ∃ i : Nat, v10 = .int .i64 i ∧ i ≤ k ∧ Aside0 (AS w wr g (B0 p d l) V cnt ok (.slice (some ⟨g6, 0, none⟩) k c6) L k)) (fun v10 _ => k - (intOf v10).toNat)
      case atStart => exact ⟨0, rfl, by omega, HA⟩
      case round =>
        clear HA
        obtain ⟨i, rfl, hi, HI⟩ := hrel
        by_cases h2 : i < k
        · have hA := HI.out
          have hc := irow_cell hA.row i h2
          have hgi : L[i]? = some (rd L (i : Int)) := by
            have : i < L.length := by rw [HL.out]; exact h2
            simp [rd, List.getD_eq_getElem?_getD, this]
          have hH : HeldP (V 0) (rd L (i : Int)) := (hA.held _).2 (List.mem_of_getElem? hgi)
          have HR := fs_read hA.fs _ hH
          rw [hA.text i _ hgi] at HR
          replace HR := Aside0.mk HR
          clear hA hgi hH
          generalize rd L (i : Int) = x at *
          go_wp2_with (first
            | (go_at_call 21; refine (HR.out).mono ?_; rintro e w2 ⟨v, rfl, hv, hb⟩
               obtain ⟨A3, c3, rfl⟩ := Kd.R_slice hv
               rw [pageB_length] at hv ⊢
               obtain ⟨hC3, hc3, _⟩ := C_of_row hv
               have H2 := Aside0.mk (And.intro hC3 (And.intro hc3 hb))
               clear hv hb hC3 hc3)
            | (go_at_call 17; refine (num13_any _ _).mono ?_; rintro e w' ⟨rfl, rfl⟩)
            | (go_at_call 20; refine (lpage_any _ _).mono ?_; rintro e w3 ⟨v3, rfl, hv3, hb3⟩
               obtain ⟨A4, c4, rfl⟩ := Kd.R_slice hv3
               rw [pageB_length] at hv3 ⊢
               obtain ⟨hC4, hc4, _⟩ := C_of_row hv3
               have HQ := eqbytes_any (Kd.C_below H2.out.1 hb3) H2.out.2.1 hC4 hc4 (by omega)
               rw [decide_eq_true rfl] at HQ
               replace HQ := Aside0.mk HQ
               have H3 := Aside0.mk hb3
               clear hv3 hb3 hC4 hc4)
            | (go_at_call 22; refine (HQ.out).mono ?_; rintro e w' ⟨rfl, m4, rfl⟩))
          go_roundw
          case rel =>
            have hA := HI.out
            have hb := H2.out.2.2
            have hb3 := pw_below_drewN (hb.trans (H3.out.mono hb.size)) m4
            exact ⟨i + 1, by go_num, by omega, ⟨hA.fs.step hb3, Kd.R_below hA.row hb3, hA.len, hA.nd, hA.held, hA.text, hA.top⟩⟩
          case measure => simp [intOf]; omega
        · have hik : i = k := by omega
          subst hik
          have hA := HI.out
          have HG : Aside0 (∃ V cnt ok, AG w wr g (B0 p d l) V cnt ok (.slice (some ⟨g6, 0, none⟩) i c6) L 0) := ⟨V, cnt, ok, hA.fs, hA.row, by simpa using hA.held, by rw [HL.out]; exact hA.top⟩
          have HND := Aside0.mk hA.nd
          clear hA HI h2
          go_wp2
          go_loopw [13] (fun v13 wr => ∃ j : Nat, v13 = .int .i64 j ∧ j ≤ i ∧ Aside0 (∃ V cnt ok, AG w wr g (B0 p d l) V cnt ok (.slice (some ⟨g6, 0, none⟩) i c6) L j)) (fun v13 _ => i - (intOf v13).toNat)
          case atStart => exact ⟨0, rfl, by omega, HG⟩
          case round =>
            clear HG
            obtain ⟨j, rfl, hj, HI⟩ := hrel
            by_cases h3 : j < i
            · obtain ⟨V, cnt, ok, hA⟩ := HI.out
              have hc := irow_cell hA.row j h3
              have hjl : j < L.length := by rw [HL.out]; exact h3
              have hdc := drop_cons hjl
              have hH : HeldP (V 0) (rd L (j : Int)) := (hA.held _).2 (by rw [hdc]; simp)
              have hnot : rd L (j : Int) ∉ L.drop (j + 1) := by
                have h1 : (L.drop j).Nodup := HND.out.sublist (List.drop_sublist j L)
                rw [hdc] at h1
                exact (List.nodup_cons.1 h1).1
              have HF1 := Aside0.mk (fun W (hW : Below wr.heap.size wr W) => fs_free (hA.fs.step hW) _ hH)
              obtain ⟨x, hx⟩ : ∃ x, x = rd L (j : Int) := ⟨_, rfl⟩
              rw [← hx] at hc hdc hnot HF1
              have HA := Aside0.mk (And.intro hA (And.intro hdc (And.intro hnot hx)))
              clear hA hdc hnot hH hjl HI hx
              go_wp2
              go_region_held3 (fun w' => w'.cell? ⟨g6, j, none⟩ = some (.int .i64 x)) (first | go_keep | assumption)
                (first
                  | (go_at_call 17; refine (num13_any _ _).mono ?_; rintro e w' ⟨rfl, rfl⟩)
                  | (go_at_call 23; refine (HF2.out).mono ?_; rintro e w3 ⟨rfl, hb3⟩
                     have c3 : w3.cell? ⟨g6, j, none⟩ = some (.int .i64 x) := (hb3.cell (p := ⟨g6, j, none⟩) (World.block_lt_of_cell? _ _ c2)).trans c2
                     have H3 := Aside0.mk hb3
                     clear hb3)
                  | (go_at_call 23; refine (HF1.out _ (by first | exact pw_below_drewN (Below.refl _ _) _ | exact below_drew (Below.refl _ _) | exact Below.refl _ _)).mono ?_; rintro e w2 ⟨V2, cnt2, rfl, hF2, hh2, hV2, ht2, hr2, _⟩
                     have hrow2 : I64.R 3 w2 w.heap.size (fun k => w.heap.size ≤ k ∧ ¬ Grow _ ok w2 k) (.slice (some ⟨g6, 0, none⟩) i c6) L := row_fr (by first | exact Kd.R_drewN HA.out.1.row _ | exact Kd.R_drew HA.out.1.row) hF2.fr
                     have c2 : w2.cell? ⟨g6, j, none⟩ = some (.int .i64 x) := by
                       rw [HA.out.2.2.2]
                       exact irow_cell hrow2 j h3
                     have HF2 := Aside0.mk (fs_free_no hF2.st x (fun h => ((hh2 x).1 h).1 rfl))
                     have H2 := Aside0.mk (And.intro hF2 (And.intro hh2 (And.intro ht2 hrow2)))
                     clear hF2 hh2 hV2 ht2 hr2 hrow2)
                  | (go_at_call 20; refine (lpage_any _ _).mono ?_; rintro e w4 ⟨v4, rfl, hv4, hb4⟩
                     have c4 : w4.cell? ⟨g6, j, none⟩ = some (.int .i64 x) := (hb4.cell (p := ⟨g6, j, none⟩) (World.block_lt_of_cell? _ _ c3)).trans c3
                     have HW := Aside0.mk (fs_write_no ((H2.out.1.st.step H3.out).step hb4) x (fun h => ((H2.out.2.1 x).1 h).1 rfl) hv4)
                     have H4 := Aside0.mk hb4
                     clear hv4 hb4)
                  | (go_at_call 19; refine (HW.out).mono ?_; rintro e w5 ⟨rfl, hb5⟩
                     have c5 : w5.cell? ⟨g6, j, none⟩ = some (.int .i64 x) := (hb5.cell (p := ⟨g6, j, none⟩) (World.block_lt_of_cell? _ _ c4)).trans c4
                     have H5 := Aside0.mk hb5
                     clear hb5))
              go_wp2
              go_roundw
              case rel =>
                obtain ⟨hA, hdc, hnot, hx⟩ := HA.out
                obtain ⟨hF2, hh2, ht2, hrow2⟩ := H2.out
                have hb : Below w2.heap.size w2 w5 := (H3.out.trans (H4.out.mono H3.out.size)).trans (H5.out.mono (Nat.le_trans H3.out.size H4.out.size))
                refine ⟨j + 1, by go_num, by omega, ⟨_, _, _, hF2.st.step hb, Kd.R_below hrow2 hb, fun m => ?_, by rw [ht2]; exact hA.top⟩⟩
                rw [hh2 m, hA.held m, hdc]
                constructor
                · rintro ⟨h1, h2⟩
                  rcases List.mem_cons.1 h2 with h2 | h2
                  · exact absurd h2 h1
                  · exact h2
                · intro h
                  exact ⟨fun e => hnot (e ▸ h), List.mem_cons_of_mem _ h⟩
              case measure => simp [intOf]; omega
            · have hji : j = i := by omega
              subst hji
              obtain ⟨V, cnt, ok, hA⟩ := HI.out
              have hnone : ∀ m, ¬ HeldP (V 0) m := fun m h => by
                have := (hA.held m).1 h
                rw [List.drop_of_length_le (by rw [HL.out]; omega)] at this
                cases this
              have HAl := Aside0.mk (fs_alloc hA.fs (by have := hA.top; rw [HL.out] at this; omega))
              have HN := Aside0.mk hnone
              have HB := Aside0.mk hA.fs
              clear hA HI hnone h3
              go_wp2_with fail
              refine (HAl.out).mono ?_
              rintro e w2 ⟨x, V2, cnt2, rfl, hF2, x1, x2, hx, hh2, hV2, ht2, hr2, _, _⟩
              have hH := (hh2 x).2 (.inl rfl)
              have HR := fs_read hF2.st x hH
              rw [hV2 x (by omega), if_pos rfl] at HR
              replace HR := Aside0.mk HR
              have H2 := Aside0.mk (And.intro hF2 hh2)
              clear hF2 hh2 hV2 ht2 hr2 hH hx
              go_wp2_with fail
              refine (HR.out).mono ?_
              rintro e w3 ⟨v3, rfl, hv3, hb3⟩
              obtain ⟨A3, c3, rfl⟩ := Kd.R_slice hv3
              rw [show zeros.length = 512 from List.length_replicate] at hv3 ⊢
              obtain ⟨hC3, hc3, _⟩ := C_of_row hv3
              have HH := Aside0.mk (fs_held (H2.out.1.st.step hb3) (L := [x]) (by simp) (fun y => by
                rw [H2.out.2 y]
                constructor
                · intro h; exact .inl (by simpa using h)
                · rintro (h | h)
                  · simp [h]
                  · exact absurd h (HN.out y)))
              have H3 := Aside0.mk (And.intro hC3 (And.intro hc3 hb3))
              clear hv3 hC3 hc3 hb3
              go_wp2_with fail
              refine (HH.out).mono ?_
              rintro e w4 ⟨v4, rfl, hv4, hb4⟩
              obtain ⟨A4, c4, rfl, hC4, hc4⟩ := R_row hv4
              have H4 := Aside0.mk (And.intro hC4 (And.intro hc4 hb4))
              clear hv4 hC4 hc4 hb4
              have hmk := make512
              obtain ⟨w5, hw5⟩ : ∃ w5, w5 = w4.alloc (.cells (madeCells #[Value.int .u8 0] 512) 5) := ⟨_, rfl⟩
              have hb5 : Below w4.heap.size w4 w5 := by rw [hw5]; exact (Below.refl _ _).alloc (Nat.le_refl _) _
              have hC5 := made512 w4
              rw [← hw5] at hC5
              have HQ := eqbytes_any (Kd.C_below (Kd.C_below H3.out.1 H4.out.2.2) hb5) H3.out.2.1 hC5 (Nat.le_refl 512) (by omega)
              rw [decide_eq_true rfl] at HQ
              rw [hw5] at HQ
              replace HQ := Aside0.mk HQ
              have H5 := Aside0.mk (And.intro hb5 hw5)
              clear hb5 hC5 hw5
              go_wp2_with (first
                | (go_at_call 17; refine (num13_any _ _).mono ?_; rintro e w' ⟨rfl, rfl⟩)
                | (go_at_call 22; refine (HQ.out).mono ?_; rintro e w' ⟨rfl, m4, rfl⟩
                   have HE := eqnumbers_any (w := (w5.alloc (.cells #[.int .i64 x] 3)).drewN m4) (Kd.C_drewN (Kd.C_alloc (Kd.C_below H4.out.1 H5.out.1) _) m4) H4.out.2.1 (Kd.C_drewN (one_C w5 x) m4) (Nat.le_refl 1) (by simp)
                   rw [show w5.heap.size = w4.heap.size + 1 from by rw [H5.out.2]; simp] at HE
                   rw [H5.out.2] at HE
                   rw [decide_eq_true rfl] at HE
                   replace HE := Aside0.mk HE)
                | (go_at_call 25; refine (HE.out).mono ?_; rintro e w' ⟨rfl, m5, rfl⟩)
                | (go_at_call 26; refine (wakes_any _).mono ?_; rintro e w9 ⟨rfl, hb9⟩; have H9 := Aside0.mk hb9; clear hb9))
              go_ret
              refine ⟨rfl, ?_⟩
              have b5 := below_tr (below_tr (below_tr H2.out.1.st.below H3.out.2.2) H4.out.2.2) H5.out.1
              have h9 := H9.out
              rw [← H5.out.2] at h9
              exact below_tr (pw_below_drewN (below_alloc b5 _) _) h9
end Go.Proofs.YtpaiadidgokjlaaGreat

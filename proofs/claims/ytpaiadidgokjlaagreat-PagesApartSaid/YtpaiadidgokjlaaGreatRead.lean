/-
  The contract of slices.Clone at []byte: a new row of the same bytes.
-/
import Derived.Test.YtpaiadidgokjlaaGreatDisk
import Derived.Test.YtpaiadidgokjlaaGreatGood
import Derived.WalkSpells
import Derived.WalkLawsBesides
import Derived.Deep.QuietTactic
import Derived.BigQuiet
namespace Go.Proofs.YtpaiadidgokjlaaGreat
open Go.RowKit Go.Maps Go.Proofs.YtpaiadidgokjlaaGreatW.PrintWords Go.Proofs.YtpaiadidgokjlaaGreatW.PrintLast Go.Proofs.YtpaiadidgokjlaaGreatW.PrintMore
open Go.Proofs.YtpaiadidgokjlaaGreat.PPagesModel
set_option linter.unusedVariables false

def roomy : Nat := 140737488355328

theorem R_empty (w : World) (base : Nat) (ok : Nat → Prop) (hb : base ≤ w.heap.size) (ho : ok w.heap.size) : U8.R 5 (w.alloc (.cells #[] 5)) base ok (.slice (some ⟨w.heap.size, 0, none⟩) 0 0) [] :=
  ⟨fun k hk => by simp [Value.ownBlock] at hk; rw [← hk]; exact ho, [], ⟨rfl, .inr ⟨w.heap.size, 0, #[], rfl, hb, heap_alloc_new w _, Nat.le_refl _, Nat.zero_le _, rfl, rfl⟩⟩, Reps.none _ _⟩

theorem clone_any (A : Option Addr) (n c : Nat) (xs : Bytes) (w : World) (hn : n ≤ roomy) (hC : U8.C w A n xs) :
    Calls Tryz.prog 123 #[.slice A n c] w fun e w' => ∃ v, e = .returned v ∧ U8.R 5 w' w.heap.size (fun k => w.heap.size ≤ k) v xs ∧ Below w.heap.size w w' := by
  have HN := Aside0.mk hn
  have HC := Aside0.mk hC
  clear hn
  rcases A with _ | ad
  · have h0 : n = 0 := by
      rcases Nat.eq_zero_or_pos n with h | h
      · exact h
      · obtain ⟨ad, h, _⟩ := hC.2.2 h
        cases h
    subst h0
    obtain rfl : xs = [] := List.eq_nil_of_length_eq_zero hC.1
    clear hC
    have hnil := fun (w : World) => Lib.run_eql_slice_nil w 35 5 none 0 c 0 0 Tryz.underlying35
    go_enter Tryz.func123, Tryz.ntmps123
    go_wp2
    go_ret
    exact ⟨_, rfl, Kd.R_nil _ _ _ _ _, Below.refl _ _⟩
  · clear hC
    have hnil := fun (w : World) => Lib.run_eql_slice_nil w 35 5 (some ad) n c 0 0 Tryz.underlying35
    have HE := Aside0.mk (R_empty w w.heap.size (fun k => w.heap.size ≤ k) (Nat.le_refl _) (Nat.le_refl _))
    have HB := Aside0.mk (((Below.refl w.heap.size w).alloc (Nat.le_refl _) (.cells #[] 5)))
    go_enter Tryz.func123, Tryz.ntmps123
    go_wp2_with (at_builtin; refine Kd.R_append_rows U8 (Rr := U8.K (w.alloc (.cells #[] 5))) (w0 := w) w.heap.size rfl (.tmp 5) (.tmp 6) 35 5 (.int .u8 0) 1 rfl Tryz.underlying35 info5 rfl (by decide) (by decide) (.slice (some ⟨w.heap.size, 0, none⟩) 0 0) [] xs (some ad) n c (fun k => w.heap.size ≤ k) (fun _ => False) rfl rfl HE.out ?aR (fun x cs h => h) (fun k hk => hk.elim) ?aF HB.out ?aS ?aL ?_; (case aR => exact Kd.C_below HC.out HB.out); (case aF => exact fun k hk => Nat.le_trans HB.out.size hk); (case aS => exact HB.out.size); (case aL => have := HN.out; unfold roomy at this; simp; exact this); intro v1 w1 ho hb1 hg hat)
    go_ret
    exact ⟨_, rfl, ho, hb1⟩
end Go.Proofs.YtpaiadidgokjlaaGreat

/-
  The contracts of a disk's calls that only ask: there, Strokes, Size, names, List, Read.
-/
namespace Go.Proofs.YtpaiadidgokjlaaGreat
open Go.RowKit Go.Maps Go.Proofs.YtpaiadidgokjlaaGreatW.PrintWords Go.Proofs.YtpaiadidgokjlaaGreatW.PrintLast Go.Proofs.YtpaiadidgokjlaaGreatW.PrintMore
open Go.Proofs.YtpaiadidgokjlaaGreat.PPagesModel
set_option linter.unusedVariables false

abbrev dptr (d : Nat) : Value := .pointer (some ⟨d, 0, none⟩)
def nm (s : ByteArray) : Name := s.data.toList

theorem DRep.c0 {w : World} {d : Nat} {M : DM} {ok : Nat → Prop} {bf bt : Nat} {blk : Name → Option Nat} {sv ev : Name → Value} {sz : Nat} (h : DRep w d M ok bf bt blk sv ev sz) : w.cell? ⟨d, 0, none⟩ = some (.map (some bf)) := h.cell 0
theorem DRep.c1 {w : World} {d : Nat} {M : DM} {ok : Nat → Prop} {bf bt : Nat} {blk : Name → Option Nat} {sv ev : Name → Value} {sz : Nat} (h : DRep w d M ok bf bt blk sv ev sz) : w.cell? ⟨d, 1, none⟩ = some (.map (some bt)) := h.cell 1
theorem DRep.c2 {w : World} {d : Nat} {M : DM} {ok : Nat → Prop} {bf bt : Nat} {blk : Name → Option Nat} {sv ev : Name → Value} {sz : Nat} (h : DRep w d M ok bf bt blk sv ev sz) : w.cell? ⟨d, 2, none⟩ = some (.int .i64 M.st) := h.cell 2
theorem DRep.c3 {w : World} {d : Nat} {M : DM} {ok : Nat → Prop} {bf bt : Nat} {blk : Name → Option Nat} {sv ev : Name → Value} {sz : Nat} (h : DRep w d M ok bf bt blk sv ev sz) : w.cell? ⟨d, 3, none⟩ = some (.bool M.off) := h.cell 3

theorem DRep.none_ {w : World} {d : Nat} {M : DM} {ok : Nat → Prop} {bf bt : Nat} {blk : Name → Option Nat} {sv ev : Name → Value} {sz : Nat} (h : DRep w d M ok bf bt blk sv ev sz) {x : Name} (hx : M.fs x = none) : blk x = none := by
  have := h.dom x
  rw [hx] at this
  simpa using this
theorem DRep.some_ {w : World} {d : Nat} {M : DM} {ok : Nat → Prop} {bf bt : Nat} {blk : Name → Option Nat} {sv ev : Name → Value} {sz : Nat} (h : DRep w d M ok bf bt blk sv ev sz) {x : Name} {f : Bytes × Bytes} (hx : M.fs x = some f) : ∃ g, blk x = some g := by
  have := h.dom x
  rw [hx] at this
  exact Option.isSome_iff_exists.1 this

theorem there_no {w : World} {d : Nat} {M : DM} {ok : Nat → Prop} (h : DiskAt w d M ok) {s : ByteArray} (hs : s.size ≤ maxLen) (hx : M.fs (nm s) = none) :
    Calls Tryz.prog 186 #[dptr d, .string s] w fun e w' => e = .returned (.int .i64 2) ∧ w = w' := by
  obtain ⟨bf, bt, blk, sv, ev, sz, h⟩ := h
  have h0 := h.c0
  have hl := h.look hs
  rw [show blk s.data.toList = none from h.none_ hx] at hl
  simp only [ptrV] at hl
  clear h hx hs
  go_enter Tryz.func186, Tryz.ntmps186
  go_wp2
  go_ret
  exact ⟨rfl, rfl⟩
theorem there_yes {w : World} {d : Nat} {M : DM} {ok : Nat → Prop} (h : DiskAt w d M ok) {s : ByteArray} (hs : s.size ≤ maxLen) {f : Bytes × Bytes} (hx : M.fs (nm s) = some f) :
    Calls Tryz.prog 186 #[dptr d, .string s] w fun e w' => e = .returned (.int .i64 0) ∧ w = w' := by
  obtain ⟨bf, bt, blk, sv, ev, sz, h⟩ := h
  have h0 := h.c0
  have hl := h.look hs
  obtain ⟨g, hg⟩ := h.some_ hx
  rw [show blk s.data.toList = some g from hg] at hl
  simp only [ptrV] at hl
  clear h hx hs hg
  go_enter Tryz.func186, Tryz.ntmps186
  go_wp2
  go_ret
  exact ⟨rfl, rfl⟩

/-! ### the names -/
def strL (x : Name) : ByteArray := ⟨x.toArray⟩
theorem names_any {w : World} {d : Nat} {M : DM} {ok : Nat → Prop} (h : DiskAt w d M ok) {L : List Name} (hL : L.Pairwise (· < ·)) (hm : ∀ x, x ∈ L ↔ (M.fs x).isSome = true) (h16 : L.length ≤ 16) :
    Calls Tryz.prog 230 #[dptr d] w fun e w' => ∃ v, e = .returned v ∧ Kd.string.R 9 w' w.heap.size (fun k => w.heap.size ≤ k) v (L.map strL) ∧ Below w.heap.size w w' := by
  obtain ⟨bf, bt, blk, sv, ev, sz, h⟩ := h
  have hN : IsNames blk L := ⟨hL, fun x => by rw [hm, h.dom]⟩
  have hsz := h.hf.size_names Tryz.underlying9 hN
  have hf := h.hf
  obtain ⟨n, D, ho, hz, hfD⟩ := hf
  have hsort := fun ss => h.hf.sorted Tryz.underlying9 hN ho (fun x => (hfD x).1) (ss := ss)
  have h0 := h.c0
  have K := callsIn_wide.1 (Tryz.maps_Keys_S (some bf) w)
  have S := callsIn_wide.1 (Tryz.slices_Sorted_S bf n D ptrE w ho (by rw [hz]; unfold maxLen; omega) (by rw [hz]; omega))
  have HS := Aside0.mk hsort
  have HB := Aside0.mk (((Below.refl w.heap.size w).alloc (Nat.le_refl _) (.cells #[.map (some bf)] 169)))
  have hsize : (w.alloc (.cells #[.map (some bf)] 169)).heap.size = w.heap.size + 1 := by simp
  have HZ := Aside0.mk hsize
  clear h hsort hL hm hN ho hz hfD hsz hsize
  go_enter Tryz.func230, Tryz.ntmps230
  go_wp2_with (first | (go_at_call 259; refine K.mono ?_; rintro e w' ⟨rfl, rfl⟩) | (go_at_call 258; refine S.mono ?_; rintro e w' ⟨v, ss, rfl, hS, hrow, hnil, hb⟩))
  go_ret
  rw [HS.out ss hS] at hrow
  have hlen : ss.length = (L.map strL).length := by rw [List.length_map, ← HS.out ss hS, List.length_mergeSort]
  rw [hlen, show L.map Go.Proofs.encStr = encs Value.string (L.map strL) from by simp [encs, strL, Go.Proofs.encStr]] at hrow
  refine ⟨v, rfl, Kd.R_of_own (own_weaken hrow (by rw [HZ.out]; omega)) (fun k hk => Nat.le_trans (by rw [HZ.out]; omega) (own_base hrow k hk)), HB.out.trans (hb.mono (by rw [HZ.out]; omega))⟩

/-! ### Size -/
theorem size_bad {w : World} {d : Nat} {s : ByteArray} (hs : s.size ≤ maxLen) (hg : ¬ GoodN s) :
    Calls Tryz.prog 194 #[dptr d, .string s] w fun e w' => e = .returned (.tuple #[.int .i64 0, .int .i64 1]) ∧ ∃ n, w' = w.drewN n := by
  have hG := fun W => good_no (by unfold maxLen at hs; exact hs) hg W
  have HG := Aside0.mk hG
  clear hG hs hg
  go_enter Tryz.func194, Tryz.ntmps194
  go_wp2_with (go_at_call 122; refine (HG.out _).mono ?_; rintro e w' ⟨rfl, n, rfl⟩)
  all_goals (go_ret2; exact ⟨rfl, _, rfl⟩)
theorem size_off {w : World} {d : Nat} {M : DM} {ok : Nat → Prop} (h : DiskAt w d M ok) {s : ByteArray} (hg : GoodN s) (ho : M.off = true) :
    Calls Tryz.prog 194 #[dptr d, .string s] w fun e w' => e = .returned (.tuple #[.int .i64 0, .int .i64 9]) ∧ ∃ n, w' = w.drewN n := by
  obtain ⟨bf, bt, blk, sv, ev, sz, h⟩ := h
  have h3 := h.c3
  rw [ho] at h3
  have HG := Aside0.mk (fun W => good_yes hg W)
  clear h hg ho
  go_enter Tryz.func194, Tryz.ntmps194
  go_wp2_with (go_at_call 122; refine (HG.out _).mono ?_; rintro e w' ⟨rfl, n, rfl⟩)
  all_goals (go_ret2; exact ⟨rfl, _, rfl⟩)
theorem size_none {w : World} {d : Nat} {M : DM} {ok : Nat → Prop} (h : DiskAt w d M ok) {s : ByteArray} (hg : GoodN s) (ho : M.off = false) (hx : M.fs (nm s) = none) :
    Calls Tryz.prog 194 #[dptr d, .string s] w fun e w' => e = .returned (.tuple #[.int .i64 0, .int .i64 2]) ∧ ∃ n, w' = w.drewN n := by
  obtain ⟨bf, bt, blk, sv, ev, sz, h⟩ := h
  have h3 := h.c3
  have h0 := h.c0
  rw [ho] at h3
  have hl := fun n => (h.move (w' := w.drewN n) (fun _ _ _ => rfl)).look (s := s) (by have := hg.2.2; unfold maxLen; omega)
  rw [show blk s.data.toList = none from h.none_ hx] at hl
  simp only [ptrV] at hl
  have HG := Aside0.mk (fun W => good_yes hg W)
  clear h hg ho hx
  go_enter Tryz.func194, Tryz.ntmps194
  go_wp2_with (go_at_call 122; refine (HG.out _).mono ?_; rintro e w' ⟨rfl, n, rfl⟩)
  all_goals (go_ret2; exact ⟨rfl, _, rfl⟩)
theorem size_some {w : World} {d : Nat} {M : DM} {ok : Nat → Prop} (h : DiskAt w d M ok) {s : ByteArray} (hg : GoodN s) (ho : M.off = false) {f : Bytes × Bytes} (hx : M.fs (nm s) = some f) :
    Calls Tryz.prog 194 #[dptr d, .string s] w fun e w' => e = .returned (.tuple #[.int .i64 f.2.length, .int .i64 0]) ∧ ∃ n, w' = w.drewN n := by
  obtain ⟨bf, bt, blk, sv, ev, sz, h⟩ := h
  have h3 := h.c3
  have h0 := h.c0
  rw [ho] at h3
  obtain ⟨g, hb⟩ := h.some_ hx
  have hl := fun n => (h.move (w' := w.drewN n) (fun _ _ _ => rfl)).look (s := s) (by have := hg.2.2; unfold maxLen; omega)
  rw [show blk s.data.toList = some g from hb] at hl
  simp only [ptrV] at hl
  obtain ⟨hcells, _, hR⟩ := h.file _ _ _ hb hx
  have hc1 := cell_of_row w g 1 _ 179 (0, 0) hcells
  obtain ⟨A, c, hv, _, _⟩ := hR.reads
  rw [hv] at hc1
  have HG := Aside0.mk (fun W => good_yes hg W)
  replace hc1 : w.cell? ⟨g, 1, none⟩ = some (.slice A f.2.length c) := hc1
  clear h hg ho hx hcells hR hv hb
  generalize f.2.length = len at *
  go_enter Tryz.func194, Tryz.ntmps194
  go_wp2_with (go_at_call 122; refine (HG.out _).mono ?_; rintro e w' ⟨rfl, n, rfl⟩)
  all_goals (go_ret2; exact ⟨rfl, _, rfl⟩)

/-! ### List -/
theorem list_off {w : World} {d : Nat} {M : DM} {ok : Nat → Prop} (h : DiskAt w d M ok) (ho : M.off = true) :
    Calls Tryz.prog 190 #[dptr d] w fun e w' => e = .returned (.tuple #[.slice none 0 0, .int .i64 9]) ∧ w = w' := by
  obtain ⟨bf, bt, blk, sv, ev, sz, h⟩ := h
  have h3 := h.c3
  rw [ho] at h3
  clear h ho
  go_enter Tryz.func190, Tryz.ntmps190
  go_wp2_with fail
  go_ret2
  exact ⟨rfl, rfl⟩
theorem list_on {w : World} {d : Nat} {M : DM} {ok : Nat → Prop} (h : DiskAt w d M ok) (ho : M.off = false) {L : List Name} (hL : L.Pairwise (· < ·)) (hm : ∀ x, x ∈ L ↔ (M.fs x).isSome = true) (h16 : L.length ≤ 16) :
    Calls Tryz.prog 190 #[dptr d] w fun e w' => ∃ v, e = .returned (.tuple #[v, .int .i64 0]) ∧ Kd.string.R 9 w' w.heap.size (fun k => w.heap.size ≤ k) v (L.map strL) ∧ Below w.heap.size w w' := by
  have HN := Aside0.mk (names_any h hL hm h16)
  obtain ⟨bf, bt, blk, sv, ev, sz, h⟩ := h
  have h3 := h.c3
  rw [ho] at h3
  clear h ho hL hm h16
  go_enter Tryz.func190, Tryz.ntmps190
  go_wp2_with (go_at_call 230; refine HN.out.mono ?_; rintro e w' ⟨v, rfl, hR, hb⟩)
  obtain ⟨A, c, hv⟩ := Kd.R_slice hR
  go_ret2
  exact ⟨v, rfl, hR, hb⟩
end Go.Proofs.YtpaiadidgokjlaaGreat

/-
  The contract of a disk's Read.
-/
namespace Go.Proofs.YtpaiadidgokjlaaGreat
open Go.RowKit Go.Maps Go.Proofs.YtpaiadidgokjlaaGreatW.PrintWords Go.Proofs.YtpaiadidgokjlaaGreatW.PrintLast Go.Proofs.YtpaiadidgokjlaaGreatW.PrintMore
open Go.Proofs.YtpaiadidgokjlaaGreat.PPagesModel
set_option linter.unusedVariables false

/-- a cut of a row of bytes that is read -/
theorem cutB {w : World} {A : Option Addr} {len c k : Nat} {l : Bytes} (hC : U8.C w A len l) (hc : len ≤ c) (hk : k ≤ len) (j : Int) (hj : j = k) :
    ∃ A' m c', (∀ W : World, (Instr.slice 35 (.slice A len c) (some (.int .i64 j)) none none).run Tryz.prog W = .ok (.slice A' m c') W) ∧ U8.C w A' m (l.drop k) ∧ m ≤ c' ∧ m = len - k := by
  obtain ⟨i5, hi, hz⟩ := Option.map_eq_some_iff.1 info5
  simp only [Prod.mk.injEq] at hz
  subst hj
  obtain rfl : l.length = len := hC.1
  have h1 := cut_from (P := Tryz.prog) 35 5 .i64 Tryz.underlying35 hi 1 hz.2.1 A l.length c (k : Int) (by omega) (by omega)
  rw [Int.toNat_natCast] at h1
  have h2 := Kd.C_drop hC hk hc
  rw [List.length_drop] at h2
  exact ⟨_, _, _, h1, h2, by omega, rfl⟩
theorem cutT {w : World} {A : Option Addr} {len c k : Nat} {l : Bytes} (hC : U8.C w A len l) (hc : len ≤ c) (hk : k ≤ len) (j : Int) (hj : j = k) :
    (∀ W : World, (Instr.slice 35 (.slice A len c) none (some (.int .i64 j)) none).run Tryz.prog W = .ok (.slice A k c) W) ∧ U8.C w A k (l.take k) := by
  obtain ⟨i5, hi, hz⟩ := Option.map_eq_some_iff.1 info5
  subst hj
  obtain rfl : l.length = len := hC.1
  have h1 := cut_to (P := Tryz.prog) 35 5 .i64 Tryz.underlying35 hi A l.length c (k : Int) (by omega) (by omega) hc
  rw [Int.toNat_natCast] at h1
  have h2 := Kd.C_take hC hk
  rw [List.length_take, Nat.min_eq_left hk] at h2
  exact ⟨h1, h2⟩

theorem C_drewN {w : World} {A : Option Addr} {n : Nat} {l : Bytes} (h : U8.C w A n l) (k : Nat) : U8.C (w.drewN k) A n l := Kd.C_below h (by
  have := (Below.refl w.heap.size w)
  exact ⟨rfl, rfl, rfl, Nat.le_refl _, fun _ _ => rfl⟩)

theorem below_undrawn {B : Nat} {w w' : World} {n : Nat} (h : Below B (w.drewN n) w') : Below B w w' := ⟨h.os, h.tape, h.output, h.size, h.block⟩

theorem read_bad {w : World} {d : Nat} {s : ByteArray} (hs : s.size ≤ maxLen) (a n : Int) (hg : ¬ (GoodN s ∧ 0 ≤ a ∧ a ≤ 4194304 ∧ 0 ≤ n ∧ n ≤ 4194304)) :
    Calls Tryz.prog 195 #[dptr d, .string s, .int .i64 a, .int .i64 n] w fun e w' => e = .returned (.tuple #[.slice none 0 0, .int .i64 1]) ∧ ∃ n, w' = w.drewN n := by
  by_cases h1 : GoodN s
  · have HG := Aside0.mk (fun W => good_yes h1 W)
    clear hs
    by_cases h2 : a < 0
    · clear hg h1
      go_enter Tryz.func195, Tryz.ntmps195
      go_wp2_with (go_at_call 122; refine (HG.out _).mono ?_; rintro e w' ⟨rfl, n, rfl⟩)
      all_goals (go_ret2; exact ⟨rfl, _, rfl⟩)
    · by_cases h3 : 4194304 < a
      · clear hg h1
        go_enter Tryz.func195, Tryz.ntmps195
        go_wp2_with (go_at_call 122; refine (HG.out _).mono ?_; rintro e w' ⟨rfl, n, rfl⟩)
        all_goals (go_ret2; exact ⟨rfl, _, rfl⟩)
      · by_cases h4 : n < 0
        · clear hg h1
          go_enter Tryz.func195, Tryz.ntmps195
          go_wp2_with (go_at_call 122; refine (HG.out _).mono ?_; rintro e w' ⟨rfl, n, rfl⟩)
          all_goals (go_ret2; exact ⟨rfl, _, rfl⟩)
        · have h5 : 4194304 < n := by
            rcases Int.lt_or_le 4194304 n with h | h
            · exact h
            · exact absurd ⟨h1, by omega, by omega, by omega, h⟩ hg
          clear hg h1
          go_enter Tryz.func195, Tryz.ntmps195
          go_wp2_with (go_at_call 122; refine (HG.out _).mono ?_; rintro e w' ⟨rfl, n, rfl⟩)
          all_goals (go_ret2; exact ⟨rfl, _, rfl⟩)
  · have HG := Aside0.mk (fun W => good_no (by unfold maxLen at hs; exact hs) h1 W)
    clear hs hg h1
    go_enter Tryz.func195, Tryz.ntmps195
    go_wp2_with (go_at_call 122; refine (HG.out _).mono ?_; rintro e w' ⟨rfl, n, rfl⟩)
    all_goals (go_ret2; exact ⟨rfl, _, rfl⟩)

theorem read_off {w : World} {d : Nat} {M : DM} {ok : Nat → Prop} (h : DiskAt w d M ok) {s : ByteArray} (hg : GoodN s) (a n : Int) (a0 : 0 ≤ a) (a1 : a ≤ 4194304) (n0 : 0 ≤ n) (n1 : n ≤ 4194304) (ho : M.off = true) :
    Calls Tryz.prog 195 #[dptr d, .string s, .int .i64 a, .int .i64 n] w fun e w' => e = .returned (.tuple #[.slice none 0 0, .int .i64 9]) ∧ ∃ n, w' = w.drewN n := by
  obtain ⟨bf, bt, blk, sv, ev, sz, h⟩ := h
  have h3 := h.c3
  rw [ho] at h3
  have HG := Aside0.mk (fun W => good_yes hg W)
  clear h hg ho
  go_enter Tryz.func195, Tryz.ntmps195
  go_wp2_with (go_at_call 122; refine (HG.out _).mono ?_; rintro e w' ⟨rfl, n, rfl⟩)
  all_goals (go_ret2; exact ⟨rfl, _, rfl⟩)

theorem read_none {w : World} {d : Nat} {M : DM} {ok : Nat → Prop} (h : DiskAt w d M ok) {s : ByteArray} (hg : GoodN s) (a n : Int) (a0 : 0 ≤ a) (a1 : a ≤ 4194304) (n0 : 0 ≤ n) (n1 : n ≤ 4194304) (ho : M.off = false) (hx : M.fs (nm s) = none) :
    Calls Tryz.prog 195 #[dptr d, .string s, .int .i64 a, .int .i64 n] w fun e w' => e = .returned (.tuple #[.slice none 0 0, .int .i64 2]) ∧ ∃ n, w' = w.drewN n := by
  obtain ⟨bf, bt, blk, sv, ev, sz, h⟩ := h
  have h3 := h.c3
  have h0 := h.c0
  rw [ho] at h3
  have hl := fun n => (h.move (w' := w.drewN n) (fun _ _ _ => rfl)).look (s := s) (by have := hg.2.2; unfold maxLen; omega)
  rw [show blk s.data.toList = none from h.none_ hx] at hl
  simp only [ptrV] at hl
  have HG := Aside0.mk (fun W => good_yes hg W)
  clear h hg ho hx
  go_enter Tryz.func195, Tryz.ntmps195
  go_wp2_with (go_at_call 122; refine (HG.out _).mono ?_; rintro e w' ⟨rfl, n, rfl⟩)
  all_goals (go_ret2; exact ⟨rfl, _, rfl⟩)

/-- the walk alone: what the cuts come to is told -/
theorem read_walk {w : World} {d bf g : Nat} {s : ByteArray} {A A' : Option Addr} {len c m c' q : Nat} {xs : Bytes} (a n : Nat) (a1 : a ≤ 4194304) (n1 : n ≤ 4194304)
    (h0 : w.cell? ⟨d, 0, none⟩ = some (.map (some bf))) (h3 : w.cell? ⟨d, 3, none⟩ = some (.bool false)) (hg : GoodN s)
    (hl : ∀ nd, (Instr.lookup 169 (.map (some bf)) (.string s) false).run Tryz.prog (w.drewN nd) = .ok (.pointer (some ⟨g, 0, none⟩)) (w.drewN nd))
    (hc1 : w.cell? ⟨g, 1, none⟩ = some (.slice A len c))
    (hrun : ∀ W : World, (Instr.slice 35 (.slice A len c) (some (.int .i64 (min (a : Int) len))) none none).run Tryz.prog W = .ok (.slice A' m c') W)
    (hrun2 : ∀ W : World, (Instr.slice 35 (.slice A' m c') none (some (.int .i64 (min (n : Int) m))) none).run Tryz.prog W = .ok (.slice A' q c') W)
    (hC2 : U8.C w A' q xs) (hq : q ≤ roomy) :
    Calls Tryz.prog 195 #[dptr d, .string s, .int .i64 a, .int .i64 n] w fun e w' => ∃ v, e = .returned (.tuple #[v, .int .i64 0]) ∧ U8.R 5 w' w.heap.size (fun k => w.heap.size ≤ k) v xs ∧ Below w.heap.size w w' := by
  have HG := Aside0.mk (fun W => good_yes hg W)
  have HCl := Aside0.mk (fun nd => clone_any A' q c' xs (w.drewN nd) hq (C_drewN hC2 nd))
  clear hg hC2 hq
  go_enter Tryz.func195, Tryz.ntmps195
  go_wp2_with (go_at_call 122; refine (HG.out _).mono ?_; rintro e w' ⟨rfl, nd, rfl⟩)
  refine (HCl.out nd).mono ?_
  rintro e w' ⟨v, rfl, hv, hvb⟩
  obtain ⟨A3, c3, rfl⟩ := Kd.R_slice hv
  have HV := Aside0.mk hv
  have HVB := Aside0.mk hvb
  clear hv hvb
  go_wp2
  go_ret2
  exact ⟨_, rfl, HV.out, below_undrawn HVB.out⟩

theorem read_some {w : World} {d : Nat} {M : DM} {ok : Nat → Prop} (h : DiskAt w d M ok) {s : ByteArray} (hg : GoodN s) (a n : Nat) (a1 : a ≤ 4194304) (n1 : n ≤ 4194304) (ho : M.off = false) {f : Bytes × Bytes} (hx : M.fs (nm s) = some f) (hlen : f.2.length ≤ 4194304) :
    Calls Tryz.prog 195 #[dptr d, .string s, .int .i64 a, .int .i64 n] w fun e w' => ∃ v, e = .returned (.tuple #[v, .int .i64 0]) ∧ U8.R 5 w' w.heap.size (fun k => w.heap.size ≤ k) v ((f.2.drop a).take n) ∧ Below w.heap.size w w' := by
  obtain ⟨bf, bt, blk, sv, ev, sz, h⟩ := h
  have h3 := h.c3
  have h0 := h.c0
  rw [ho] at h3
  obtain ⟨g, hb⟩ := h.some_ hx
  have hl := fun n => (h.move (w' := w.drewN n) (fun _ _ _ => rfl)).look (s := s) (by have := hg.2.2; unfold maxLen; omega)
  rw [show blk s.data.toList = some g from hb] at hl
  simp only [ptrV] at hl
  obtain ⟨hcells, _, hR⟩ := h.file _ _ _ hb hx
  have hc1 := cell_of_row w g 1 _ 179 (0, 0) hcells
  obtain ⟨A, c, hv, hle, hC⟩ := hR.reads
  rw [hv] at hc1
  obtain ⟨A', m, c', hrun, hC', hm', hm⟩ := cutB hC hle (k := min a f.2.length) (Nat.min_le_right _ _) (min (a : Int) f.2.length) (by omega)
  obtain ⟨hrun2, hC2⟩ := cutT hC' hm' (k := min n m) (Nat.min_le_right _ _) (min (n : Int) m) (by omega)
  have e1 : f.2.drop (min a f.2.length) = f.2.drop a := by
    rcases Nat.le_total a f.2.length with h | h
    · rw [Nat.min_eq_left h]
    · rw [Nat.min_eq_right h, List.drop_of_length_le (Nat.le_refl _), List.drop_of_length_le h]
  have e2 : (f.2.drop a).take (min n m) = (f.2.drop a).take n := by
    rcases Nat.le_total n m with h | h
    · rw [Nat.min_eq_left h]
    · have hl : (f.2.drop a).length = m := by rw [← e1, List.length_drop, hm]
      rw [Nat.min_eq_right h, List.take_of_length_le (by omega), List.take_of_length_le (by omega)]
  rw [e1, e2] at hC2
  exact read_walk a n a1 n1 h0 h3 hg hl hc1 hrun hrun2 hC2 (by unfold roomy; omega)
end Go.Proofs.YtpaiadidgokjlaaGreat

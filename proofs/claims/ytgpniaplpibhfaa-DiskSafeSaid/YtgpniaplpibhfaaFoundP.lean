/-
  A crash's picks: the closure that tells the next one; the rest and the quotient.
-/
import Derived.Test.YtgpniaplpibhfaaNew
import Derived.ScopeJumps
import Derived.WalkMore
namespace Go.Proofs.Ytgpniaplpibhfaa
open Go.RowKit Go.Maps Go.Proofs.YtgpniaplpibhfaaW.PrintWords Go.Proofs.YtgpniaplpibhfaaW.PrintLast Go.Proofs.YtgpniaplpibhfaaW.PrintMore
open Go.Proofs.Ytgpniaplpibhfaa.PDiskSafe
set_option linter.unusedVariables false
set_option linter.unusedSimpArgs false

abbrev I64 := Kd.int .i64
theorem info3 : (Try.prog.info? 3).map (fun i => (i.zero, i.size, i.bytes)) = some (some (.int .i64 0), 1, 8) := by kernel_rfl

def nextP : List Int → Int × List Int
  | [] => (0, [])
  | p :: r => (p, r)
def modR (p n : Int) : Int := ((disk_modulo.f p n).getD (0, 0)).1
def modT (p n : Int) : Int := ((disk_modulo.f p n).getD (0, 0)).2

theorem mod_some {p n : Int} (hn : n ≠ 0) : disk_modulo.f p n = some (modR p n, modT p n) := by
  unfold modR modT disk_modulo.f
  rw [if_neg hn]
  split <;> rfl
theorem tmod_bounds (p n : Int) (h0 : 0 < n) : -n < Int.tmod p n ∧ Int.tmod p n < n := by
  have h1 := Int.natAbs_tmod p n
  have h2 : Nat.mod p.natAbs n.natAbs < n.natAbs := Nat.mod_lt _ (by omega)
  have h3 : (Int.tmod p n).natAbs < n.natAbs := by rw [h1]; exact h2
  omega
theorem modR_range {p n : Int} (h0 : 0 < n) (h1 : n ≤ 1000) : 0 ≤ modR p n ∧ modR p n < n := by
  have hb := tmod_bounds p n h0
  have hw : wrap64 (Int.tmod p n + n) = Int.tmod p n + n := by unfold wrap64; omega
  have hr : modR p n = Int.tmod (Int.tmod p n + n) n := by
    unfold modR disk_modulo.f
    rw [if_neg (by omega), hw]
    split <;> rfl
  rw [hr]
  have h2 := tmod_bounds (Int.tmod p n + n) n h0
  have h3 : 0 ≤ Int.tmod (Int.tmod p n + n) n := Int.tmod_nonneg _ (by omega)
  omega
theorem mod_any {p n : Int} (hn : n ≠ 0) (w : World) :
    Calls Try.prog 44 #[.int .i64 p, .int .i64 n] w fun e w' => e = .returned (.tuple #[.int .i64 (modR p n), .int .i64 (modT p n)]) ∧ ∃ k, w' = w.drewN k :=
  (disk_modulo.calls p n _ _ w (mod_some hn)).mono fun e w' ⟨he, hw⟩ => ⟨he, hw.out⟩

/-- the box of the picks -/
def PBox (B : Nat) (w : World) (bp : Nat) (l : List Int) : Prop := bp < B ∧ B ≤ w.heap.size ∧ ∃ A c, w.heap[bp]? = some (.cells #[.slice A l.length c] 31 (0, 0)) ∧ I64.C w A l.length l ∧ l.length ≤ c ∧ ∀ ad, 0 < l.length → A = some ad → ad.block ≠ bp ∧ ad.block < B
theorem C_keep {w w' : World} {A : Option Addr} {n : Nat} {l : List Int} (hC : I64.C w A n l) (hm : ∀ ad, 0 < n → A = some ad → w'.heap[ad.block]? = w.heap[ad.block]?) : I64.C w' A n l := by
  refine ⟨hC.1, hC.2.1, fun hn => ?_⟩
  obtain ⟨ad, rfl, hc⟩ := hC.2.2 hn
  refine ⟨ad, rfl, fun j p hj => ?_⟩
  obtain ⟨c, hl, hK, hcell⟩ := hc j p hj
  refine ⟨c, hl, hK, fun i u hu => ?_⟩
  have hb : (ad.add (j * I64.sz + i)).block = ad.block := by unfold Addr.add; split <;> rfl
  refine (World.cell?_of_block ?_).trans (hcell i u hu)
  rw [hb]
  exact hm ad hn rfl
theorem PBox.keep {B : Nat} {w w' : World} {bp : Nat} {l : List Int} (h : PBox B w bp l) (hm : ∀ k, k < B → w'.heap[k]? = w.heap[k]?) (hs : w.heap.size ≤ w'.heap.size) : PBox B w' bp l := by
  obtain ⟨hb, hB, A, c, h1, h2, h3, h4⟩ := h
  exact ⟨hb, by omega, A, c, (hm bp hb).trans h1, C_keep h2 (fun ad hn e => hm _ (h4 ad hn e).2), h3, h4⟩

theorem next_any {B : Nat} {w : World} {bp : Nat} {l : List Int} (h : PBox B w bp l) :
    Calls Try.prog 28 #[bptr bp] w fun e w' => e = .returned (.int .i64 (nextP l).1) ∧ PBox B w' bp (nextP l).2 ∧ Fr (fun k => k = bp) w w' := by
  have HP := Aside0.mk h
  obtain ⟨hbB, hBw, A, c, h1, h2, h3, h4⟩ := h
  have cb : w.cell? ⟨bp, 0, none⟩ = some (.slice A l.length c) := cell_of_row w bp 0 _ 31 (0, 0) h1
  have fb : w.frozen? ⟨bp, 0, none⟩ = false := frozen_of_cells h1 0
  cases l with
  | nil =>
    clear h1 h2 h3 h4 hbB hBw
    go_enter Try.func28, Try.ntmps28
    go_wp2
    go_ret
    exact ⟨rfl, HP.out, Fr.refl _ _⟩
  | cons p r =>
    obtain ⟨i3, hi, hz⟩ := Option.map_eq_some_iff.1 info3
    simp only [Prod.mk.injEq] at hz
    have hcut := cut_from (P := Try.prog) 31 3 .i64 Try.underlying31 hi 1 hz.2.1 A (p :: r).length c (1 : Int) (by omega) (by simp; omega)
    have hdr := Kd.C_drop h2 (show 1 ≤ (p :: r).length by simp) h3
    obtain ⟨ad, rfl, hcell⟩ := h2.2.2 (by simp)
    obtain ⟨cc, hl, hK, hc0⟩ := hcell 0 p rfl
    have hcc : cc = [Value.int .i64 p] := hK
    subst hcc
    have hp0 := hc0 0 _ rfl
    have e0 : ad.add (0 * I64.sz + 0) = ad := by simp [Addr.add]
    rw [e0] at hp0
    obtain ⟨A2, hA2⟩ : ∃ A2, A2 = (if c = 1 then some ad else Option.map (fun x => x.add (1 * 1)) (some ad)) := ⟨_, rfl⟩
    obtain ⟨c2, hc2⟩ : ∃ c2, c2 = c - 1 := ⟨_, rfl⟩
    have hcut2 : ∀ W : World, (Instr.slice 31 (.slice (some ad) (p :: r).length c) (some (.int .i64 1)) none none).run Try.prog W = .ok (.slice A2 r.length c2) W := by
      intro W
      rw [hcut W, hA2, hc2]
      rfl
    have hdr2 : I64.C w A2 r.length r := by rw [hA2]; exact hdr
    have hat2 : ∀ ad', A2 = some ad' → ad'.block = ad.block := by
      intro ad' e
      rw [hA2] at e
      split at e
      · exact (congrArg Addr.block (Option.some.inj e)).symm
      · have := Option.some.inj e
        rw [← this]
        unfold Addr.add; split <;> rfl
    have HR := Aside0.mk (And.intro h1 (And.intro h3 (And.intro h4 (And.intro hdr2 (And.intro hat2 (And.intro hc2 (And.intro hbB hBw)))))))
    have hlen0 : 0 < (p :: r).length := by simp
    have e1 : ad.add 0 = ad := by simp [Addr.add]
    clear h1 h2 h3 h4 hdr hcell hc0 hi hz hl hK hcut hA2 hc2 hdr2 hat2 e0 hbB hBw
    have hL := Aside0.mk (show (p :: r).length = r.length + 1 from rfl)
    generalize (p :: r).length = L at *
    generalize hrl : r.length = R at *
    have HRL := Aside0.mk hrl
    clear hrl
    go_enter Try.func28, Try.ntmps28
    go_wp2
    go_region
    go_wp2
    go_ret
    obtain ⟨h1, h3, h4, hdr2, hat2, hc2, hbB, hBw⟩ := HR.out
    have hb := h4 ad (by have := hL.out; omega) rfl
    refine ⟨rfl, ⟨hbB, by show B ≤ (w.setCell ⟨bp, 0, none⟩ _).heap.size; simpa [World.setCell] using hBw, A2, c2, ?_, ?_, ?_, ?_⟩, ?_⟩
    · show (w.setCell ⟨bp, 0, none⟩ _).heap[bp]? = _
      rw [show (nextP (p :: r)).2.length = R from HRL.out]
      simp [World.setCell, Array.getElem?_modify, h1]
    · rw [show (nextP (p :: r)).2 = r from rfl, HRL.out]
      exact C_keep hdr2 (fun ad' _ e => by
        refine Below.heap_setCell _ _ _ _ ?_
        rw [hat2 ad' e]; exact hb.1)
    · rw [show (nextP (p :: r)).2 = r from rfl, HRL.out]
      have := hL.out; omega
    · intro ad' _ e
      rw [hat2 ad' e]
      exact hb
    · exact ((Fr.refl (fun k => k = bp) w).drew).set_ (p := ⟨bp, 0, none⟩) (.inl rfl) _
end Go.Proofs.Ytgpniaplpibhfaa

/-
  What a crash finds of a file, as a plain function; the laws of copy and Equal that it goes by.
-/
namespace Go.Proofs.Ytgpniaplpibhfaa
open Go.RowKit Go.Maps Go.Proofs.YtgpniaplpibhfaaW.PrintWords Go.Proofs.YtgpniaplpibhfaaW.PrintLast Go.Proofs.YtgpniaplpibhfaaW.PrintMore
open Go.Proofs.Ytgpniaplpibhfaa.PDiskSafe
set_option linter.unusedVariables false
set_option linter.unusedSimpArgs false

def lenF (f : Bytes × Bytes) (ps : List Int) : Nat × List Int :=
  if f.2.length = f.1.length then (f.1.length, ps)
  else (if modR (nextP ps).1 2 = 1 then f.2.length else f.1.length, (nextP ps).2)
/-- how many bytes of a sector are the seen ones -/
def secN (p : Int) : Nat := if modR p 3 = 1 then 64 else if modR p 3 = 2 then (modR (modT p 3) 65).toNat else 0
def sector (seen cur : Bytes) (k stop : Nat) (ps : List Int) : Bytes × List Int :=
  if (cur.drop k).take (stop - k) = (seen.drop k).take (stop - k) then (cur, ps)
  else (splice cur k ((seen.drop k).take (min (k + secN (nextP ps).1) stop - k)), (nextP ps).2)
def secs (seen : Bytes) (e k : Nat) (cur : Bytes) (ps : List Int) : Bytes × List Int :=
  if k < e then secs seen e (k + 64) (sector seen cur k (min (k + 64) e) ps).1 (sector seen cur k (min (k + 64) e) ps).2 else (cur, ps)
termination_by e - k
def foundF (f : Bytes × Bytes) (ps : List Int) : Bytes × List Int :=
  let e := max f.1.length f.2.length
  let r := secs (padTo f.2 e) e 0 (padTo f.1 e) (lenF f ps).2
  (r.1.take (lenF f ps).1, r.2)

theorem secN_le (p : Int) : secN p ≤ 64 := by
  unfold secN
  split
  · omega
  · split
    · have := modR_range (p := modT p 3) (n := 65) (by omega) (by omega); omega
    · omega

theorem equal_l0 (x y : Bytes) (hl : x.length = y.length) (hb : x.length ≤ 9223372036854775806) (d : Nat) : ∀ (k : Nat) (i : Nat), x.length - i = d → i ≤ x.length → d < k →
    slices_Equal_byte_byte.l0 k x y x.length i = some (decide (x.drop i = y.drop i)) := by
  induction d with
  | zero =>
    intro k i hd hi hk
    obtain ⟨k, rfl⟩ : ∃ j, k = j + 1 := ⟨k - 1, by omega⟩
    unfold slices_Equal_byte_byte.l0
    rw [if_neg (by omega), List.drop_eq_nil_of_le (by omega), List.drop_eq_nil_of_le (by omega)]
    simp
  | succ d ih =>
    intro k i hd hi hk
    obtain ⟨k, rfl⟩ : ∃ j, k = j + 1 := ⟨k - 1, by omega⟩
    unfold slices_Equal_byte_byte.l0
    have hx : i < x.length := by omega
    have hy : i < y.length := by omega
    rw [if_pos (by omega), if_pos (by omega), if_pos (by omega), if_pos (by omega)]
    have hw : wrap64 ((i : Int) + 1) = ((i + 1 : Nat) : Int) := by unfold wrap64; omega
    rw [hw, ih k (i + 1) (by omega) (by omega) (by omega)]
    have e1 : rd x (i : Int) = x[i] := by unfold rd; rw [Int.toNat_natCast, List.getD_eq_getElem?_getD, List.getElem?_eq_getElem hx]; rfl
    have e2 : rd y (i : Int) = y[i] := by unfold rd; rw [Int.toNat_natCast, List.getD_eq_getElem?_getD, List.getElem?_eq_getElem hy]; rfl
    have d1 := List.drop_eq_getElem_cons hx
    have d2 := List.drop_eq_getElem_cons hy
    rw [e1, e2]
    by_cases e : x[i] = y[i]
    · rw [if_pos e]
      congr 1
      rw [decide_eq_decide, d1, d2, e]
      exact ⟨fun h => by rw [h], fun h => by injection h⟩
    · rw [if_neg e]
      congr 1
      symm
      rw [decide_eq_false_iff_not, d1, d2]
      intro h
      injection h with h1 _
      exact e h1

theorem equal_any {w : World} {A1 A2 : Option Addr} {n1 n2 c1 c2 : Nat} {x y : Bytes} (h1 : U8.C w A1 n1 x) (hc1 : n1 ≤ c1) (h2 : U8.C w A2 n2 y) (hc2 : n2 ≤ c2) (hl : n1 = n2) (hb : n1 ≤ 8388608) :
    Calls Try.prog 45 #[.slice A1 n1 c1, .slice A2 n2 c2] w fun e w' => e = .returned (.bool (decide (x = y))) ∧ ∃ k, w' = w.drewN k := by
  obtain rfl : x.length = n1 := h1.1
  obtain rfl : y.length = n2 := h2.1
  have hf : slices_Equal_byte_byte.f (x.length + 1) x y = some (decide (x = y)) := by
    unfold slices_Equal_byte_byte.f
    rw [if_pos (by rw [hl])]
    have := equal_l0 x y hl (by omega) x.length (x.length + 1) 0 (by omega) (by omega) (by omega)
    simpa using this
  exact (slices_Equal_byte_byte.calls (x.length + 1) A1 c1 x A2 c2 y _ w h1 hc1 h2 hc2 hf).mono fun e w' ⟨he, hw⟩ => ⟨he, hw.out⟩

/-- a row's cut from k to m -/
theorem run_cut_mid {w : World} {g c n : Nat} (k m : Nat) (h1 : k ≤ m) (h2 : m ≤ n) (hc : n ≤ c) (hk : k < c) (W : World) :
    (Instr.slice 30 (.slice (some ⟨g, 0, none⟩) n c) (some (.int .i64 k)) (some (.int .i64 m)) none).run Try.prog W = .ok (.slice (some ⟨g, k, none⟩) (m - k) (c - k)) W := by
  obtain ⟨i5, hi, hz⟩ := Option.map_eq_some_iff.1 info5
  simp only [Prod.mk.injEq] at hz
  have := cut_mid (P := Try.prog) 30 5 .i64 .i64 Try.underlying30 hi 1 hz.2.1 (some ⟨g, 0, none⟩) n c k m (by omega) (by omega) (by omega) hc W
  rw [this, Int.toNat_natCast, Int.toNat_natCast, if_neg (by omega)]
  have e : ((⟨g, 0, none⟩ : Addr).add (k * 1)) = ⟨g, k, none⟩ := by simp [Addr.add]; intro h; exact h.symm
  simp only [Option.map_some, e]
theorem run_cut_from {g c n : Nat} (k : Nat) (h1 : k ≤ n) (hc : n ≤ c) (hk : k < c) (W : World) :
    (Instr.slice 30 (.slice (some ⟨g, 0, none⟩) n c) (some (.int .i64 k)) none none).run Try.prog W = .ok (.slice (some ⟨g, k, none⟩) (n - k) (c - k)) W := by
  obtain ⟨i5, hi, hz⟩ := Option.map_eq_some_iff.1 info5
  simp only [Prod.mk.injEq] at hz
  have := cut_from (P := Try.prog) 30 5 .i64 Try.underlying30 hi 1 hz.2.1 (some ⟨g, 0, none⟩) n c k (by omega) (by omega) W
  rw [this, Int.toNat_natCast, if_neg (by omega)]
  have e : ((⟨g, 0, none⟩ : Addr).add (k * 1)) = ⟨g, k, none⟩ := by simp [Addr.add]; intro h; exact h.symm
  simp only [Option.map_some, e]

theorem RB.cell {w : World} {ok : Nat → Prop} {g c n : Nat} {l : Bytes} (h : RB w ok (.slice (some ⟨g, 0, none⟩) n c) l) {j : Nat} {x : Int} (hj : l[j]? = some x) : w.cell? ⟨g, j, none⟩ = some (.int .u8 x) := by
  rcases h.rep with ⟨h1, _⟩ | ⟨g', cap, cur, h1, hg, h2, h3, h4, _, ht⟩
  · cases h1
  · injection h1 with h1 _ _
    injection h1 with h1
    injection h1 with h1 _ _
    subst h1
    obtain ⟨hj1, _⟩ := List.getElem?_eq_some_iff.1 hj
    rw [cell_of_row w g j cur 5 (0, 0) hg]
    have h5 := congrArg (fun x => x[j]?) ht
    simp only [List.getElem?_take, hj1, if_true, List.getElem?_map, hj, Option.map_some] at h5
    rw [← h5]; simp

/-- copy(x[k:k+m], y[k:]) -/
theorem copyS {w : World} {ok : Nat → Prop} {g1 c1 g2 c2 E : Nat} {x y : Bytes} (hx : RB w ok (.slice (some ⟨g1, 0, none⟩) E c1) x) (hy : RB w ok (.slice (some ⟨g2, 0, none⟩) E c2) y) (hxl : x.length = E) (hyl : y.length = E) (k m : Nat) (hm : k + m ≤ E) :
    ∃ w1, (∀ nq ty, (Builtin.copy_ #[30, 30] ty #[.slice (some ⟨g1, k, none⟩) m (c1 - k), .slice (some ⟨g2, k, none⟩) (E - k) (c2 - k)]).run Try.prog (w.drewN nq) = .ok (.int .i64 m) (World.drewN w1 nq)) ∧
      RB w1 ok (.slice (some ⟨g1, 0, none⟩) E c1) (splice x k ((y.drop k).take m)) ∧ w.grownBy w1 (some g1) := by
  obtain ⟨i5, hi, hz⟩ := Option.map_eq_some_iff.1 info5
  simp only [Prod.mk.injEq] at hz
  have hbl : ((y.drop k).take m).length = m := by simp; omega
  have hsl : (splice x k ((y.drop k).take m)).length = E := by rw [length_splice _ _ _ (by omega)]; exact hxl
  rcases hx.rep with ⟨h1, _⟩ | ⟨g', cap, cur, h1, hg, h2, h3, h4, h5, ht⟩
  · cases h1
  · injection h1 with h1 _ h1c
    injection h1 with h1
    injection h1 with h1 _ _
    subst h1
    subst h1c
    have hcells : ∀ j v, (((y.drop k).take m).map (Value.int .u8))[j]? = some v → w.cell? ((⟨g2, k, none⟩ : Addr).add j) = some v := by
      intro j v hv
      rw [List.getElem?_map] at hv
      obtain ⟨p, hp, rfl⟩ := Option.map_eq_some_iff.1 hv
      have hj : j < m := by have := (List.getElem?_eq_some_iff.1 hp).1; omega
      rw [List.getElem?_take, if_pos hj, List.getElem?_drop] at hp
      have e : ((⟨g2, k, none⟩ : Addr).add j) = ⟨g2, k + j, none⟩ := by cases j <;> simp [Addr.add]
      rw [e]
      exact hy.cell hp
    have hrun := fun (nq : Nat) (ty : TypeId) => run_copy_row (P := Try.prog) (w.drewN nq) 30 30 ty 5 g1 k m (c1 - k) ⟨g2, k, none⟩ (E - k) (c2 - k) cur 5 (((y.drop k).take m).map (Value.int .u8)) Try.underlying30
      (by rw [hi]; simp [hz.2.1]) hg (by rw [List.length_map, hbl]; simp [Nat.min_def]; omega) hcells (by rw [List.length_map, hbl]; omega) (fun v hv => by obtain ⟨p, _, rfl⟩ := List.mem_map.1 hv; rfl)
    rw [List.length_map, hbl] at hrun
    refine ⟨w.setRow g1 (cur.toList.take k ++ ((y.drop k).take m).map (Value.int .u8) ++ cur.toList.drop (k + m)).toArray, fun nq ty => hrun nq ty, ⟨hx.1, .inr ⟨g1, c1, _, by rw [hsl], setRow_heap _ _ _ _ _ _ hg, by rw [hsl]; omega, h3, ?_, ?_, ?_⟩⟩, ?_⟩
    · simp; omega
    · rw [hsl]; simp; omega
    · rw [hsl]
      have := take_splice cur.toList x ((y.drop k).take m) k m hbl (by simp; omega) (by omega) ht
      rw [hxl] at this
      exact this
    · exact ⟨rfl, rfl, rfl, by simp [World.setRow], fun i _ hi => setRow_other _ _ _ _ (fun e => hi (by rw [e]))⟩

theorem RB.cutC {w : World} {ok : Nat → Prop} {g c n : Nat} {l : Bytes} (h : RB w ok (.slice (some ⟨g, 0, none⟩) n c) l) (hn : l.length = n) (hm : n ≤ 8388608) (k m : Nat) (hk : k + m ≤ n) : U8.C w (some ⟨g, k, none⟩) m ((l.drop k).take m) := by
  have hbl : ((l.drop k).take m).length = m := by simp; omega
  refine ⟨hbl, by omega, fun _ => ⟨⟨g, k, none⟩, rfl, fun j p hj => ⟨[Value.int .u8 p], rfl, rfl, fun i u hu => ?_⟩⟩⟩
  obtain ⟨rfl, rfl⟩ : i = 0 ∧ u = Value.int .u8 p := by
    cases i with
    | zero => simp at hu; exact ⟨rfl, hu.symm⟩
    | succ i => simp at hu
  have hj2 : j < m := by have := (List.getElem?_eq_some_iff.1 hj).1; omega
  rw [List.getElem?_take, if_pos hj2, List.getElem?_drop] at hj
  have e : ((⟨g, k, none⟩ : Addr).add (j * U8.sz + 0)) = ⟨g, k + j, none⟩ := by
    have : j * U8.sz + 0 = j := by simp [Kd.int, Kd.scalar]
    rw [this]; cases j <;> simp [Addr.add]
  rw [e]
  exact h.cell hj
theorem RB.some {w : World} {ok : Nat → Prop} {A : Option Addr} {n c : Nat} {l : Bytes} (h : RB w ok (.slice A n c) l) (hn : l.length = n) (h0 : 0 < n) : ∃ g, A = some ⟨g, 0, none⟩ ∧ n ≤ c := by
  rcases h.rep with ⟨h1, rfl⟩ | ⟨g, cap, cur, h1, _, h2, _⟩
  · simp at hn; omega
  · injection h1 with h1 _ h3
    exact ⟨g, h1, by omega⟩
theorem C_keep8 {w w' : World} {A : Option Addr} {n : Nat} {l : Bytes} (hC : U8.C w A n l) (hm : ∀ ad, A = some ad → ad.block < w.heap.size → w'.heap[ad.block]? = w.heap[ad.block]?) : U8.C w' A n l := by
  refine ⟨hC.1, hC.2.1, fun hn => ?_⟩
  obtain ⟨ad, rfl, hc⟩ := hC.2.2 hn
  refine ⟨ad, rfl, fun j p hj => ?_⟩
  obtain ⟨c, hl, hK, hcell⟩ := hc j p hj
  refine ⟨c, hl, hK, fun i u hu => ?_⟩
  have hb : (ad.add (j * U8.sz + i)).block = ad.block := by unfold Addr.add; split <;> rfl
  have h1 := hcell i u hu
  have h2 := World.block_lt_of_cell? _ _ h1
  rw [hb] at h2
  refine (World.cell?_of_block ?_).trans h1
  rw [hb]
  exact hm ad rfl h2
end Go.Proofs.Ytgpniaplpibhfaa

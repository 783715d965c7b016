/-
  Files and troubles as they come in, as plain functions; an empty disk; a new trouble.
-/
import Derived.Test.YtmdpgjdepflbmaaGreatCH
import Derived.Test.YtmdpgjdepflbmaaGreatCC
import Derived.ScopeJumps
import Derived.WalkMore
namespace Go.Proofs.YtmdpgjdepflbmaaGreat
open Go.RowKit Go.Maps Go.Proofs.YtmdpgjdepflbmaaGreatW.PrintWords Go.Proofs.YtmdpgjdepflbmaaGreatW.PrintLast Go.Proofs.YtmdpgjdepflbmaaGreatW.PrintMore
open Go.Proofs.YtmdpgjdepflbmaaGreat.PPagerFolds
set_option linter.unusedVariables false
set_option linter.unusedSimpArgs false

theorem less_nm (a b : ByteArray) : Op.bytesLess a.toList b.toList = decide (nm a < nm b) := by
  rw [bytesLess_eq, Lib.toList_data, Lib.toList_data]; rfl

/-- files that may come in -/
structure FilesOk (l : List S50) : Prop where
  few : l.length ≤ 16
  each : ∀ x ∈ l, GoodN x.f0 ∧ x.f1.length ≤ 4194304
  rise : l.Pairwise (fun x y => nm x.f0 < nm y.f0)
structure TroublesOk (t : List S39) : Prop where
  each : ∀ x ∈ t, 1 ≤ x.f0 ∧ 1 ≤ x.f1 ∧ x.f1 ≤ 3
  wf : ∀ x ∈ t, (Lit.int .i64 x.f0).wf = true

def fsOf (l : List S50) : Files := fun y => (l.find? (fun x => decide (nm x.f0 = y))).map (fun x => (x.f1, x.f1))
def trOf (t : List S39) : Int → Int := fun n => ((t.find? (fun x => decide (x.f0 = n))).map (fun x => x.f1)).getD 0
def newM (l : List S50) (t : List S39) : DM := { fs := fsOf l, tr := trOf t, st := 0, off := false }

theorem fsOf_none {l : List S50} {y : Name} (h : ∀ x ∈ l, nm x.f0 ≠ y) : fsOf l y = none := by
  unfold fsOf
  rw [List.find?_eq_none.2 (fun x hx => by simpa using h x hx)]; rfl
theorem fsOf_snoc {l : List S50} {x : S50} (h : ∀ z ∈ l, nm z.f0 ≠ nm x.f0) : fsOf (l ++ [x]) = setF (fsOf l) (nm x.f0) (some (x.f1, x.f1)) := by
  funext y
  unfold setF
  by_cases e : y = nm x.f0
  · subst e
    rw [if_pos rfl]
    unfold fsOf
    rw [List.find?_append, List.find?_eq_none.2 (fun z hz => by simpa using h z hz)]
    simp
  · rw [if_neg e]
    unfold fsOf
    rw [List.find?_append]
    have : List.find? (fun z => decide (nm z.f0 = y)) [x] = none := by simp; exact fun h => e h.symm
    rw [this]; simp
theorem fsOf_isL {l : List S50} (h : l.Pairwise (fun x y => nm x.f0 < nm y.f0)) : IsL (fsOf l) (l.map (fun x => nm x.f0)) := by
  refine ⟨List.pairwise_map.2 h, fun y => ?_⟩
  unfold fsOf
  rw [Option.isSome_map, List.find?_isSome, List.mem_map]
  simp
theorem trOf_snoc {l : List S39} {x : S39} (hl : ∀ z ∈ l, z.f1 ≠ 0) : trOf (l ++ [x]) = fun n => if n = x.f0 then (if trOf l n = 0 then x.f1 else trOf l n) else trOf l n := by
  funext n
  unfold trOf
  rw [List.find?_append]
  cases hf : List.find? (fun z => decide (z.f0 = n)) l with
  | some z =>
    have hz := hl z (List.mem_of_find?_eq_some hf)
    simp [hz]
  | none =>
    by_cases e : n = x.f0
    · subst e; simp
    · have : ¬ x.f0 = n := fun h => e h.symm
      simp [e, this]

/-- an empty disk -/
theorem DRep.empty (w : World) : DRep (((w.alloc (.map #[] 0)).alloc (.map #[] 0)).alloc (.cells #[.map (some w.heap.size), .map (some (w.heap.size + 1)), .int .i64 0, .bool false] 100)) (w.heap.size + 2) { fs := fun _ => none, tr := fun _ => 0, st := 0, off := false } (fun k => w.heap.size ≤ k) w.heap.size (w.heap.size + 1) (fun _ => none) (fun _ => .slice none 0 0) (fun _ => .slice none 0 0) 0 where
  hd := by show (((w.heap.push _).push _).push _)[_]? = _; exact fresh _ _ (by simp only [Array.size_push])
  hf := ((PMap.made Tryz.prog 9 w).move (w' := (w.alloc (.map #[] 0)).alloc (.map #[] 0)) (Below.heap_alloc _ _ _ (by simp))).move (Below.heap_alloc _ _ _ (by simp; omega))
  ht := by
    have := NMap.made Tryz.prog 3 3 (w.alloc (.map #[] 0))
    rw [show (w.alloc (.map #[] 0)).heap.size = w.heap.size + 1 from by simp] at this
    exact this.move (Below.heap_alloc _ _ _ (by simp))
  dom := fun _ => rfl
  file := fun _ _ _ h => by cases h
  inj := fun _ _ _ h => by cases h
  apart := fun _ _ _ _ _ h => by cases h
  ne := by omega
  okd := by omega
  okf := Nat.le_refl _
  okt := by omega
  okb := fun _ _ h => by cases h

section
variable {w w1 : World} {d : Nat} {M : DM} {ok : Nat → Prop} {bf bt : Nat} {blk : Name → Option Nat} {sv ev : Name → Value} {sz : Nat}
/-- the troubles are others -/
theorem DRep.setTr (h : DRep w d M ok bf bt blk sv ev sz) {tr : Int → Int} (ht : NMap Tryz.prog 3 3 w1 bt tr) (hk : ∀ k, ok k → k < w.heap.size → k ≠ bt → w1.heap[k]? = w.heap[k]?) :
    DRep w1 d { M with tr := tr } ok bf bt blk sv ev sz where
  hd := (hk d h.okd h.lt (Ne.symm (h.ht.not_cells h.hd))).trans h.hd
  hf := h.hf.move (hk bf h.okf h.hf.lt h.ne)
  ht := ht
  dom := h.dom
  file := fun x g f h1 h2 => by
    obtain ⟨a, b, c⟩ := h.file x g f h1 h2
    refine ⟨(hk g (h.okb x g h1) (heap_lt a) (Ne.symm (h.ht.not_cells a))).trans a, R_same b (fun k hkk => ?_) b.1, R_same c (fun k hkk => ?_) c.1⟩
    · obtain ⟨cs, hcs⟩ := R_block b hkk
      exact hk k (b.1 k hkk) (heap_lt hcs) (Ne.symm (h.ht.not_cells hcs))
    · obtain ⟨cs, hcs⟩ := R_block c hkk
      exact hk k (c.1 k hkk) (heap_lt hcs) (Ne.symm (h.ht.not_cells hcs))
  inj := h.inj
  apart := h.apart
  ne := h.ne
  okd := h.okd
  okf := h.okf
  okt := h.okt
  okb := h.okb

/-- a new file, of some bytes -/
theorem DRep.insertF (h : DRep w d M ok bf bt blk sv ev sz) {x : Name} {g : Nat} {sz' : Nat} {v1 v2 : Value} {l1 l2 : Bytes} (hx : M.fs x = none)
    (hP : PMap Tryz.prog 9 w1 bf (fun y => if y = x then some g else blk y) sz') (hg : w1.heap[g]? = some (.cells #[v1, v2] 105 (0, 0))) (hgs : w.heap.size ≤ g)
    (hk : ∀ k, ok k → k < w.heap.size → k ≠ bf → w1.heap[k]? = w.heap[k]?) (hokg : ok g)
    (hR1 : RB w1 ok v1 l1) (hR2 : RB w1 ok v2 l2) (hat1 : ∀ b, v1.ownBlock = some b → w.heap.size ≤ b) (hat2 : ∀ b, v2.ownBlock = some b → w.heap.size ≤ b) (hne : ∀ b, v2.ownBlock = some b → v1.ownBlock ≠ some b) :
    DRep w1 d { M with fs := setF M.fs x (some (l1, l2)) } ok bf bt (fun y => if y = x then some g else blk y) (fun y => if y = x then v1 else sv y) (fun y => if y = x then v2 else ev y) sz' := by
  have hbx : blk x = none := h.none_ hx
  unfold setF
  refine { hd := ?_, hf := hP, ht := ?_, dom := ?_, file := ?_, inj := ?_, apart := ?_, ne := h.ne, okd := h.okd, okf := h.okf, okt := h.okt, okb := ?_ }
  · exact (hk d h.okd h.lt (Ne.symm (h.hf.not_cells h.hd))).trans h.hd
  · exact h.ht.move (hk bt h.okt h.ht.lt (Ne.symm h.ne))
  · intro y
    by_cases e : y = x
    · subst e; simp
    · simp only [if_neg e]; exact h.dom y
  · intro y gy fy hy hfy
    by_cases e : y = x
    · subst e
      simp only [if_true] at hy hfy ⊢
      obtain rfl := Option.some.inj hy
      obtain rfl := Option.some.inj hfy
      exact ⟨hg, hR1, hR2⟩
    · simp only [if_neg e] at hy hfy ⊢
      obtain ⟨a, b, c⟩ := h.file y gy fy hy hfy
      refine ⟨(hk gy (h.okb y gy hy) (heap_lt a) (Ne.symm (h.hf.not_cells a))).trans a, R_same b (fun k hkk => ?_) b.1, R_same c (fun k hkk => ?_) c.1⟩
      · obtain ⟨cs, hcs⟩ := R_block b hkk
        exact hk k (b.1 k hkk) (heap_lt hcs) (Ne.symm (h.hf.not_cells hcs))
      · obtain ⟨cs, hcs⟩ := R_block c hkk
        exact hk k (c.1 k hkk) (heap_lt hcs) (Ne.symm (h.hf.not_cells hcs))
  · intro y z gz hy hz
    have hsmall : ∀ y gy, blk y = some gy → gy < w.heap.size := by
      intro y gy hy
      obtain ⟨fy, hfy⟩ := Option.isSome_iff_exists.1 ((h.dom y).symm.trans (by rw [hy]; rfl))
      exact heap_lt (h.file y gy fy hy hfy).1
    by_cases ey : y = x
    · by_cases ez : z = x
      · rw [ey, ez]
      · simp only [if_pos ey] at hy
        simp only [if_neg ez] at hz
        obtain rfl := Option.some.inj hy
        have := hsmall z _ hz; omega
    · by_cases ez : z = x
      · simp only [if_neg ey] at hy
        simp only [if_pos ez] at hz
        obtain rfl := Option.some.inj hz
        have := hsmall y _ hy; omega
      · simp only [if_neg ey] at hy
        simp only [if_neg ez] at hz
        exact h.inj y z gz hy hz
  · intro y z gy gz k hy hz hown
    by_cases ey : y = x
    · simp only [if_pos ey] at hown
      have hks := hat2 k hown
      by_cases ez : z = x
      · simp only [if_pos ez]
        exact ⟨hne k hown, fun e => absurd (ey.trans ez.symm) e⟩
      · simp only [if_neg ez] at hz ⊢
        refine ⟨fun e => ?_, fun _ e => ?_⟩
        · have := h.row_lt hz (.inl e); omega
        · have := h.row_lt hz (.inr e); omega
    · simp only [if_neg ey] at hy hown
      have hks := h.row_lt hy (.inr hown)
      by_cases ez : z = x
      · simp only [if_pos ez]
        refine ⟨fun e => ?_, fun _ e => ?_⟩
        · have := hat1 k e; omega
        · have := hat2 k e; omega
      · simp only [if_neg ez] at hz ⊢
        exact h.apart y z gy gz k hy hz hown
  · intro y gy hy
    by_cases ey : y = x
    · simp only [if_pos ey] at hy
      obtain rfl := Option.some.inj hy
      exact hokg
    · simp only [if_neg ey] at hy
      exact h.okb y gy hy
end
end Go.Proofs.YtmdpgjdepflbmaaGreat

/-
  The walk of New.
-/
namespace Go.Proofs.YtmdpgjdepflbmaaGreat
open Go.RowKit Go.Maps Go.Proofs.YtmdpgjdepflbmaaGreatW.PrintWords Go.Proofs.YtmdpgjdepflbmaaGreatW.PrintLast Go.Proofs.YtmdpgjdepflbmaaGreatW.PrintMore
open Go.Proofs.YtmdpgjdepflbmaaGreat.PPagerFolds
set_option linter.unusedVariables false
set_option linter.unusedSimpArgs false

theorem wf_small3 {y : Int} (h1 : 1 ≤ y) (h3 : y ≤ 3) : (Lit.int .i64 y).wf = true := WalkArith.wf_i64 (by omega)

/-- the disk that grows: the maps' blocks, and how many troubles were stored -/
def NewAt (w0 W : World) (M : DM) (j : Nat) : Prop :=
  (∃ blk sv ev sz, DRep W (w0.heap.size + 2) M (fun k => w0.heap.size ≤ k) w0.heap.size (w0.heap.size + 1) blk sv ev sz) ∧ (∃ n D, n ≤ j ∧ W.ownsMap (H := Unit) Tryz.prog 3 (plainElem Tryz.prog 3) (w0.heap.size + 1) n D) ∧ Below w0.heap.size w0 W

set_option maxHeartbeats 2000000 in
set_option maxRecDepth 100000 in
theorem new_ok {w : World} {A : Option Addr} {c : Nat} {l : List S50} {B : Option Addr} {cb : Nat} {t : List S39} (hl : Kd.C k50 w A l.length l) (hc : l.length ≤ c) (hB : Kd.C k39 w B t.length t) (hcb : t.length ≤ cb)
    (hF : FilesOk l) (hT : TroublesOk t) (ht : t.length < 1000000) :
    Calls Tryz.prog 13 #[.slice A l.length c, .slice B t.length cb] w fun e w' => e = .returned (.tuple #[dptr (w.heap.size + 2), .int .i64 0]) ∧ DiskAt w' (w.heap.size + 2) (newM l t) (fun k => w.heap.size ≤ k) ∧ Below w.heap.size w w' := by
  have HR := Aside0.mk hl
  have HTR := Aside0.mk hB
  have HF := Aside0.mk hF
  have HT := Aside0.mk hT
  have b16 : decide ((16 : Int) < (l.length : Int)) = false := by have := hF.few; simp; omega
  have hu50 := Tryz.underlying94
  have hu39 := Tryz.underlying76
  clear hl hB hF hT
  have HD0 : NewAt w (((w.alloc (.map #[] 0)).alloc (.map #[] 0)).alloc (.cells #[.map (some w.heap.size), .map (some (w.heap.size + 1)), .int .i64 0, .bool false] 100)) (newM [] []) 0 := by
    refine ⟨⟨_, _, _, _, DRep.empty w⟩, ⟨0, .map [], Nat.le_refl _, ?_⟩, ((Below.refl w.heap.size w).alloc (Nat.le_refl _) _).alloc (by simp) _ |>.alloc (by simp; omega) _⟩
    have := World.ownsMap_made (H := Unit) (w.alloc (.map #[] 0)) Tryz.prog 3 (plainElem Tryz.prog 3)
    rw [show (w.alloc (.map #[] 0)).heap.size = w.heap.size + 1 from by simp] at this
    exact ownsMap_at this (Below.heap_alloc _ _ _ (by simp))
  have HD := Aside0.mk HD0
  clear HD0
  have hmm := @run_makeMap Tryz.prog
  go_enter Tryz.func13, Tryz.ntmps13
  go_wp2
  obtain ⟨d, hd⟩ : ∃ d, d = w.heap.size + 1 + 1 := ⟨_, rfl⟩
  have HDd := Aside0.mk hd
  rw [← hd]
  clear hd hmm
  generalize hLn : l.length = Ln at *
  have HLn := Aside0.mk hLn
  clear hLn
  go_loopg [20] Ln (fun kq v20 w' => ∃ x : Int, v20 = .int .i64 x ∧ Aside0 (∃ i : Nat, x = i ∧ i + kq = Ln ∧ NewAt w w' (newM (l.take i) []) 0))
  case atStart => exact ⟨0, rfl, ⟨0, rfl, by omega, by simpa using HD.out⟩⟩
  case round =>
    clear HD
    obtain ⟨x, rfl, HI⟩ := hrel
    cases gk with
    | zero =>
      have c2b0 : decide (x < (Ln : Int)) = false := by obtain ⟨i, h1, h2, _⟩ := HI.out; simp; omega
      have HD : Aside0 (NewAt w wr (newM l []) 0) := by
        obtain ⟨i, h1, h2, h3⟩ := HI.out
        rw [List.take_of_length_le (by rw [HLn.out]; omega)] at h3
        exact ⟨h3⟩
      clear HI
      generalize hLt : t.length = Lt at *
      have HLt := Aside0.mk hLt
      clear hLt
      go_wp2
      clear c2b0
      go_loopg [67] Lt (fun kq v67 w' => ∃ x : Int, v67 = .int .i64 x ∧ Aside0 (∃ i : Nat, x = i ∧ i + kq = Lt ∧ NewAt w w' (newM l (t.take i)) i))
      case atStart => exact ⟨0, rfl, ⟨0, rfl, by omega, by simpa using HD.out⟩⟩
      case round =>
        clear HD
        obtain ⟨x, rfl, HI⟩ := hrel
        cases gk with
        | zero =>
          have c2b0 : decide (x < (Lt : Int)) = false := by obtain ⟨i, h1, h2, _⟩ := HI.out; simp; omega
          go_wp2
          go_ret2
          obtain ⟨i, h1, h2, ⟨⟨blk, sv, ev, sz, hD⟩, _, hb⟩⟩ := HI.out
          rw [List.take_of_length_le (by rw [HLt.out]; omega)] at hD
          exact ⟨by rw [HDd.out]; rfl, ⟨_, _, _, _, _, _, hD⟩, hb⟩
        | succ k1 =>
          have c2b0 : decide (x < (Lt : Int)) = true := by obtain ⟨i, h1, h2, _⟩ := HI.out; simp; omega
          have p256 : 0 ≤ x := by obtain ⟨i, h1, h2, _⟩ := HI.out; omega
          have q256 : x < (Lt : Int) := by obtain ⟨i, h1, h2, _⟩ := HI.out; omega
          obtain ⟨ad, e256, hx0, hx1⟩ := at_T39 HTR.out x p256 q256
          cases e256
          have HB : Aside0 (Below w.heap.size w wr) := by obtain ⟨i, h1, h2, h3⟩ := HI.out; exact ⟨h3.2.2⟩
          replace hx0 := (HB.out.cell (World.block_lt_of_cell? w _ hx0)).trans hx0
          replace hx1 := (HB.out.cell (World.block_lt_of_cell? w _ hx1)).trans hx1
          have hmem : rd_T39 t x ∈ t := by
            obtain ⟨i, h1, h2, _⟩ := HI.out
            unfold rd_T39; subst h1
            have h3 : i < t.length := (by rw [HLt.out]; omega)
            rw [List.getD_eq_getElem?_getD, Int.toNat_natCast, List.getElem?_eq_getElem h3]; exact List.getElem_mem h3
          obtain ⟨t1, t2, t3⟩ := HT.out.each _ hmem
          have twf := HT.out.wf _ hmem
          have HLtx : Aside0 (Lt < 1000000) := ⟨ht⟩
          generalize hy : rd_T39 t x = y at *
          have HY := Aside0.mk hy
          clear hy hmem
          have b1 : decide (y.f0 < 1) = false := by simp; omega
          have b2 : decide (y.f1 < 1) = false := by simp; omega
          have b3 : decide ((3 : Int) < y.f1) = false := by simp; omega
          obtain ⟨x1, hx1w⟩ : ∃ x1, IntKind.i64.wrap (x + 1) = x1 := ⟨_, rfl⟩
          have HX1 : Aside0 (x1 = x + 1) := ⟨by rw [← hx1w, IntKind.wrap_i64]; have := HLtx.out; omega⟩
          obtain ⟨i, hxi, hik, ⟨⟨blk, sv, ev, sz, hD⟩, ⟨n, D, hn, hcnt⟩, hbw⟩⟩ := HI.out
          have hiL : i < t.length := by rw [HLt.out]; omega
          have hyl : t[i]? = some y := by rw [← HY.out, hxi]; unfold rd_T39; rw [List.getD_eq_getElem?_getD, Int.toNat_natCast, List.getElem?_eq_getElem hiL]; rfl
          have htk : t.take (i + 1) = t.take i ++ [y] := by rw [List.take_add_one, hyl]; rfl
          have hne0 : ∀ z ∈ t.take i, z.f1 ≠ 0 := fun z hz => by have := (HT.out.each z (List.mem_of_mem_take hz)).2.1; omega
          have hsn := trOf_snoc (x := y) hne0
          have hbA : Below wr.heap.size wr (wr.alloc (.cells #[.int .i64 y.f0, .int .i64 y.f1] 76)) := (Below.refl _ wr).alloc (Nat.le_refl _) _
          have hDA := hD.move (w' := (wr.alloc (.cells #[.int .i64 y.f0, .int .i64 y.f1] 76)).drew) (fun k _ hk => hbA.block k hk)
          have hDB := hD.move (w' := (wr.alloc (.cells #[.int .i64 y.f0, .int .i64 y.f1] 76)).drew.drew) (fun k _ hk => hbA.block k hk)
          have hlk := hDA.ht.look Tryz.underlying3 Tryz.underlying3 Tryz.underlying98 zero3 twf
          obtain ⟨w5, hst, hN5, ⟨D5, hc5⟩, htd5⟩ := hDB.ht.store Tryz.underlying3 Tryz.underlying3 Tryz.underlying98 twf (wf_small3 t2 t3) ⟨D, ownsMap_at hcnt (hbA.block _ hD.ht.lt)⟩ (by have := HLtx.out; unfold maxLen; omega)
          have c1A := (hD.move (w' := wr.alloc (.cells #[.int .i64 y.f0, .int .i64 y.f1] 76)) (fun k _ hk => hbA.block k hk)).c1
          rw [show w.heap.size + 2 = d from HDd.out.symm] at c1A
          generalize htv : (newM l (t.take i)).tr y.f0 = tv at *
          have HREST := Aside0.mk (And.intro hD (And.intro hcnt (And.intro hn (And.intro hbw (And.intro hxi (And.intro hik (And.intro htk (And.intro hsn (And.intro htv (And.intro hN5 (And.intro hc5 (And.intro htd5 hbA))))))))))))
          clear hD hcnt hn hbw hxi hik htk hsn hDA hDB hN5 hc5 htd5 hiL hyl hne0 HI htv
          go_wp2
          by_cases ht0 : tv = 0
          · have q0 : (tv == (0 : Int)) = true := by simpa using ht0
            go_region
            go_wp2
            go_region
            go_wp2
            go_roundg k1
            case measure => omega
            case rel =>
              obtain ⟨hD, hcnt, hn, hbw, hxi, hik, htk, hsn, htv, hN5, hc5, htd5, hbA⟩ := HREST.out
              have hgr := htd5.grown
              have sA : (((wr.alloc (.cells #[.int .i64 y.f0, .int .i64 y.f1] 76)).drew).drew).heap.size = wr.heap.size + 1 := by show (wr.heap.push _).size = _; exact Array.size_push ..
              have old : ∀ k, k < wr.heap.size → k ≠ w.heap.size + 1 → w5.heap[k]? = wr.heap[k]? := fun k hk hne => (hgr.block k (by omega) (fun e => hne (Option.some.inj e))).trans (hbA.block k hk)
              have hND := hD.setTr (w1 := w5) hN5 (fun k _ hk hne => old k hk hne)
              have e2 : ({ newM l (t.take i) with tr := fun z => if z = y.f0 then y.f1 else (newM l (t.take i)).tr z } : DM) = newM l (t.take (i + 1)) := by
                have e3 : trOf (t.take i ++ [y]) = fun z => if z = y.f0 then y.f1 else trOf (t.take i) z := by
                  rw [hsn]
                  funext z
                  by_cases e : z = y.f0
                  · rw [if_pos e, if_pos e, if_pos (by rw [e]; show trOf (t.take i) y.f0 = 0; exact htv.trans ht0)]
                  · rw [if_neg e, if_neg e]
                show (⟨fsOf l, fun z => if z = y.f0 then y.f1 else trOf (t.take i) z, 0, false⟩ : DM) = ⟨fsOf l, trOf (t.take (i + 1)), 0, false⟩
                rw [htk, e3]
              rw [e2] at hND
              have hlt := hD.ht.lt
              refine ⟨x1, rfl, ⟨i + 1, by rw [HX1.out]; omega, by omega, ⟨⟨_, _, _, _, hND⟩, ⟨n + 1, D5, by omega, hc5⟩, ⟨hgr.os.trans (hbA.os.trans hbw.os), hgr.tape.trans (hbA.tape.trans hbw.tape), hgr.output.trans (hbA.output.trans hbw.output), ?_, fun k hk => (old k (by omega) (by omega)).trans (hbw.block k hk)⟩⟩⟩⟩
              have := hgr.size
              omega
          · have q0 : (tv == (0 : Int)) = false := by simpa using ht0
            go_region
            go_wp2
            go_roundg k1
            case measure => omega
            case rel =>
              obtain ⟨hD, hcnt, hn, hbw, hxi, hik, htk, hsn, htv, hN5, hc5, htd5, hbA⟩ := HREST.out
              have hND := hD.move (w' := (wr.alloc (.cells #[.int .i64 y.f0, .int .i64 y.f1] 76)).drew) (fun k _ hk => hbA.block k hk)
              have e2 : newM l (t.take i) = newM l (t.take (i + 1)) := by
                have e3 : trOf (t.take i ++ [y]) = trOf (t.take i) := by
                  rw [hsn]
                  funext z
                  by_cases e : z = y.f0
                  · rw [if_pos e, if_neg (by rw [e]; show ¬ trOf (t.take i) y.f0 = 0; intro h; exact ht0 (htv.symm.trans h))]
                  · rw [if_neg e]
                show (⟨fsOf l, trOf (t.take i), 0, false⟩ : DM) = ⟨fsOf l, trOf (t.take (i + 1)), 0, false⟩
                rw [htk, e3]
              rw [e2] at hND
              exact ⟨x1, rfl, ⟨i + 1, by rw [HX1.out]; omega, by omega, ⟨⟨_, _, _, _, hND⟩, ⟨n, D, by omega, ownsMap_at hcnt (hbA.block _ hD.ht.lt)⟩, (hbw.alloc hbw.size _).trans ⟨rfl, rfl, rfl, Nat.le_refl _, fun _ _ => rfl⟩⟩⟩⟩
    | succ k1 =>
      have c2b0 : decide (x < (Ln : Int)) = true := by obtain ⟨i, h1, h2, _⟩ := HI.out; simp; omega
      have p256 : 0 ≤ x := by obtain ⟨i, h1, h2, _⟩ := HI.out; omega
      have q256 : x < (Ln : Int) := by obtain ⟨i, h1, h2, _⟩ := HI.out; omega
      obtain ⟨ad, A1, c1, e256, hx0, hx1, hl1, hi1⟩ := at_T50 HR.out x p256 q256
      cases e256
      have HB : Aside0 (Below w.heap.size w wr) := by obtain ⟨i, h1, h2, h3⟩ := HI.out; exact ⟨h3.2.2⟩
      replace hx0 := (HB.out.cell (World.block_lt_of_cell? w _ hx0)).trans hx0
      replace hx1 := (HB.out.cell (World.block_lt_of_cell? w _ hx1)).trans hx1
      have hmem : rd_T50 l x ∈ l := by
        obtain ⟨i, h1, h2, _⟩ := HI.out
        unfold rd_T50; subst h1
        have h3 : i < l.length := (by rw [HLn.out]; omega)
        rw [List.getD_eq_getElem?_getD, Int.toNat_natCast, List.getElem?_eq_getElem h3]; exact List.getElem_mem h3
      have hLx : Ln ≤ 16 := by rw [← HLn.out]; exact HF.out.few
      have hmax := (HF.out.each _ hmem).2
      have HG := Aside0.mk (good_yes (HF.out.each _ hmem).1)
      have hlessx : ∀ z, 0 ≤ z → z = x - 1 → Op.bytesLess (rd_T50 l z).f0.toList (rd_T50 l x).f0.toList = true := by
        intro z hz0 hz
        obtain ⟨i, h1, h2, _⟩ := HI.out
        have h3 : i < l.length := (by rw [HLn.out]; omega)
        rw [less_nm]
        have h4 := List.pairwise_iff_getElem.1 HF.out.rise (i - 1) i (by omega) h3 (by omega)
        unfold rd_T50
        rw [List.getD_eq_getElem?_getD, List.getD_eq_getElem?_getD, show z.toNat = i - 1 from by omega, show x.toNat = i from by omega, List.getElem?_eq_getElem h3, List.getElem?_eq_getElem (show i - 1 < l.length by omega)]
        exact decide_eq_true h4
      generalize hy : rd_T50 l x = y at *
      have HY := Aside0.mk hy
      have HI1 := Aside0.mk hi1
      have HL1 := Aside0.mk hl1
      clear hy hmem hi1 hl1
      obtain ⟨x1, hx1w⟩ : ∃ x1, IntKind.i64.wrap (x + 1) = x1 := ⟨_, rfl⟩
      have HX1 : Aside0 (x1 = x + 1) := ⟨by rw [← hx1w, IntKind.wrap_i64]; omega⟩
      generalize hL1g : y.f1.length = L1 at *
      have b1 : decide ((4194304 : Int) < (L1 : Int)) = false := by simp; omega
      have HLg := Aside0.mk hL1g
      clear hL1g
      go_wp2
      by_cases h0 : 0 < x
      · have b2 : decide (0 < x) = true := decide_eq_true h0
        obtain ⟨z, hz⟩ : ∃ z, IntKind.i64.wrap (x - 1) = z := ⟨_, rfl⟩
        have hz' : z = x - 1 := by rw [← hz, IntKind.wrap_i64]; omega
        have p2 : 0 ≤ z := by omega
        have q2 : z < (Ln : Int) := by omega
        obtain ⟨ad2, A2, c2, e2, hz0, hz1, _, _⟩ := at_T50 HR.out z p2 q2
        cases e2
        replace hz0 := (HB.out.cell (World.block_lt_of_cell? w _ hz0)).trans hz0
        replace hz0 := (World.cell?_alloc_lt wr (.cells #[.string y.f0, .slice A1 L1 c1] 94) _ (World.block_lt_of_cell? wr _ hz0)).trans hz0
        have hless := hlessx z p2 hz'
        clear hlessx hz1 hz'
        go_quiet ((go_at_call 47; exact Calls.quiet_of (HG.out _)))
        go_wp2
        obtain ⟨W1, hW1⟩ : ∃ W1, W1 = (wr.alloc (.cells #[.string y.f0, .slice A1 L1 c1] 94)).drewN nq := ⟨_, rfl⟩
        rw [← hW1]
        obtain ⟨fb, hfb⟩ : ∃ fb, fb = wr.heap.size := ⟨_, rfl⟩
        rw [← hfb]
        have hbel : Below wr.heap.size wr W1 := by rw [hW1]; exact pw_below_drewN ((Below.refl wr.heap.size wr).alloc (Nat.le_refl _) _) _
        have hS1 : W1.cell? ⟨d, 0, none⟩ = some (.map (some w.heap.size)) := by
          obtain ⟨i, h1, h2, ⟨⟨blk, sv, ev, sz, hD⟩, _⟩⟩ := HI.out
          have h3 := hD.c0
          rw [show w.heap.size + 2 = d from HDd.out.symm] at h3
          exact (hbel.cell (World.block_lt_of_cell? _ _ h3)).trans h3
        have hS2 : W1.cell? ⟨fb, 0, none⟩ = some (.string y.f0) := by rw [hW1, hfb]; exact cell_of_row _ _ 0 _ 94 (0, 0) (heap_alloc_new wr _)
        have hS3 : W1.cell? ⟨fb, 1, none⟩ = some (.slice A1 L1 c1) := by rw [hW1, hfb]; exact cell_of_row _ _ 1 _ 94 (0, 0) (heap_alloc_new wr _)
        have LG : ∀ W2, Below W1.heap.size W1 W2 → (W2.cell? ⟨d, 0, none⟩ = some (.map (some w.heap.size)) ∧ W2.cell? ⟨fb, 0, none⟩ = some (.string y.f0) ∧ W2.cell? ⟨fb, 1, none⟩ = some (.slice A1 L1 c1)) →
            Calls Tryz.prog 48 #[.slice A1 L1 c1] W2 fun e w' => ∃ Ax cx, e = .returned (.slice Ax L1 cx) ∧ (U8.R 5 w' W2.heap.size (fun k => W2.heap.size ≤ k) (.slice Ax L1 cx) y.f1 ∧ Below W1.heap.size W1 w' ∧ Below W2.heap.size W2 w') ∧ w'.cell? ⟨d, 0, none⟩ = some (.map (some w.heap.size)) ∧ w'.cell? ⟨fb, 0, none⟩ = some (.string y.f0) ∧ w'.cell? ⟨fb, 1, none⟩ = some (.slice A1 L1 c1) := by
          intro W2 hb ⟨g1, g2, g3⟩
          have hC2 : U8.C W2 A1 L1 y.f1 := by
            have h1 : Below w.heap.size w W2 := HB.out.trans ((hbel.trans (hb.mono hbel.size)).mono HB.out.size)
            have := Kd.C_below HI1.out h1
            exact this
          refine (clone_any A1 L1 c1 y.f1 W2 (by unfold roomy; omega) hC2).mono ?_
          rintro e w' ⟨v, rfl, h1, h2⟩
          obtain ⟨Ax, cx, rfl⟩ := Kd.R_slice h1
          rw [HLg.out] at h1 ⊢
          exact ⟨Ax, cx, rfl, ⟨h1, hb.trans (h2.mono hb.size), h2⟩, (h2.cell (World.block_lt_of_cell? _ _ g1)).trans g1, (h2.cell (World.block_lt_of_cell? _ _ g2)).trans g2, (h2.cell (World.block_lt_of_cell? _ _ g3)).trans g3⟩
        obtain ⟨i, hxi, hik, ⟨⟨blk, sv, ev, sz, hD⟩, hcnt, hbw⟩⟩ := HI.out
        have hiL : i < l.length := by rw [HLn.out]; omega
        have hyl : l[i]? = some y := by rw [← HY.out, hxi]; unfold rd_T50; rw [List.getD_eq_getElem?_getD, Int.toNat_natCast, List.getElem?_eq_getElem hiL]; rfl
        have htk : l.take (i + 1) = l.take i ++ [y] := by rw [List.take_add_one, hyl]; rfl
        have hlt : ∀ z ∈ l.take i, nm z.f0 ≠ nm y.f0 := by
          have h1 := HF.out.rise.sublist (List.take_sublist (i + 1) l)
          rw [htk] at h1
          intro z hz e
          have := (List.pairwise_append.1 h1).2.2 z hz y (by simp)
          rw [e] at this
          exact List.lt_irrefl _ this
        have hfx : (newM (l.take i) []).fs (nm y.f0) = none := fsOf_none hlt
        have hszl : sz ≤ 16 := by
          have h1 := hD.sz_eq (fsOf_isL (HF.out.rise.sublist (List.take_sublist i l))).1 (fsOf_isL (HF.out.rise.sublist (List.take_sublist i l))).2
          have h2 := HF.out.few
          simp at h1
          omega
        have hyg := (HF.out.each y (List.mem_of_getElem? hyl)).1
        have PM : ∀ (v1 v2 : Value) w3 w4, Below W1.heap.size W1 w3 → w4 = w3.alloc (.cells #[v1, v2] 105) → ∃ w5, (Instr.mapUpdate 97 (.map (some w.heap.size)) (.string y.f0) (.pointer (some ⟨w3.heap.size, 0, none⟩))).run Tryz.prog w4 = .ok () w5 ∧ PMap Tryz.prog 9 w5 w.heap.size (fun z => if z = nm y.f0 then some w3.heap.size else blk z) (if (blk (nm y.f0)).isSome then sz else sz + 1) ∧ w4.mapTurned w5 w.heap.size := by
          intro v1 v2 w3 w4 hb hw4
          have h1 : Below wr.heap.size wr w4 := by
            rw [hw4]
            exact (hbel.trans (hb.mono hbel.size)).alloc ((hbel.trans (hb.mono hbel.size)).size) _
          exact (hD.hf.move (h1.block _ hD.hf.lt)).store Tryz.underlying9 Tryz.underlying97 (s := y.f0) (by have := hyg.2.2; unfold maxLen; omega) (by unfold maxLen; omega) w3.heap.size
        have HLG1 := Aside0.mk (LG W1.drew ⟨rfl, rfl, rfl, Nat.le_refl _, fun _ _ => rfl⟩ ⟨hS1, hS2, hS3⟩)
        have HLG2 := Aside0.mk LG
        have HPM := Aside0.mk PM
        have HREST := Aside0.mk (And.intro hD (And.intro hcnt (And.intro hbw (And.intro hbel (And.intro hxi (And.intro hik (And.intro htk (And.intro hfx hlt))))))))
        have HW1 := Aside0.mk (And.intro hW1 hfb)
        clear LG PM hD hcnt hbw hbel hxi hik htk hfx hlt hW1 hfb hyl hiL hszl hyg hx0 hx1 hz0 hz b2 p2 q2 hless h0
        refine start_ (n := 15) (S := fun w' => w'.cell? ⟨d, 0, none⟩ = some (.map (some w.heap.size)) ∧ w'.cell? ⟨fb, 0, none⟩ = some (.string y.f0) ∧ w'.cell? ⟨fb, 1, none⟩ = some (.slice A1 L1 c1)) (ds := [14]) #[false, false, false, false, false, false, false, false, false, false, false, false, false, false, false] (by kernel_rfl) rfl rfl ⟨hS1, hS2, hS3⟩ (fun hHeld => ?_)
        refine pure_ (i := 0) (N := some 50) (v := ?_) (a' := ?_) #[true, false, false, false, false, false, false, false, false, false, false, false, false, false, false] rfl rfl (by kernel_rfl) (fun _ _ _ h => h) (Or.inl ⟨by rfl, ?_⟩) ?_ ?_
        rotate_left
        · intro w'
          go_simp
          with_reducible rfl
        rotate_left
        · simp only [Act.put, List.setIfInBounds_toArray, List.set_cons_zero, List.set_cons_succ, i64_w, i32_w]
          rfl
        refine pure_ (i := 1) (N := some 51) (v := ?_) (a' := ?_) #[true, true, false, false, false, false, false, false, false, false, false, false, false, false, false] rfl rfl (by kernel_rfl) (fun _ _ _ h => h) (Or.inl ⟨by rfl, ?_⟩) ?_ ?_
        rotate_left
        · intro w'
          go_simp
          with_reducible rfl
        rotate_left
        · simp only [Act.put, List.setIfInBounds_toArray, List.set_cons_zero, List.set_cons_succ, i64_w, i32_w]
          rfl
        refine pure_ (i := 2) (N := some 52) (v := ?_) (a' := ?_) #[true, true, true, false, false, false, false, false, false, false, false, false, false, false, false] rfl rfl (by kernel_rfl) (fun _ _ _ h => h) (Or.inl ⟨by rfl, ?_⟩) ?_ ?_
        rotate_left
        · intro w'
          go_simp
          with_reducible rfl
        rotate_left
        · simp only [Act.put, List.setIfInBounds_toArray, List.set_cons_zero, List.set_cons_succ, i64_w, i32_w]
          rfl
        refine take_ (i := 3) (N := some 53) (v := ?_) (a' := ?_) #[true, true, true, true, false, false, false, false, false, false, false, false, false, false, false] rfl rfl (by kernel_rfl) (fun _ _ _ h => h) (Or.inl ⟨by rfl, ?_⟩) hHeld ?_ ?_
        rotate_left
        · rintro w' ⟨s0, s1, s2⟩
          go_simp
          with_reducible rfl
        rotate_left
        · simp only [Act.put, List.setIfInBounds_toArray, List.set_cons_zero, List.set_cons_succ, i64_w, i32_w]
          rfl
        refine pure_ (i := 4) (N := some 54) (v := ?_) (a' := ?_) #[true, true, true, true, true, false, false, false, false, false, false, false, false, false, false] rfl rfl (by kernel_rfl) (fun _ _ _ h => h) (Or.inl ⟨by rfl, ?_⟩) ?_ ?_
        rotate_left
        · intro w'
          go_simp
          with_reducible rfl
        rotate_left
        · simp only [Act.put, List.setIfInBounds_toArray, List.set_cons_zero, List.set_cons_succ, i64_w, i32_w]
          rfl
        refine take_ (i := 5) (N := some 55) (v := ?_) (a' := ?_) #[true, true, true, true, true, true, false, false, false, false, false, false, false, false, false] rfl rfl (by kernel_rfl) (fun _ _ _ h => h) (Or.inl ⟨by rfl, ?_⟩) hHeld ?_ ?_
        rotate_left
        · rintro w' ⟨s0, s1, s2⟩
          go_simp
          with_reducible rfl
        rotate_left
        · simp only [Act.put, List.setIfInBounds_toArray, List.set_cons_zero, List.set_cons_succ, i64_w, i32_w]
          rfl
        refine pure_ (i := 6) (N := some 56) (v := ?_) (a' := ?_) #[true, true, true, true, true, true, true, false, false, false, false, false, false, false, false] rfl rfl (by kernel_rfl) (fun _ _ _ h => h) (Or.inl ⟨by rfl, ?_⟩) ?_ ?_
        rotate_left
        · intro w'
          go_simp
          with_reducible rfl
        rotate_left
        · simp only [Act.put, List.setIfInBounds_toArray, List.set_cons_zero, List.set_cons_succ, i64_w, i32_w]
          rfl
        refine take_ (i := 7) (N := some 57) (v := ?_) (a' := ?_) #[true, true, true, true, true, true, true, true, false, false, false, false, false, false, false] rfl rfl (by kernel_rfl) (fun _ _ _ h => h) (Or.inl ⟨by rfl, ?_⟩) hHeld ?_ ?_
        rotate_left
        · rintro w' ⟨s0, s1, s2⟩
          go_simp
          with_reducible rfl
        rotate_left
        · simp only [Act.put, List.setIfInBounds_toArray, List.set_cons_zero, List.set_cons_succ, i64_w, i32_w]
          rfl
        refine pure_ (i := 9) (N := some 59) (v := ?_) (a' := ?_) #[true, true, true, true, true, true, true, true, false, true, false, false, false, false, false] rfl rfl (by kernel_rfl) (fun _ _ _ h => h) (Or.inl ⟨by rfl, ?_⟩) ?_ ?_
        rotate_left
        · intro w'
          go_simp
          with_reducible rfl
        rotate_left
        · simp only [Act.put, List.setIfInBounds_toArray, List.set_cons_zero, List.set_cons_succ, i64_w, i32_w]
          rfl
        refine take_ (i := 10) (N := some 60) (v := ?_) (a' := ?_) #[true, true, true, true, true, true, true, true, false, true, true, false, false, false, false] rfl rfl (by kernel_rfl) (fun _ _ _ h => h) (Or.inl ⟨by rfl, ?_⟩) hHeld ?_ ?_
        rotate_left
        · rintro w' ⟨s0, s1, s2⟩
          go_simp
          with_reducible rfl
        rotate_left
        · simp only [Act.put, List.setIfInBounds_toArray, List.set_cons_zero, List.set_cons_succ, i64_w, i32_w]
          rfl
        refine one_ (i := 8) (N := some 58) #[true, true, true, true, true, true, true, true, true, true, true, false, false, false, false] rfl rfl (by kernel_rfl) (by decide) (fun K hK => ?_)
        refine goes_ Tryz.func48 (by kernel_rfl) rfl #[.slice A1 L1 c1] (by rfl) rfl rfl (by simp only [List.map_toArray, List.map_cons, List.map_nil]; rfl) ?_
        refine (HLG1.out).mono ?_
        rintro e w2 ⟨Ax1, cx1, rfl, hq1, hs1_1, hs2_1, hs3_1⟩
        have HQ1 := Aside0.mk hq1
        clear hq1
        refine ⟨_, rfl, ?_⟩
        refine hK.out _ _ ⟨hs1_1, hs2_1, hs3_1⟩ (fun hHeld => ?_)
        clear hK K
        refine norm_ (a' := ?_) ?_ ?_
        rotate_left
        · show Act.put _ (some 58) _ = _
          simp only [Act.put, List.setIfInBounds_toArray, List.set_cons_zero, List.set_cons_succ, i64_w, i32_w]
          rfl
        refine one_ (i := 11) (N := some 61) #[true, true, true, true, true, true, true, true, true, true, true, true, false, false, false] rfl rfl (by kernel_rfl) (by decide) (fun K hK => ?_)
        refine goes_ Tryz.func48 (by kernel_rfl) rfl #[.slice A1 L1 c1] (by rfl) rfl rfl (by simp only [List.map_toArray, List.map_cons, List.map_nil]; rfl) ?_
        refine (HLG2.out w2 HQ1.out.2.1 ⟨hs1_1, hs2_1, hs3_1⟩).mono ?_
        rintro e w3 ⟨Ax2, cx2, rfl, hq2, hs1_2, hs2_2, hs3_2⟩
        have HQ2 := Aside0.mk hq2
        clear hq2
        refine ⟨_, rfl, ?_⟩
        refine hK.out _ _ ⟨hs1_2, hs2_2, hs3_2⟩ (fun hHeld => ?_)
        clear hK K
        refine norm_ (a' := ?_) ?_ ?_
        rotate_left
        · show Act.put _ (some 61) _ = _
          simp only [Act.put, List.setIfInBounds_toArray, List.set_cons_zero, List.set_cons_succ, i64_w, i32_w]
          rfl
        refine pure_ (i := 12) (N := some 62) (v := ?_) (a' := ?_) #[true, true, true, true, true, true, true, true, true, true, true, true, true, false, false] rfl rfl (by kernel_rfl) (fun _ _ _ h => h) (Or.inl ⟨by rfl, ?_⟩) ?_ ?_
        rotate_left
        · intro w'
          go_simp
          with_reducible rfl
        rotate_left
        · simp only [Act.put, List.setIfInBounds_toArray, List.set_cons_zero, List.set_cons_succ, i64_w, i32_w]
          rfl
        refine one_ (i := 13) (N := some 63) #[true, true, true, true, true, true, true, true, true, true, true, true, true, true, false] rfl rfl (by kernel_rfl) (by decide) (fun K hK => ?_)
        obtain ⟨w4, hw4⟩ : ∃ w4, w4 = w3.alloc (.cells #[.slice Ax1 L1 cx1, .slice Ax2 L1 cx2] 105) := ⟨_, rfl⟩
        obtain ⟨w5, hrun, hP5, hturn5⟩ := HPM.out (.slice Ax1 L1 cx1) (.slice Ax2 L1 cx2) w3 w4 HQ2.out.2.1 hw4
        refine value_ (v := .pointer (some ⟨w3.heap.size, 0, none⟩)) (w1 := w4) (by rfl) rfl ?_ ?_
        · rw [hw4]; go_simp
        have h41 : w4.cell? ⟨d, 0, none⟩ = some (.map (some w.heap.size)) := by rw [hw4]; exact (World.cell?_alloc_lt w3 _ ⟨d, 0, none⟩ (World.block_lt_of_cell? _ _ hs1_2)).trans hs1_2
        have h42 : w4.cell? ⟨fb, 0, none⟩ = some (.string y.f0) := by rw [hw4]; exact (World.cell?_alloc_lt w3 _ ⟨fb, 0, none⟩ (World.block_lt_of_cell? _ _ hs2_2)).trans hs2_2
        have h43 : w4.cell? ⟨fb, 1, none⟩ = some (.slice A1 L1 c1) := by rw [hw4]; exact (World.cell?_alloc_lt w3 _ ⟨fb, 1, none⟩ (World.block_lt_of_cell? _ _ hs3_2)).trans hs3_2
        have HP5 := Aside0.mk (And.intro hP5 (And.intro hturn5 hw4))
        clear hP5 hturn5 hw4
        refine hK.out _ _ ⟨h41, h42, h43⟩ (fun hHeld => ?_)
        clear hK K
        refine norm_ (a' := ?_) ?_ ?_
        rotate_left
        · show Act.put _ (some 63) _ = _
          simp only [Act.put, List.setIfInBounds_toArray, List.set_cons_zero, List.set_cons_succ, i64_w, i32_w]
          rfl
        refine last_ (i := 14) (N := none) #[true, true, true, true, true, true, true, true, true, true, true, true, true, true, true] rfl rfl (by kernel_rfl) (by decide) (fun K hK => ?_)
        refine skip_ (w1 := w5) (by rfl) rfl ?_ ?_
        · go_simp
        refine hK.out _ _ ?_
        clear hK K
        refine done_ (by kernel_rfl) ?_
        go_wp2
        go_roundg k1
        case measure => omega
        case rel =>
          obtain ⟨hD, hcnt, hbw, hbel, hxi, hik, htk, hfx, hlt⟩ := HREST.out
          obtain ⟨hP5, hturn5, hw4⟩ := HP5.out
          obtain ⟨hR1, hB12, hB12'⟩ := HQ1.out
          obtain ⟨hR2, hB13, hB23⟩ := HQ2.out
          have hgr := hturn5.grown
          have s1 : wr.heap.size ≤ W1.heap.size := hbel.size
          have s2 : W1.heap.size ≤ w2.heap.size := hB12.size
          have s3 : w2.heap.size ≤ w3.heap.size := hB23.size
          have s4 : w4.heap.size = w3.heap.size + 1 := by rw [hw4]; simp
          have hbfw : w.heap.size < wr.heap.size := hD.hf.lt
          have old : ∀ k, k < w3.heap.size → k ≠ w.heap.size → w5.heap[k]? = w3.heap[k]? := fun k hk hne => (hgr.block k (by omega) (fun e => hne (Option.some.inj e))).trans (by rw [hw4]; exact Below.heap_alloc _ _ _ hk)
          have old2 : ∀ k, k < wr.heap.size → k ≠ w.heap.size → w5.heap[k]? = wr.heap[k]? := fun k hk hne => (old k (by omega) hne).trans ((hB13.block k (by omega)).trans (hbel.block k hk))
          have hcell : w5.heap[w3.heap.size]? = some (.cells #[.slice Ax1 L1 cx1, .slice Ax2 L1 cx2] 105 (0, 0)) := (hgr.block _ (by omega) (fun e => by have := Option.some.inj e; omega)).trans (by rw [hw4]; exact heap_alloc_new w3 _)
          have d1 : W1.drew.heap.size = W1.heap.size := rfl
          rw [d1] at hR1
          have hR1' : RB w5 (fun k => w.heap.size ≤ k) (.slice Ax1 L1 cx1) y.f1 := (RB.of_R hR1).same (fun k hk => by
            have h1 := (RB.of_R hR1).lt hk
            have h2 := hR1.1 k hk
            exact (old k (by omega) (by omega)).trans (hB23.block k h1)) (fun k hk => by have := hR1.1 k hk; omega)
          have hR2' : RB w5 (fun k => w.heap.size ≤ k) (.slice Ax2 L1 cx2) y.f1 := (RB.of_R hR2).same (fun k hk => by
            have h1 := (RB.of_R hR2).lt hk
            have h2 := hR2.1 k hk
            exact old k (by omega) (by omega)) (fun k hk => by have := hR2.1 k hk; omega)
          have hND := hD.insertF (w1 := w5) (x := nm y.f0) (g := w3.heap.size) hfx hP5 hcell (by omega) (fun k _ hk hne => old2 k hk hne) (by show w.heap.size ≤ w3.heap.size; omega) hR1' hR2' (fun b hb => by have := hR1.1 b hb; omega) (fun b hb => by have := hR2.1 b hb; omega) (fun b hb e => by have h1 := hR2.1 b hb; have h2 := (RB.of_R hR1).lt e; omega)
          rw [show ({ newM (l.take i) [] with fs := setF (newM (l.take i) []).fs (nm y.f0) (some (y.f1, y.f1)) } : DM) = newM (l.take (i + 1)) [] from by rw [htk]; unfold newM; rw [fsOf_snoc hlt]] at hND
          refine ⟨x1, rfl, ⟨i + 1, by rw [HX1.out]; omega, by omega, ⟨⟨_, _, _, _, hND⟩, ?_, ?_⟩⟩⟩
          · obtain ⟨n0, D0, hn0, hDm⟩ := hcnt
            exact ⟨n0, D0, hn0, ownsMap_at hDm (old2 _ hD.ht.lt (Ne.symm hD.ne))⟩
          · refine ⟨hgr.os.trans ?_, hgr.tape.trans ?_, hgr.output.trans ?_, ?_, fun k hk => (old2 k (by omega) (by omega)).trans (hbw.block k hk)⟩
            · rw [hw4]; exact hB13.os.trans (hbel.os.trans hbw.os)
            · rw [hw4]; exact hB13.tape.trans (hbel.tape.trans hbw.tape)
            · rw [hw4]; exact hB13.output.trans (hbel.output.trans hbw.output)
            · have := hgr.size; omega
      · have b2 : decide (0 < x) = false := decide_eq_false h0
        clear hlessx
        go_quiet ((go_at_call 47; exact Calls.quiet_of (HG.out _)))
        go_wp2
        obtain ⟨W1, hW1⟩ : ∃ W1, W1 = (wr.alloc (.cells #[.string y.f0, .slice A1 L1 c1] 94)).drewN nq := ⟨_, rfl⟩
        rw [← hW1]
        obtain ⟨fb, hfb⟩ : ∃ fb, fb = wr.heap.size := ⟨_, rfl⟩
        rw [← hfb]
        have hbel : Below wr.heap.size wr W1 := by rw [hW1]; exact pw_below_drewN ((Below.refl wr.heap.size wr).alloc (Nat.le_refl _) _) _
        have hS1 : W1.cell? ⟨d, 0, none⟩ = some (.map (some w.heap.size)) := by
          obtain ⟨i, h1, h2, ⟨⟨blk, sv, ev, sz, hD⟩, _⟩⟩ := HI.out
          have h3 := hD.c0
          rw [show w.heap.size + 2 = d from HDd.out.symm] at h3
          exact (hbel.cell (World.block_lt_of_cell? _ _ h3)).trans h3
        have hS2 : W1.cell? ⟨fb, 0, none⟩ = some (.string y.f0) := by rw [hW1, hfb]; exact cell_of_row _ _ 0 _ 94 (0, 0) (heap_alloc_new wr _)
        have hS3 : W1.cell? ⟨fb, 1, none⟩ = some (.slice A1 L1 c1) := by rw [hW1, hfb]; exact cell_of_row _ _ 1 _ 94 (0, 0) (heap_alloc_new wr _)
        have LG : ∀ W2, Below W1.heap.size W1 W2 → (W2.cell? ⟨d, 0, none⟩ = some (.map (some w.heap.size)) ∧ W2.cell? ⟨fb, 0, none⟩ = some (.string y.f0) ∧ W2.cell? ⟨fb, 1, none⟩ = some (.slice A1 L1 c1)) →
            Calls Tryz.prog 48 #[.slice A1 L1 c1] W2 fun e w' => ∃ Ax cx, e = .returned (.slice Ax L1 cx) ∧ (U8.R 5 w' W2.heap.size (fun k => W2.heap.size ≤ k) (.slice Ax L1 cx) y.f1 ∧ Below W1.heap.size W1 w' ∧ Below W2.heap.size W2 w') ∧ w'.cell? ⟨d, 0, none⟩ = some (.map (some w.heap.size)) ∧ w'.cell? ⟨fb, 0, none⟩ = some (.string y.f0) ∧ w'.cell? ⟨fb, 1, none⟩ = some (.slice A1 L1 c1) := by
          intro W2 hb ⟨g1, g2, g3⟩
          have hC2 : U8.C W2 A1 L1 y.f1 := by
            have h1 : Below w.heap.size w W2 := HB.out.trans ((hbel.trans (hb.mono hbel.size)).mono HB.out.size)
            have := Kd.C_below HI1.out h1
            exact this
          refine (clone_any A1 L1 c1 y.f1 W2 (by unfold roomy; omega) hC2).mono ?_
          rintro e w' ⟨v, rfl, h1, h2⟩
          obtain ⟨Ax, cx, rfl⟩ := Kd.R_slice h1
          rw [HLg.out] at h1 ⊢
          exact ⟨Ax, cx, rfl, ⟨h1, hb.trans (h2.mono hb.size), h2⟩, (h2.cell (World.block_lt_of_cell? _ _ g1)).trans g1, (h2.cell (World.block_lt_of_cell? _ _ g2)).trans g2, (h2.cell (World.block_lt_of_cell? _ _ g3)).trans g3⟩
        obtain ⟨i, hxi, hik, ⟨⟨blk, sv, ev, sz, hD⟩, hcnt, hbw⟩⟩ := HI.out
        have hiL : i < l.length := by rw [HLn.out]; omega
        have hyl : l[i]? = some y := by rw [← HY.out, hxi]; unfold rd_T50; rw [List.getD_eq_getElem?_getD, Int.toNat_natCast, List.getElem?_eq_getElem hiL]; rfl
        have htk : l.take (i + 1) = l.take i ++ [y] := by rw [List.take_add_one, hyl]; rfl
        have hlt : ∀ z ∈ l.take i, nm z.f0 ≠ nm y.f0 := by
          have h1 := HF.out.rise.sublist (List.take_sublist (i + 1) l)
          rw [htk] at h1
          intro z hz e
          have := (List.pairwise_append.1 h1).2.2 z hz y (by simp)
          rw [e] at this
          exact List.lt_irrefl _ this
        have hfx : (newM (l.take i) []).fs (nm y.f0) = none := fsOf_none hlt
        have hszl : sz ≤ 16 := by
          have h1 := hD.sz_eq (fsOf_isL (HF.out.rise.sublist (List.take_sublist i l))).1 (fsOf_isL (HF.out.rise.sublist (List.take_sublist i l))).2
          have h2 := HF.out.few
          simp at h1
          omega
        have hyg := (HF.out.each y (List.mem_of_getElem? hyl)).1
        have PM : ∀ (v1 v2 : Value) w3 w4, Below W1.heap.size W1 w3 → w4 = w3.alloc (.cells #[v1, v2] 105) → ∃ w5, (Instr.mapUpdate 97 (.map (some w.heap.size)) (.string y.f0) (.pointer (some ⟨w3.heap.size, 0, none⟩))).run Tryz.prog w4 = .ok () w5 ∧ PMap Tryz.prog 9 w5 w.heap.size (fun z => if z = nm y.f0 then some w3.heap.size else blk z) (if (blk (nm y.f0)).isSome then sz else sz + 1) ∧ w4.mapTurned w5 w.heap.size := by
          intro v1 v2 w3 w4 hb hw4
          have h1 : Below wr.heap.size wr w4 := by
            rw [hw4]
            exact (hbel.trans (hb.mono hbel.size)).alloc ((hbel.trans (hb.mono hbel.size)).size) _
          exact (hD.hf.move (h1.block _ hD.hf.lt)).store Tryz.underlying9 Tryz.underlying97 (s := y.f0) (by have := hyg.2.2; unfold maxLen; omega) (by unfold maxLen; omega) w3.heap.size
        have HLG1 := Aside0.mk (LG W1.drew ⟨rfl, rfl, rfl, Nat.le_refl _, fun _ _ => rfl⟩ ⟨hS1, hS2, hS3⟩)
        have HLG2 := Aside0.mk LG
        have HPM := Aside0.mk PM
        have HREST := Aside0.mk (And.intro hD (And.intro hcnt (And.intro hbw (And.intro hbel (And.intro hxi (And.intro hik (And.intro htk (And.intro hfx hlt))))))))
        have HW1 := Aside0.mk (And.intro hW1 hfb)
        clear LG PM hD hcnt hbw hbel hxi hik htk hfx hlt hW1 hfb hyl hiL hszl hyg hx0 hx1 b2 h0
        refine start_ (n := 15) (S := fun w' => w'.cell? ⟨d, 0, none⟩ = some (.map (some w.heap.size)) ∧ w'.cell? ⟨fb, 0, none⟩ = some (.string y.f0) ∧ w'.cell? ⟨fb, 1, none⟩ = some (.slice A1 L1 c1)) (ds := [14]) #[false, false, false, false, false, false, false, false, false, false, false, false, false, false, false] (by kernel_rfl) rfl rfl ⟨hS1, hS2, hS3⟩ (fun hHeld => ?_)
        refine pure_ (i := 0) (N := some 50) (v := ?_) (a' := ?_) #[true, false, false, false, false, false, false, false, false, false, false, false, false, false, false] rfl rfl (by kernel_rfl) (fun _ _ _ h => h) (Or.inl ⟨by rfl, ?_⟩) ?_ ?_
        rotate_left
        · intro w'
          go_simp
          with_reducible rfl
        rotate_left
        · simp only [Act.put, List.setIfInBounds_toArray, List.set_cons_zero, List.set_cons_succ, i64_w, i32_w]
          rfl
        refine pure_ (i := 1) (N := some 51) (v := ?_) (a' := ?_) #[true, true, false, false, false, false, false, false, false, false, false, false, false, false, false] rfl rfl (by kernel_rfl) (fun _ _ _ h => h) (Or.inl ⟨by rfl, ?_⟩) ?_ ?_
        rotate_left
        · intro w'
          go_simp
          with_reducible rfl
        rotate_left
        · simp only [Act.put, List.setIfInBounds_toArray, List.set_cons_zero, List.set_cons_succ, i64_w, i32_w]
          rfl
        refine pure_ (i := 2) (N := some 52) (v := ?_) (a' := ?_) #[true, true, true, false, false, false, false, false, false, false, false, false, false, false, false] rfl rfl (by kernel_rfl) (fun _ _ _ h => h) (Or.inl ⟨by rfl, ?_⟩) ?_ ?_
        rotate_left
        · intro w'
          go_simp
          with_reducible rfl
        rotate_left
        · simp only [Act.put, List.setIfInBounds_toArray, List.set_cons_zero, List.set_cons_succ, i64_w, i32_w]
          rfl
        refine take_ (i := 3) (N := some 53) (v := ?_) (a' := ?_) #[true, true, true, true, false, false, false, false, false, false, false, false, false, false, false] rfl rfl (by kernel_rfl) (fun _ _ _ h => h) (Or.inl ⟨by rfl, ?_⟩) hHeld ?_ ?_
        rotate_left
        · rintro w' ⟨s0, s1, s2⟩
          go_simp
          with_reducible rfl
        rotate_left
        · simp only [Act.put, List.setIfInBounds_toArray, List.set_cons_zero, List.set_cons_succ, i64_w, i32_w]
          rfl
        refine pure_ (i := 4) (N := some 54) (v := ?_) (a' := ?_) #[true, true, true, true, true, false, false, false, false, false, false, false, false, false, false] rfl rfl (by kernel_rfl) (fun _ _ _ h => h) (Or.inl ⟨by rfl, ?_⟩) ?_ ?_
        rotate_left
        · intro w'
          go_simp
          with_reducible rfl
        rotate_left
        · simp only [Act.put, List.setIfInBounds_toArray, List.set_cons_zero, List.set_cons_succ, i64_w, i32_w]
          rfl
        refine take_ (i := 5) (N := some 55) (v := ?_) (a' := ?_) #[true, true, true, true, true, true, false, false, false, false, false, false, false, false, false] rfl rfl (by kernel_rfl) (fun _ _ _ h => h) (Or.inl ⟨by rfl, ?_⟩) hHeld ?_ ?_
        rotate_left
        · rintro w' ⟨s0, s1, s2⟩
          go_simp
          with_reducible rfl
        rotate_left
        · simp only [Act.put, List.setIfInBounds_toArray, List.set_cons_zero, List.set_cons_succ, i64_w, i32_w]
          rfl
        refine pure_ (i := 6) (N := some 56) (v := ?_) (a' := ?_) #[true, true, true, true, true, true, true, false, false, false, false, false, false, false, false] rfl rfl (by kernel_rfl) (fun _ _ _ h => h) (Or.inl ⟨by rfl, ?_⟩) ?_ ?_
        rotate_left
        · intro w'
          go_simp
          with_reducible rfl
        rotate_left
        · simp only [Act.put, List.setIfInBounds_toArray, List.set_cons_zero, List.set_cons_succ, i64_w, i32_w]
          rfl
        refine take_ (i := 7) (N := some 57) (v := ?_) (a' := ?_) #[true, true, true, true, true, true, true, true, false, false, false, false, false, false, false] rfl rfl (by kernel_rfl) (fun _ _ _ h => h) (Or.inl ⟨by rfl, ?_⟩) hHeld ?_ ?_
        rotate_left
        · rintro w' ⟨s0, s1, s2⟩
          go_simp
          with_reducible rfl
        rotate_left
        · simp only [Act.put, List.setIfInBounds_toArray, List.set_cons_zero, List.set_cons_succ, i64_w, i32_w]
          rfl
        refine pure_ (i := 9) (N := some 59) (v := ?_) (a' := ?_) #[true, true, true, true, true, true, true, true, false, true, false, false, false, false, false] rfl rfl (by kernel_rfl) (fun _ _ _ h => h) (Or.inl ⟨by rfl, ?_⟩) ?_ ?_
        rotate_left
        · intro w'
          go_simp
          with_reducible rfl
        rotate_left
        · simp only [Act.put, List.setIfInBounds_toArray, List.set_cons_zero, List.set_cons_succ, i64_w, i32_w]
          rfl
        refine take_ (i := 10) (N := some 60) (v := ?_) (a' := ?_) #[true, true, true, true, true, true, true, true, false, true, true, false, false, false, false] rfl rfl (by kernel_rfl) (fun _ _ _ h => h) (Or.inl ⟨by rfl, ?_⟩) hHeld ?_ ?_
        rotate_left
        · rintro w' ⟨s0, s1, s2⟩
          go_simp
          with_reducible rfl
        rotate_left
        · simp only [Act.put, List.setIfInBounds_toArray, List.set_cons_zero, List.set_cons_succ, i64_w, i32_w]
          rfl
        refine one_ (i := 8) (N := some 58) #[true, true, true, true, true, true, true, true, true, true, true, false, false, false, false] rfl rfl (by kernel_rfl) (by decide) (fun K hK => ?_)
        refine goes_ Tryz.func48 (by kernel_rfl) rfl #[.slice A1 L1 c1] (by rfl) rfl rfl (by simp only [List.map_toArray, List.map_cons, List.map_nil]; rfl) ?_
        refine (HLG1.out).mono ?_
        rintro e w2 ⟨Ax1, cx1, rfl, hq1, hs1_1, hs2_1, hs3_1⟩
        have HQ1 := Aside0.mk hq1
        clear hq1
        refine ⟨_, rfl, ?_⟩
        refine hK.out _ _ ⟨hs1_1, hs2_1, hs3_1⟩ (fun hHeld => ?_)
        clear hK K
        refine norm_ (a' := ?_) ?_ ?_
        rotate_left
        · show Act.put _ (some 58) _ = _
          simp only [Act.put, List.setIfInBounds_toArray, List.set_cons_zero, List.set_cons_succ, i64_w, i32_w]
          rfl
        refine one_ (i := 11) (N := some 61) #[true, true, true, true, true, true, true, true, true, true, true, true, false, false, false] rfl rfl (by kernel_rfl) (by decide) (fun K hK => ?_)
        refine goes_ Tryz.func48 (by kernel_rfl) rfl #[.slice A1 L1 c1] (by rfl) rfl rfl (by simp only [List.map_toArray, List.map_cons, List.map_nil]; rfl) ?_
        refine (HLG2.out w2 HQ1.out.2.1 ⟨hs1_1, hs2_1, hs3_1⟩).mono ?_
        rintro e w3 ⟨Ax2, cx2, rfl, hq2, hs1_2, hs2_2, hs3_2⟩
        have HQ2 := Aside0.mk hq2
        clear hq2
        refine ⟨_, rfl, ?_⟩
        refine hK.out _ _ ⟨hs1_2, hs2_2, hs3_2⟩ (fun hHeld => ?_)
        clear hK K
        refine norm_ (a' := ?_) ?_ ?_
        rotate_left
        · show Act.put _ (some 61) _ = _
          simp only [Act.put, List.setIfInBounds_toArray, List.set_cons_zero, List.set_cons_succ, i64_w, i32_w]
          rfl
        refine pure_ (i := 12) (N := some 62) (v := ?_) (a' := ?_) #[true, true, true, true, true, true, true, true, true, true, true, true, true, false, false] rfl rfl (by kernel_rfl) (fun _ _ _ h => h) (Or.inl ⟨by rfl, ?_⟩) ?_ ?_
        rotate_left
        · intro w'
          go_simp
          with_reducible rfl
        rotate_left
        · simp only [Act.put, List.setIfInBounds_toArray, List.set_cons_zero, List.set_cons_succ, i64_w, i32_w]
          rfl
        refine one_ (i := 13) (N := some 63) #[true, true, true, true, true, true, true, true, true, true, true, true, true, true, false] rfl rfl (by kernel_rfl) (by decide) (fun K hK => ?_)
        obtain ⟨w4, hw4⟩ : ∃ w4, w4 = w3.alloc (.cells #[.slice Ax1 L1 cx1, .slice Ax2 L1 cx2] 105) := ⟨_, rfl⟩
        obtain ⟨w5, hrun, hP5, hturn5⟩ := HPM.out (.slice Ax1 L1 cx1) (.slice Ax2 L1 cx2) w3 w4 HQ2.out.2.1 hw4
        refine value_ (v := .pointer (some ⟨w3.heap.size, 0, none⟩)) (w1 := w4) (by rfl) rfl ?_ ?_
        · rw [hw4]; go_simp
        have h41 : w4.cell? ⟨d, 0, none⟩ = some (.map (some w.heap.size)) := by rw [hw4]; exact (World.cell?_alloc_lt w3 _ ⟨d, 0, none⟩ (World.block_lt_of_cell? _ _ hs1_2)).trans hs1_2
        have h42 : w4.cell? ⟨fb, 0, none⟩ = some (.string y.f0) := by rw [hw4]; exact (World.cell?_alloc_lt w3 _ ⟨fb, 0, none⟩ (World.block_lt_of_cell? _ _ hs2_2)).trans hs2_2
        have h43 : w4.cell? ⟨fb, 1, none⟩ = some (.slice A1 L1 c1) := by rw [hw4]; exact (World.cell?_alloc_lt w3 _ ⟨fb, 1, none⟩ (World.block_lt_of_cell? _ _ hs3_2)).trans hs3_2
        have HP5 := Aside0.mk (And.intro hP5 (And.intro hturn5 hw4))
        clear hP5 hturn5 hw4
        refine hK.out _ _ ⟨h41, h42, h43⟩ (fun hHeld => ?_)
        clear hK K
        refine norm_ (a' := ?_) ?_ ?_
        rotate_left
        · show Act.put _ (some 63) _ = _
          simp only [Act.put, List.setIfInBounds_toArray, List.set_cons_zero, List.set_cons_succ, i64_w, i32_w]
          rfl
        refine last_ (i := 14) (N := none) #[true, true, true, true, true, true, true, true, true, true, true, true, true, true, true] rfl rfl (by kernel_rfl) (by decide) (fun K hK => ?_)
        refine skip_ (w1 := w5) (by rfl) rfl ?_ ?_
        · go_simp
        refine hK.out _ _ ?_
        clear hK K
        refine done_ (by kernel_rfl) ?_
        go_wp2
        go_roundg k1
        case measure => omega
        case rel =>
          obtain ⟨hD, hcnt, hbw, hbel, hxi, hik, htk, hfx, hlt⟩ := HREST.out
          obtain ⟨hP5, hturn5, hw4⟩ := HP5.out
          obtain ⟨hR1, hB12, hB12'⟩ := HQ1.out
          obtain ⟨hR2, hB13, hB23⟩ := HQ2.out
          have hgr := hturn5.grown
          have s1 : wr.heap.size ≤ W1.heap.size := hbel.size
          have s2 : W1.heap.size ≤ w2.heap.size := hB12.size
          have s3 : w2.heap.size ≤ w3.heap.size := hB23.size
          have s4 : w4.heap.size = w3.heap.size + 1 := by rw [hw4]; simp
          have hbfw : w.heap.size < wr.heap.size := hD.hf.lt
          have old : ∀ k, k < w3.heap.size → k ≠ w.heap.size → w5.heap[k]? = w3.heap[k]? := fun k hk hne => (hgr.block k (by omega) (fun e => hne (Option.some.inj e))).trans (by rw [hw4]; exact Below.heap_alloc _ _ _ hk)
          have old2 : ∀ k, k < wr.heap.size → k ≠ w.heap.size → w5.heap[k]? = wr.heap[k]? := fun k hk hne => (old k (by omega) hne).trans ((hB13.block k (by omega)).trans (hbel.block k hk))
          have hcell : w5.heap[w3.heap.size]? = some (.cells #[.slice Ax1 L1 cx1, .slice Ax2 L1 cx2] 105 (0, 0)) := (hgr.block _ (by omega) (fun e => by have := Option.some.inj e; omega)).trans (by rw [hw4]; exact heap_alloc_new w3 _)
          have d1 : W1.drew.heap.size = W1.heap.size := rfl
          rw [d1] at hR1
          have hR1' : RB w5 (fun k => w.heap.size ≤ k) (.slice Ax1 L1 cx1) y.f1 := (RB.of_R hR1).same (fun k hk => by
            have h1 := (RB.of_R hR1).lt hk
            have h2 := hR1.1 k hk
            exact (old k (by omega) (by omega)).trans (hB23.block k h1)) (fun k hk => by have := hR1.1 k hk; omega)
          have hR2' : RB w5 (fun k => w.heap.size ≤ k) (.slice Ax2 L1 cx2) y.f1 := (RB.of_R hR2).same (fun k hk => by
            have h1 := (RB.of_R hR2).lt hk
            have h2 := hR2.1 k hk
            exact old k (by omega) (by omega)) (fun k hk => by have := hR2.1 k hk; omega)
          have hND := hD.insertF (w1 := w5) (x := nm y.f0) (g := w3.heap.size) hfx hP5 hcell (by omega) (fun k _ hk hne => old2 k hk hne) (by show w.heap.size ≤ w3.heap.size; omega) hR1' hR2' (fun b hb => by have := hR1.1 b hb; omega) (fun b hb => by have := hR2.1 b hb; omega) (fun b hb e => by have h1 := hR2.1 b hb; have h2 := (RB.of_R hR1).lt e; omega)
          rw [show ({ newM (l.take i) [] with fs := setF (newM (l.take i) []).fs (nm y.f0) (some (y.f1, y.f1)) } : DM) = newM (l.take (i + 1)) [] from by rw [htk]; unfold newM; rw [fsOf_snoc hlt]] at hND
          refine ⟨x1, rfl, ⟨i + 1, by rw [HX1.out]; omega, by omega, ⟨⟨_, _, _, _, hND⟩, ?_, ?_⟩⟩⟩
          · obtain ⟨n0, D0, hn0, hDm⟩ := hcnt
            exact ⟨n0, D0, hn0, ownsMap_at hDm (old2 _ hD.ht.lt (Ne.symm hD.ne))⟩
          · refine ⟨hgr.os.trans ?_, hgr.tape.trans ?_, hgr.output.trans ?_, ?_, fun k hk => (old2 k (by omega) (by omega)).trans (hbw.block k hk)⟩
            · rw [hw4]; exact hB13.os.trans (hbel.os.trans hbw.os)
            · rw [hw4]; exact hB13.tape.trans (hbel.tape.trans hbw.tape)
            · rw [hw4]; exact hB13.output.trans (hbel.output.trans hbw.output)
            · have := hgr.size; omega
end Go.Proofs.YtmdpgjdepflbmaaGreat
namespace Go.Proofs.YtmdpgjdepflbmaaGreat
open Go.RowKit Go.Maps Go.Proofs.YtmdpgjdepflbmaaGreatW.PrintWords Go.Proofs.YtmdpgjdepflbmaaGreatW.PrintLast Go.Proofs.YtmdpgjdepflbmaaGreatW.PrintMore
open Go.Proofs.YtmdpgjdepflbmaaGreat.PPagerFolds
set_option linter.unusedVariables false
set_option linter.unusedSimpArgs false


end Go.Proofs.YtmdpgjdepflbmaaGreat

/-
  What a crash finds of a file, as a plain function; the laws of copy and Equal that it goes by.
-/
namespace Go.Proofs.YtmdpgjdepflbmaaGreat
open Go.RowKit Go.Maps Go.Proofs.YtmdpgjdepflbmaaGreatW.PrintWords Go.Proofs.YtmdpgjdepflbmaaGreatW.PrintLast Go.Proofs.YtmdpgjdepflbmaaGreatW.PrintMore
open Go.Proofs.YtmdpgjdepflbmaaGreat.PPagerFolds
set_option linter.unusedVariables false
set_option linter.unusedSimpArgs false

end Go.Proofs.YtmdpgjdepflbmaaGreat
namespace Go.Proofs.YtmdpgjdepflbmaaGreat
open Go.RowKit Go.Maps Go.Proofs.YtmdpgjdepflbmaaGreatW.PrintWords Go.Proofs.YtmdpgjdepflbmaaGreatW.PrintLast Go.Proofs.YtmdpgjdepflbmaaGreatW.PrintMore
open Go.Proofs.YtmdpgjdepflbmaaGreat.PPagerFolds
set_option linter.unusedVariables false
set_option linter.unusedSimpArgs false

end Go.Proofs.YtmdpgjdepflbmaaGreat
namespace Go.Proofs.YtmdpgjdepflbmaaGreat
open Go.RowKit Go.Maps Go.Proofs.YtmdpgjdepflbmaaGreatW.PrintWords Go.Proofs.YtmdpgjdepflbmaaGreatW.PrintLast Go.Proofs.YtmdpgjdepflbmaaGreatW.PrintMore
open Go.Proofs.YtmdpgjdepflbmaaGreat.PPagerFolds
set_option linter.unusedVariables false
set_option linter.unusedSimpArgs false

end Go.Proofs.YtmdpgjdepflbmaaGreat
namespace Go.Proofs.YtmdpgjdepflbmaaGreat
open Go.RowKit Go.Maps Go.Proofs.YtmdpgjdepflbmaaGreatW.PrintWords Go.Proofs.YtmdpgjdepflbmaaGreatW.PrintLast Go.Proofs.YtmdpgjdepflbmaaGreatW.PrintMore
open Go.Proofs.YtmdpgjdepflbmaaGreat.PPagerFolds
set_option linter.unusedVariables false
set_option linter.unusedSimpArgs false

end Go.Proofs.YtmdpgjdepflbmaaGreat

/-
  Files and troubles as they come in, as plain functions; an empty disk; a new trouble.
-/
import Derived.Test.YtmdpgjdepflbmaaGreatCH
import Derived.Test.YtmdpgjdepflbmaaGreatCC
import Derived.ScopeJumps
import Derived.WalkMore
namespace Go.Proofs.YtmdpgjdepflbmaaGreat
open Go.RowKit Go.Maps Go.Proofs.YtmdpgjdepflbmaaGreatW.PrintWords Go.Proofs.YtmdpgjdepflbmaaGreatW.PrintLast Go.Proofs.YtmdpgjdepflbmaaGreatW.PrintMore
open Go.Proofs.YtmdpgjdepflbmaaGreat.PPagerFolds
set_option linter.unusedVariables false
set_option linter.unusedSimpArgs false

theorem less_nm (a b : ByteArray) : Op.bytesLess a.toList b.toList = decide (nm a < nm b) := by
  rw [bytesLess_eq, Lib.toList_data, Lib.toList_data]; rfl

/-- files that may come in -/
structure FilesOk (l : List S50) : Prop where
  few : l.length ≤ 16
  each : ∀ x ∈ l, GoodN x.f0 ∧ x.f1.length ≤ 4194304
  rise : l.Pairwise (fun x y => nm x.f0 < nm y.f0)
structure TroublesOk (t : List S39) : Prop where
  each : ∀ x ∈ t, 1 ≤ x.f0 ∧ 1 ≤ x.f1 ∧ x.f1 ≤ 3
  wf : ∀ x ∈ t, (Lit.int .i64 x.f0).wf = true

def fsOf (l : List S50) : Files := fun y => (l.find? (fun x => decide (nm x.f0 = y))).map (fun x => (x.f1, x.f1))
def trOf (t : List S39) : Int → Int := fun n => ((t.find? (fun x => decide (x.f0 = n))).map (fun x => x.f1)).getD 0
def newM (l : List S50) (t : List S39) : DM := { fs := fsOf l, tr := trOf t, st := 0, off := false }

theorem fsOf_none {l : List S50} {y : Name} (h : ∀ x ∈ l, nm x.f0 ≠ y) : fsOf l y = none := by
  unfold fsOf
  rw [List.find?_eq_none.2 (fun x hx => by simpa using h x hx)]; rfl
theorem fsOf_snoc {l : List S50} {x : S50} (h : ∀ z ∈ l, nm z.f0 ≠ nm x.f0) : fsOf (l ++ [x]) = setF (fsOf l) (nm x.f0) (some (x.f1, x.f1)) := by
  funext y
  unfold setF
  by_cases e : y = nm x.f0
  · subst e
    rw [if_pos rfl]
    unfold fsOf
    rw [List.find?_append, List.find?_eq_none.2 (fun z hz => by simpa using h z hz)]
    simp
  · rw [if_neg e]
    unfold fsOf
    rw [List.find?_append]
    have : List.find? (fun z => decide (nm z.f0 = y)) [x] = none := by simp; exact fun h => e h.symm
    rw [this]; simp
theorem fsOf_isL {l : List S50} (h : l.Pairwise (fun x y => nm x.f0 < nm y.f0)) : IsL (fsOf l) (l.map (fun x => nm x.f0)) := by
  refine ⟨List.pairwise_map.2 h, fun y => ?_⟩
  unfold fsOf
  rw [Option.isSome_map, List.find?_isSome, List.mem_map]
  simp
theorem trOf_snoc {l : List S39} {x : S39} (hl : ∀ z ∈ l, z.f1 ≠ 0) : trOf (l ++ [x]) = fun n => if n = x.f0 then (if trOf l n = 0 then x.f1 else trOf l n) else trOf l n := by
  funext n
  unfold trOf
  rw [List.find?_append]
  cases hf : List.find? (fun z => decide (z.f0 = n)) l with
  | some z =>
    have hz := hl z (List.mem_of_find?_eq_some hf)
    simp [hz]
  | none =>
    by_cases e : n = x.f0
    · subst e; simp
    · have : ¬ x.f0 = n := fun h => e h.symm
      simp [e, this]

/-- an empty disk -/
theorem DRep.empty (w : World) : DRep (((w.alloc (.map #[] 0)).alloc (.map #[] 0)).alloc (.cells #[.map (some w.heap.size), .map (some (w.heap.size + 1)), .int .i64 0, .bool false] 100)) (w.heap.size + 2) { fs := fun _ => none, tr := fun _ => 0, st := 0, off := false } (fun k => w.heap.size ≤ k) w.heap.size (w.heap.size + 1) (fun _ => none) (fun _ => .slice none 0 0) (fun _ => .slice none 0 0) 0 where
  hd := by show (((w.heap.push _).push _).push _)[_]? = _; exact fresh _ _ (by simp only [Array.size_push])
  hf := ((PMap.made Tryz.prog 9 w).move (w' := (w.alloc (.map #[] 0)).alloc (.map #[] 0)) (Below.heap_alloc _ _ _ (by simp))).move (Below.heap_alloc _ _ _ (by simp; omega))
  ht := by
    have := NMap.made Tryz.prog 3 3 (w.alloc (.map #[] 0))
    rw [show (w.alloc (.map #[] 0)).heap.size = w.heap.size + 1 from by simp] at this
    exact this.move (Below.heap_alloc _ _ _ (by simp))
  dom := fun _ => rfl
  file := fun _ _ _ h => by cases h
  inj := fun _ _ _ h => by cases h
  apart := fun _ _ _ _ _ h => by cases h
  ne := by omega
  okd := by omega
  okf := Nat.le_refl _
  okt := by omega
  okb := fun _ _ h => by cases h

section
variable {w w1 : World} {d : Nat} {M : DM} {ok : Nat → Prop} {bf bt : Nat} {blk : Name → Option Nat} {sv ev : Name → Value} {sz : Nat}
/-- the troubles are others -/
theorem DRep.setTr (h : DRep w d M ok bf bt blk sv ev sz) {tr : Int → Int} (ht : NMap Tryz.prog 3 3 w1 bt tr) (hk : ∀ k, ok k → k < w.heap.size → k ≠ bt → w1.heap[k]? = w.heap[k]?) :
    DRep w1 d { M with tr := tr } ok bf bt blk sv ev sz where
  hd := (hk d h.okd h.lt (Ne.symm (h.ht.not_cells h.hd))).trans h.hd
  hf := h.hf.move (hk bf h.okf h.hf.lt h.ne)
  ht := ht
  dom := h.dom
  file := fun x g f h1 h2 => by
    obtain ⟨a, b, c⟩ := h.file x g f h1 h2
    refine ⟨(hk g (h.okb x g h1) (heap_lt a) (Ne.symm (h.ht.not_cells a))).trans a, R_same b (fun k hkk => ?_) b.1, R_same c (fun k hkk => ?_) c.1⟩
    · obtain ⟨cs, hcs⟩ := R_block b hkk
      exact hk k (b.1 k hkk) (heap_lt hcs) (Ne.symm (h.ht.not_cells hcs))
    · obtain ⟨cs, hcs⟩ := R_block c hkk
      exact hk k (c.1 k hkk) (heap_lt hcs) (Ne.symm (h.ht.not_cells hcs))
  inj := h.inj
  apart := h.apart
  ne := h.ne
  okd := h.okd
  okf := h.okf
  okt := h.okt
  okb := h.okb

/-- a new file, of some bytes -/
theorem DRep.insertF (h : DRep w d M ok bf bt blk sv ev sz) {x : Name} {g : Nat} {sz' : Nat} {v1 v2 : Value} {l1 l2 : Bytes} (hx : M.fs x = none)
    (hP : PMap Tryz.prog 9 w1 bf (fun y => if y = x then some g else blk y) sz') (hg : w1.heap[g]? = some (.cells #[v1, v2] 105 (0, 0))) (hgs : w.heap.size ≤ g)
    (hk : ∀ k, ok k → k < w.heap.size → k ≠ bf → w1.heap[k]? = w.heap[k]?) (hokg : ok g)
    (hR1 : RB w1 ok v1 l1) (hR2 : RB w1 ok v2 l2) (hat1 : ∀ b, v1.ownBlock = some b → w.heap.size ≤ b) (hat2 : ∀ b, v2.ownBlock = some b → w.heap.size ≤ b) (hne : ∀ b, v2.ownBlock = some b → v1.ownBlock ≠ some b) :
    DRep w1 d { M with fs := setF M.fs x (some (l1, l2)) } ok bf bt (fun y => if y = x then some g else blk y) (fun y => if y = x then v1 else sv y) (fun y => if y = x then v2 else ev y) sz' := by
  have hbx : blk x = none := h.none_ hx
  unfold setF
  refine { hd := ?_, hf := hP, ht := ?_, dom := ?_, file := ?_, inj := ?_, apart := ?_, ne := h.ne, okd := h.okd, okf := h.okf, okt := h.okt, okb := ?_ }
  · exact (hk d h.okd h.lt (Ne.symm (h.hf.not_cells h.hd))).trans h.hd
  · exact h.ht.move (hk bt h.okt h.ht.lt (Ne.symm h.ne))
  · intro y
    by_cases e : y = x
    · subst e; simp
    · simp only [if_neg e]; exact h.dom y
  · intro y gy fy hy hfy
    by_cases e : y = x
    · subst e
      simp only [if_true] at hy hfy ⊢
      obtain rfl := Option.some.inj hy
      obtain rfl := Option.some.inj hfy
      exact ⟨hg, hR1, hR2⟩
    · simp only [if_neg e] at hy hfy ⊢
      obtain ⟨a, b, c⟩ := h.file y gy fy hy hfy
      refine ⟨(hk gy (h.okb y gy hy) (heap_lt a) (Ne.symm (h.hf.not_cells a))).trans a, R_same b (fun k hkk => ?_) b.1, R_same c (fun k hkk => ?_) c.1⟩
      · obtain ⟨cs, hcs⟩ := R_block b hkk
        exact hk k (b.1 k hkk) (heap_lt hcs) (Ne.symm (h.hf.not_cells hcs))
      · obtain ⟨cs, hcs⟩ := R_block c hkk
        exact hk k (c.1 k hkk) (heap_lt hcs) (Ne.symm (h.hf.not_cells hcs))
  · intro y z gz hy hz
    have hsmall : ∀ y gy, blk y = some gy → gy < w.heap.size := by
      intro y gy hy
      obtain ⟨fy, hfy⟩ := Option.isSome_iff_exists.1 ((h.dom y).symm.trans (by rw [hy]; rfl))
      exact heap_lt (h.file y gy fy hy hfy).1
    by_cases ey : y = x
    · by_cases ez : z = x
      · rw [ey, ez]
      · simp only [if_pos ey] at hy
        simp only [if_neg ez] at hz
        obtain rfl := Option.some.inj hy
        have := hsmall z _ hz; omega
    · by_cases ez : z = x
      · simp only [if_neg ey] at hy
        simp only [if_pos ez] at hz
        obtain rfl := Option.some.inj hz
        have := hsmall y _ hy; omega
      · simp only [if_neg ey] at hy
        simp only [if_neg ez] at hz
        exact h.inj y z gz hy hz
  · intro y z gy gz k hy hz hown
    by_cases ey : y = x
    · simp only [if_pos ey] at hown
      have hks := hat2 k hown
      by_cases ez : z = x
      · simp only [if_pos ez]
        exact ⟨hne k hown, fun e => absurd (ey.trans ez.symm) e⟩
      · simp only [if_neg ez] at hz ⊢
        refine ⟨fun e => ?_, fun _ e => ?_⟩
        · have := h.row_lt hz (.inl e); omega
        · have := h.row_lt hz (.inr e); omega
    · simp only [if_neg ey] at hy hown
      have hks := h.row_lt hy (.inr hown)
      by_cases ez : z = x
      · simp only [if_pos ez]
        refine ⟨fun e => ?_, fun _ e => ?_⟩
        · have := hat1 k e; omega
        · have := hat2 k e; omega
      · simp only [if_neg ez] at hz ⊢
        exact h.apart y z gy gz k hy hz hown
  · intro y gy hy
    by_cases ey : y = x
    · simp only [if_pos ey] at hy
      obtain rfl := Option.some.inj hy
      exact hokg
    · simp only [if_neg ey] at hy
      exact h.okb y gy hy
end
end Go.Proofs.YtmdpgjdepflbmaaGreat

/-
  The walk of New.
-/
namespace Go.Proofs.YtmdpgjdepflbmaaGreat
open Go.RowKit Go.Maps Go.Proofs.YtmdpgjdepflbmaaGreatW.PrintWords Go.Proofs.YtmdpgjdepflbmaaGreatW.PrintLast Go.Proofs.YtmdpgjdepflbmaaGreatW.PrintMore
open Go.Proofs.YtmdpgjdepflbmaaGreat.PPagerFolds
set_option linter.unusedVariables false
set_option linter.unusedSimpArgs false

theorem wf_small3 {y : Int} (h1 : 1 ≤ y) (h3 : y ≤ 3) : (Lit.int .i64 y).wf = true := WalkArith.wf_i64 (by omega)

/-- the disk that grows: the maps' blocks, and how many troubles were stored -/
def NewAt (w0 W : World) (M : DM) (j : Nat) : Prop :=
  (∃ blk sv ev sz, DRep W (w0.heap.size + 2) M (fun k => w0.heap.size ≤ k) w0.heap.size (w0.heap.size + 1) blk sv ev sz) ∧ (∃ n D, n ≤ j ∧ W.ownsMap (H := Unit) Tryz.prog 3 (plainElem Tryz.prog 3) (w0.heap.size + 1) n D) ∧ Below w0.heap.size w0 W

set_option maxHeartbeats 2000000 in
set_option maxRecDepth 100000 in
theorem new_ok {w : World} {A : Option Addr} {c : Nat} {l : List S50} {B : Option Addr} {cb : Nat} {t : List S39} (hl : Kd.C k50 w A l.length l) (hc : l.length ≤ c) (hB : Kd.C k39 w B t.length t) (hcb : t.length ≤ cb)
    (hF : FilesOk l) (hT : TroublesOk t) (ht : t.length < 1000000) :
    Calls Tryz.prog 13 #[.slice A l.length c, .slice B t.length cb] w fun e w' => e = .returned (.tuple #[dptr (w.heap.size + 2), .int .i64 0]) ∧ DiskAt w' (w.heap.size + 2) (newM l t) (fun k => w.heap.size ≤ k) ∧ Below w.heap.size w w' := by
  have HR := Aside0.mk hl
  have HTR := Aside0.mk hB
  have HF := Aside0.mk hF
  have HT := Aside0.mk hT
  have b16 : decide ((16 : Int) < (l.length : Int)) = false := by have := hF.few; simp; omega
  have hu50 := Tryz.underlying94
  have hu39 := Tryz.underlying76
  clear hl hB hF hT
  have HD0 : NewAt w (((w.alloc (.map #[] 0)).alloc (.map #[] 0)).alloc (.cells #[.map (some w.heap.size), .map (some (w.heap.size + 1)), .int .i64 0, .bool false] 100)) (newM [] []) 0 := by
    refine ⟨⟨_, _, _, _, DRep.empty w⟩, ⟨0, .map [], Nat.le_refl _, ?_⟩, ((Below.refl w.heap.size w).alloc (Nat.le_refl _) _).alloc (by simp) _ |>.alloc (by simp; omega) _⟩
    have := World.ownsMap_made (H := Unit) (w.alloc (.map #[] 0)) Tryz.prog 3 (plainElem Tryz.prog 3)
    rw [show (w.alloc (.map #[] 0)).heap.size = w.heap.size + 1 from by simp] at this
    exact ownsMap_at this (Below.heap_alloc _ _ _ (by simp))
  have HD := Aside0.mk HD0
  clear HD0
  have hmm := @run_makeMap Tryz.prog
  go_enter Tryz.func13, Tryz.ntmps13
  go_wp2
  obtain ⟨d, hd⟩ : ∃ d, d = w.heap.size + 1 + 1 := ⟨_, rfl⟩
  have HDd := Aside0.mk hd
  rw [← hd]
  clear hd hmm
  generalize hLn : l.length = Ln at *
  have HLn := Aside0.mk hLn
  clear hLn
  go_loopg [20] Ln (fun kq v20 w' => ∃ x : Int, v20 = .int .i64 x ∧ Aside0 (∃ i : Nat, x = i ∧ i + kq = Ln ∧ NewAt w w' (newM (l.take i) []) 0))
  case atStart => exact ⟨0, rfl, ⟨0, rfl, by omega, by simpa using HD.out⟩⟩
  case round =>
    clear HD
    obtain ⟨x, rfl, HI⟩ := hrel
    cases gk with
    | zero =>
      have c2b0 : decide (x < (Ln : Int)) = false := by obtain ⟨i, h1, h2, _⟩ := HI.out; simp; omega
      have HD : Aside0 (NewAt w wr (newM l []) 0) := by
        obtain ⟨i, h1, h2, h3⟩ := HI.out
        rw [List.take_of_length_le (by rw [HLn.out]; omega)] at h3
        exact ⟨h3⟩
      clear HI
      generalize hLt : t.length = Lt at *
      have HLt := Aside0.mk hLt
      clear hLt
      go_wp2
      clear c2b0
      go_loopg [67] Lt (fun kq v67 w' => ∃ x : Int, v67 = .int .i64 x ∧ Aside0 (∃ i : Nat, x = i ∧ i + kq = Lt ∧ NewAt w w' (newM l (t.take i)) i))
      case atStart => exact ⟨0, rfl, ⟨0, rfl, by omega, by simpa using HD.out⟩⟩
      case round =>
        clear HD
        obtain ⟨x, rfl, HI⟩ := hrel
        cases gk with
        | zero =>
          have c2b0 : decide (x < (Lt : Int)) = false := by obtain ⟨i, h1, h2, _⟩ := HI.out; simp; omega
          go_wp2
          go_ret2
          obtain ⟨i, h1, h2, ⟨⟨blk, sv, ev, sz, hD⟩, _, hb⟩⟩ := HI.out
          rw [List.take_of_length_le (by rw [HLt.out]; omega)] at hD
          exact ⟨by rw [HDd.out]; rfl, ⟨_, _, _, _, _, _, hD⟩, hb⟩
        | succ k1 =>
          have c2b0 : decide (x < (Lt : Int)) = true := by obtain ⟨i, h1, h2, _⟩ := HI.out; simp; omega
          have p256 : 0 ≤ x := by obtain ⟨i, h1, h2, _⟩ := HI.out; omega
          have q256 : x < (Lt : Int) := by obtain ⟨i, h1, h2, _⟩ := HI.out; omega
          obtain ⟨ad, e256, hx0, hx1⟩ := at_T39 HTR.out x p256 q256
          cases e256
          have HB : Aside0 (Below w.heap.size w wr) := by obtain ⟨i, h1, h2, h3⟩ := HI.out; exact ⟨h3.2.2⟩
          replace hx0 := (HB.out.cell (World.block_lt_of_cell? w _ hx0)).trans hx0
          replace hx1 := (HB.out.cell (World.block_lt_of_cell? w _ hx1)).trans hx1
          have hmem : rd_T39 t x ∈ t := by
            obtain ⟨i, h1, h2, _⟩ := HI.out
            unfold rd_T39; subst h1
            have h3 : i < t.length := (by rw [HLt.out]; omega)
            rw [List.getD_eq_getElem?_getD, Int.toNat_natCast, List.getElem?_eq_getElem h3]; exact List.getElem_mem h3
          obtain ⟨t1, t2, t3⟩ := HT.out.each _ hmem
          have twf := HT.out.wf _ hmem
          have HLtx : Aside0 (Lt < 1000000) := ⟨ht⟩
          generalize hy : rd_T39 t x = y at *
          have HY := Aside0.mk hy
          clear hy hmem
          have b1 : decide (y.f0 < 1) = false := by simp; omega
          have b2 : decide (y.f1 < 1) = false := by simp; omega
          have b3 : decide ((3 : Int) < y.f1) = false := by simp; omega
          obtain ⟨x1, hx1w⟩ : ∃ x1, IntKind.i64.wrap (x + 1) = x1 := ⟨_, rfl⟩
          have HX1 : Aside0 (x1 = x + 1) := ⟨by rw [← hx1w, IntKind.wrap_i64]; have := HLtx.out; omega⟩
          obtain ⟨i, hxi, hik, ⟨⟨blk, sv, ev, sz, hD⟩, ⟨n, D, hn, hcnt⟩, hbw⟩⟩ := HI.out
          have hiL : i < t.length := by rw [HLt.out]; omega
          have hyl : t[i]? = some y := by rw [← HY.out, hxi]; unfold rd_T39; rw [List.getD_eq_getElem?_getD, Int.toNat_natCast, List.getElem?_eq_getElem hiL]; rfl
          have htk : t.take (i + 1) = t.take i ++ [y] := by rw [List.take_add_one, hyl]; rfl
          have hne0 : ∀ z ∈ t.take i, z.f1 ≠ 0 := fun z hz => by have := (HT.out.each z (List.mem_of_mem_take hz)).2.1; omega
          have hsn := trOf_snoc (x := y) hne0
          have hbA : Below wr.heap.size wr (wr.alloc (.cells #[.int .i64 y.f0, .int .i64 y.f1] 76)) := (Below.refl _ wr).alloc (Nat.le_refl _) _
          have hDA := hD.move (w' := (wr.alloc (.cells #[.int .i64 y.f0, .int .i64 y.f1] 76)).drew) (fun k _ hk => hbA.block k hk)
          have hDB := hD.move (w' := (wr.alloc (.cells #[.int .i64 y.f0, .int .i64 y.f1] 76)).drew.drew) (fun k _ hk => hbA.block k hk)
          have hlk := hDA.ht.look Tryz.underlying3 Tryz.underlying3 Tryz.underlying98 zero3 twf
          obtain ⟨w5, hst, hN5, ⟨D5, hc5⟩, htd5⟩ := hDB.ht.store Tryz.underlying3 Tryz.underlying3 Tryz.underlying98 twf (wf_small3 t2 t3) ⟨D, ownsMap_at hcnt (hbA.block _ hD.ht.lt)⟩ (by have := HLtx.out; unfold maxLen; omega)
          have c1A := (hD.move (w' := wr.alloc (.cells #[.int .i64 y.f0, .int .i64 y.f1] 76)) (fun k _ hk => hbA.block k hk)).c1
          rw [show w.heap.size + 2 = d from HDd.out.symm] at c1A
          generalize htv : (newM l (t.take i)).tr y.f0 = tv at *
          have HREST := Aside0.mk (And.intro hD (And.intro hcnt (And.intro hn (And.intro hbw (And.intro hxi (And.intro hik (And.intro htk (And.intro hsn (And.intro htv (And.intro hN5 (And.intro hc5 (And.intro htd5 hbA))))))))))))
          clear hD hcnt hn hbw hxi hik htk hsn hDA hDB hN5 hc5 htd5 hiL hyl hne0 HI htv
          go_wp2
          by_cases ht0 : tv = 0
          · have q0 : (tv == (0 : Int)) = true := by simpa using ht0
            go_region
            go_wp2
            go_region
            go_wp2
            go_roundg k1
            case measure => omega
            case rel =>
              obtain ⟨hD, hcnt, hn, hbw, hxi, hik, htk, hsn, htv, hN5, hc5, htd5, hbA⟩ := HREST.out
              have hgr := htd5.grown
              have sA : (((wr.alloc (.cells #[.int .i64 y.f0, .int .i64 y.f1] 76)).drew).drew).heap.size = wr.heap.size + 1 := by show (wr.heap.push _).size = _; exact Array.size_push ..
              have old : ∀ k, k < wr.heap.size → k ≠ w.heap.size + 1 → w5.heap[k]? = wr.heap[k]? := fun k hk hne => (hgr.block k (by omega) (fun e => hne (Option.some.inj e))).trans (hbA.block k hk)
              have hND := hD.setTr (w1 := w5) hN5 (fun k _ hk hne => old k hk hne)
              have e2 : ({ newM l (t.take i) with tr := fun z => if z = y.f0 then y.f1 else (newM l (t.take i)).tr z } : DM) = newM l (t.take (i + 1)) := by
                have e3 : trOf (t.take i ++ [y]) = fun z => if z = y.f0 then y.f1 else trOf (t.take i) z := by
                  rw [hsn]
                  funext z
                  by_cases e : z = y.f0
                  · rw [if_pos e, if_pos e, if_pos (by rw [e]; show trOf (t.take i) y.f0 = 0; exact htv.trans ht0)]
                  · rw [if_neg e, if_neg e]
                show (⟨fsOf l, fun z => if z = y.f0 then y.f1 else trOf (t.take i) z, 0, false⟩ : DM) = ⟨fsOf l, trOf (t.take (i + 1)), 0, false⟩
                rw [htk, e3]
              rw [e2] at hND
              have hlt := hD.ht.lt
              refine ⟨x1, rfl, ⟨i + 1, by rw [HX1.out]; omega, by omega, ⟨⟨_, _, _, _, hND⟩, ⟨n + 1, D5, by omega, hc5⟩, ⟨hgr.os.trans (hbA.os.trans hbw.os), hgr.tape.trans (hbA.tape.trans hbw.tape), hgr.output.trans (hbA.output.trans hbw.output), ?_, fun k hk => (old k (by omega) (by omega)).trans (hbw.block k hk)⟩⟩⟩⟩
              have := hgr.size
              omega
          · have q0 : (tv == (0 : Int)) = false := by simpa using ht0
            go_region
            go_wp2
            go_roundg k1
            case measure => omega
            case rel =>
              obtain ⟨hD, hcnt, hn, hbw, hxi, hik, htk, hsn, htv, hN5, hc5, htd5, hbA⟩ := HREST.out
              have hND := hD.move (w' := (wr.alloc (.cells #[.int .i64 y.f0, .int .i64 y.f1] 76)).drew) (fun k _ hk => hbA.block k hk)
              have e2 : newM l (t.take i) = newM l (t.take (i + 1)) := by
                have e3 : trOf (t.take i ++ [y]) = trOf (t.take i) := by
                  rw [hsn]
                  funext z
                  by_cases e : z = y.f0
                  · rw [if_pos e, if_neg (by rw [e]; show ¬ trOf (t.take i) y.f0 = 0; intro h; exact ht0 (htv.symm.trans h))]
                  · rw [if_neg e]
                show (⟨fsOf l, trOf (t.take i), 0, false⟩ : DM) = ⟨fsOf l, trOf (t.take (i + 1)), 0, false⟩
                rw [htk, e3]
              rw [e2] at hND
              exact ⟨x1, rfl, ⟨i + 1, by rw [HX1.out]; omega, by omega, ⟨⟨_, _, _, _, hND⟩, ⟨n, D, by omega, ownsMap_at hcnt (hbA.block _ hD.ht.lt)⟩, (hbw.alloc hbw.size _).trans ⟨rfl, rfl, rfl, Nat.le_refl _, fun _ _ => rfl⟩⟩⟩⟩
    | succ k1 =>
      have c2b0 : decide (x < (Ln : Int)) = true := by obtain ⟨i, h1, h2, _⟩ := HI.out; simp; omega
      have p256 : 0 ≤ x := by obtain ⟨i, h1, h2, _⟩ := HI.out; omega
      have q256 : x < (Ln : Int) := by obtain ⟨i, h1, h2, _⟩ := HI.out; omega
      obtain ⟨ad, A1, c1, e256, hx0, hx1, hl1, hi1⟩ := at_T50 HR.out x p256 q256
      cases e256
      have HB : Aside0 (Below w.heap.size w wr) := by obtain ⟨i, h1, h2, h3⟩ := HI.out; exact ⟨h3.2.2⟩
      replace hx0 := (HB.out.cell (World.block_lt_of_cell? w _ hx0)).trans hx0
      replace hx1 := (HB.out.cell (World.block_lt_of_cell? w _ hx1)).trans hx1
      have hmem : rd_T50 l x ∈ l := by
        obtain ⟨i, h1, h2, _⟩ := HI.out
        unfold rd_T50; subst h1
        have h3 : i < l.length := (by rw [HLn.out]; omega)
        rw [List.getD_eq_getElem?_getD, Int.toNat_natCast, List.getElem?_eq_getElem h3]; exact List.getElem_mem h3
      have hLx : Ln ≤ 16 := by rw [← HLn.out]; exact HF.out.few
      have hmax := (HF.out.each _ hmem).2
      have HG := Aside0.mk (good_yes (HF.out.each _ hmem).1)
      have hlessx : ∀ z, 0 ≤ z → z = x - 1 → Op.bytesLess (rd_T50 l z).f0.toList (rd_T50 l x).f0.toList = true := by
        intro z hz0 hz
        obtain ⟨i, h1, h2, _⟩ := HI.out
        have h3 : i < l.length := (by rw [HLn.out]; omega)
        rw [less_nm]
        have h4 := List.pairwise_iff_getElem.1 HF.out.rise (i - 1) i (by omega) h3 (by omega)
        unfold rd_T50
        rw [List.getD_eq_getElem?_getD, List.getD_eq_getElem?_getD, show z.toNat = i - 1 from by omega, show x.toNat = i from by omega, List.getElem?_eq_getElem h3, List.getElem?_eq_getElem (show i - 1 < l.length by omega)]
        exact decide_eq_true h4
      generalize hy : rd_T50 l x = y at *
      have HY := Aside0.mk hy
      have HI1 := Aside0.mk hi1
      have HL1 := Aside0.mk hl1
      clear hy hmem hi1 hl1
      obtain ⟨x1, hx1w⟩ : ∃ x1, IntKind.i64.wrap (x + 1) = x1 := ⟨_, rfl⟩
      have HX1 : Aside0 (x1 = x + 1) := ⟨by rw [← hx1w, IntKind.wrap_i64]; omega⟩
      generalize hL1g : y.f1.length = L1 at *
      have b1 : decide ((4194304 : Int) < (L1 : Int)) = false := by simp; omega
      have HLg := Aside0.mk hL1g
      clear hL1g
      go_wp2
      by_cases h0 : 0 < x
      · have b2 : decide (0 < x) = true := decide_eq_true h0
        obtain ⟨z, hz⟩ : ∃ z, IntKind.i64.wrap (x - 1) = z := ⟨_, rfl⟩
        have hz' : z = x - 1 := by rw [← hz, IntKind.wrap_i64]; omega
        have p2 : 0 ≤ z := by omega
        have q2 : z < (Ln : Int) := by omega
        obtain ⟨ad2, A2, c2, e2, hz0, hz1, _, _⟩ := at_T50 HR.out z p2 q2
        cases e2
        replace hz0 := (HB.out.cell (World.block_lt_of_cell? w _ hz0)).trans hz0
        replace hz0 := (World.cell?_alloc_lt wr (.cells #[.string y.f0, .slice A1 L1 c1] 94) _ (World.block_lt_of_cell? wr _ hz0)).trans hz0
        have hless := hlessx z p2 hz'
        clear hlessx hz1 hz'
        go_quiet ((go_at_call 47; exact Calls.quiet_of (HG.out _)))
        go_wp2
        obtain ⟨W1, hW1⟩ : ∃ W1, W1 = (wr.alloc (.cells #[.string y.f0, .slice A1 L1 c1] 94)).drewN nq := ⟨_, rfl⟩
        rw [← hW1]
        obtain ⟨fb, hfb⟩ : ∃ fb, fb = wr.heap.size := ⟨_, rfl⟩
        rw [← hfb]
        have hbel : Below wr.heap.size wr W1 := by rw [hW1]; exact pw_below_drewN ((Below.refl wr.heap.size wr).alloc (Nat.le_refl _) _) _
        have hS1 : W1.cell? ⟨d, 0, none⟩ = some (.map (some w.heap.size)) := by
          obtain ⟨i, h1, h2, ⟨⟨blk, sv, ev, sz, hD⟩, _⟩⟩ := HI.out
          have h3 := hD.c0
          rw [show w.heap.size + 2 = d from HDd.out.symm] at h3
          exact (hbel.cell (World.block_lt_of_cell? _ _ h3)).trans h3
        have hS2 : W1.cell? ⟨fb, 0, none⟩ = some (.string y.f0) := by rw [hW1, hfb]; exact cell_of_row _ _ 0 _ 94 (0, 0) (heap_alloc_new wr _)
        have hS3 : W1.cell? ⟨fb, 1, none⟩ = some (.slice A1 L1 c1) := by rw [hW1, hfb]; exact cell_of_row _ _ 1 _ 94 (0, 0) (heap_alloc_new wr _)
        have LG : ∀ W2, Below W1.heap.size W1 W2 → (W2.cell? ⟨d, 0, none⟩ = some (.map (some w.heap.size)) ∧ W2.cell? ⟨fb, 0, none⟩ = some (.string y.f0) ∧ W2.cell? ⟨fb, 1, none⟩ = some (.slice A1 L1 c1)) →
            Calls Tryz.prog 48 #[.slice A1 L1 c1] W2 fun e w' => ∃ Ax cx, e = .returned (.slice Ax L1 cx) ∧ (U8.R 5 w' W2.heap.size (fun k => W2.heap.size ≤ k) (.slice Ax L1 cx) y.f1 ∧ Below W1.heap.size W1 w' ∧ Below W2.heap.size W2 w') ∧ w'.cell? ⟨d, 0, none⟩ = some (.map (some w.heap.size)) ∧ w'.cell? ⟨fb, 0, none⟩ = some (.string y.f0) ∧ w'.cell? ⟨fb, 1, none⟩ = some (.slice A1 L1 c1) := by
          intro W2 hb ⟨g1, g2, g3⟩
          have hC2 : U8.C W2 A1 L1 y.f1 := by
            have h1 : Below w.heap.size w W2 := HB.out.trans ((hbel.trans (hb.mono hbel.size)).mono HB.out.size)
            have := Kd.C_below HI1.out h1
            exact this
          refine (clone_any A1 L1 c1 y.f1 W2 (by unfold roomy; omega) hC2).mono ?_
          rintro e w' ⟨v, rfl, h1, h2⟩
          obtain ⟨Ax, cx, rfl⟩ := Kd.R_slice h1
          rw [HLg.out] at h1 ⊢
          exact ⟨Ax, cx, rfl, ⟨h1, hb.trans (h2.mono hb.size), h2⟩, (h2.cell (World.block_lt_of_cell? _ _ g1)).trans g1, (h2.cell (World.block_lt_of_cell? _ _ g2)).trans g2, (h2.cell (World.block_lt_of_cell? _ _ g3)).trans g3⟩
        obtain ⟨i, hxi, hik, ⟨⟨blk, sv, ev, sz, hD⟩, hcnt, hbw⟩⟩ := HI.out
        have hiL : i < l.length := by rw [HLn.out]; omega
        have hyl : l[i]? = some y := by rw [← HY.out, hxi]; unfold rd_T50; rw [List.getD_eq_getElem?_getD, Int.toNat_natCast, List.getElem?_eq_getElem hiL]; rfl
        have htk : l.take (i + 1) = l.take i ++ [y] := by rw [List.take_add_one, hyl]; rfl
        have hlt : ∀ z ∈ l.take i, nm z.f0 ≠ nm y.f0 := by
          have h1 := HF.out.rise.sublist (List.take_sublist (i + 1) l)
          rw [htk] at h1
          intro z hz e
          have := (List.pairwise_append.1 h1).2.2 z hz y (by simp)
          rw [e] at this
          exact List.lt_irrefl _ this
        have hfx : (newM (l.take i) []).fs (nm y.f0) = none := fsOf_none hlt
        have hszl : sz ≤ 16 := by
          have h1 := hD.sz_eq (fsOf_isL (HF.out.rise.sublist (List.take_sublist i l))).1 (fsOf_isL (HF.out.rise.sublist (List.take_sublist i l))).2
          have h2 := HF.out.few
          simp at h1
          omega
        have hyg := (HF.out.each y (List.mem_of_getElem? hyl)).1
        have PM : ∀ (v1 v2 : Value) w3 w4, Below W1.heap.size W1 w3 → w4 = w3.alloc (.cells #[v1, v2] 105) → ∃ w5, (Instr.mapUpdate 97 (.map (some w.heap.size)) (.string y.f0) (.pointer (some ⟨w3.heap.size, 0, none⟩))).run Tryz.prog w4 = .ok () w5 ∧ PMap Tryz.prog 9 w5 w.heap.size (fun z => if z = nm y.f0 then some w3.heap.size else blk z) (if (blk (nm y.f0)).isSome then sz else sz + 1) ∧ w4.mapTurned w5 w.heap.size := by
          intro v1 v2 w3 w4 hb hw4
          have h1 : Below wr.heap.size wr w4 := by
            rw [hw4]
            exact (hbel.trans (hb.mono hbel.size)).alloc ((hbel.trans (hb.mono hbel.size)).size) _
          exact (hD.hf.move (h1.block _ hD.hf.lt)).store Tryz.underlying9 Tryz.underlying97 (s := y.f0) (by have := hyg.2.2; unfold maxLen; omega) (by unfold maxLen; omega) w3.heap.size
        have HLG1 := Aside0.mk (LG W1.drew ⟨rfl, rfl, rfl, Nat.le_refl _, fun _ _ => rfl⟩ ⟨hS1, hS2, hS3⟩)
        have HLG2 := Aside0.mk LG
        have HPM := Aside0.mk PM
        have HREST := Aside0.mk (And.intro hD (And.intro hcnt (And.intro hbw (And.intro hbel (And.intro hxi (And.intro hik (And.intro htk (And.intro hfx hlt))))))))
        have HW1 := Aside0.mk (And.intro hW1 hfb)
        clear LG PM hD hcnt hbw hbel hxi hik htk hfx hlt hW1 hfb hyl hiL hszl hyg hx0 hx1 hz0 hz b2 p2 q2 hless h0
        refine start_ (n := 15) (S := fun w' => w'.cell? ⟨d, 0, none⟩ = some (.map (some w.heap.size)) ∧ w'.cell? ⟨fb, 0, none⟩ = some (.string y.f0) ∧ w'.cell? ⟨fb, 1, none⟩ = some (.slice A1 L1 c1)) (ds := [14]) #[false, false, false, false, false, false, false, false, false, false, false, false, false, false, false] (by kernel_rfl) rfl rfl ⟨hS1, hS2, hS3⟩ (fun hHeld => ?_)
        refine pure_ (i := 0) (N := some 50) (v := ?_) (a' := ?_) #[true, false, false, false, false, false, false, false, false, false, false, false, false, false, false] rfl rfl (by kernel_rfl) (fun _ _ _ h => h) (Or.inl ⟨by rfl, ?_⟩) ?_ ?_
        rotate_left
        · intro w'
          go_simp
          with_reducible rfl
        rotate_left
        · simp only [Act.put, List.setIfInBounds_toArray, List.set_cons_zero, List.set_cons_succ, i64_w, i32_w]
          rfl
        refine pure_ (i := 1) (N := some 51) (v := ?_) (a' := ?_) #[true, true, false, false, false, false, false, false, false, false, false, false, false, false, false] rfl rfl (by kernel_rfl) (fun _ _ _ h => h) (Or.inl ⟨by rfl, ?_⟩) ?_ ?_
        rotate_left
        · intro w'
          go_simp
          with_reducible rfl
        rotate_left
        · simp only [Act.put, List.setIfInBounds_toArray, List.set_cons_zero, List.set_cons_succ, i64_w, i32_w]
          rfl
        refine pure_ (i := 2) (N := some 52) (v := ?_) (a' := ?_) #[true, true, true, false, false, false, false, false, false, false, false, false, false, false, false] rfl rfl (by kernel_rfl) (fun _ _ _ h => h) (Or.inl ⟨by rfl, ?_⟩) ?_ ?_
        rotate_left
        · intro w'
          go_simp
          with_reducible rfl
        rotate_left
        · simp only [Act.put, List.setIfInBounds_toArray, List.set_cons_zero, List.set_cons_succ, i64_w, i32_w]
          rfl
        refine take_ (i := 3) (N := some 53) (v := ?_) (a' := ?_) #[true, true, true, true, false, false, false, false, false, false, false, false, false, false, false] rfl rfl (by kernel_rfl) (fun _ _ _ h => h) (Or.inl ⟨by rfl, ?_⟩) hHeld ?_ ?_
        rotate_left
        · rintro w' ⟨s0, s1, s2⟩
          go_simp
          with_reducible rfl
        rotate_left
        · simp only [Act.put, List.setIfInBounds_toArray, List.set_cons_zero, List.set_cons_succ, i64_w, i32_w]
          rfl
        refine pure_ (i := 4) (N := some 54) (v := ?_) (a' := ?_) #[true, true, true, true, true, false, false, false, false, false, false, false, false, false, false] rfl rfl (by kernel_rfl) (fun _ _ _ h => h) (Or.inl ⟨by rfl, ?_⟩) ?_ ?_
        rotate_left
        · intro w'
          go_simp
          with_reducible rfl
        rotate_left
        · simp only [Act.put, List.setIfInBounds_toArray, List.set_cons_zero, List.set_cons_succ, i64_w, i32_w]
          rfl
        refine take_ (i := 5) (N := some 55) (v := ?_) (a' := ?_) #[true, true, true, true, true, true, false, false, false, false, false, false, false, false, false] rfl rfl (by kernel_rfl) (fun _ _ _ h => h) (Or.inl ⟨by rfl, ?_⟩) hHeld ?_ ?_
        rotate_left
        · rintro w' ⟨s0, s1, s2⟩
          go_simp
          with_reducible rfl
        rotate_left
        · simp only [Act.put, List.setIfInBounds_toArray, List.set_cons_zero, List.set_cons_succ, i64_w, i32_w]
          rfl
        refine pure_ (i := 6) (N := some 56) (v := ?_) (a' := ?_) #[true, true, true, true, true, true, true, false, false, false, false, false, false, false, false] rfl rfl (by kernel_rfl) (fun _ _ _ h => h) (Or.inl ⟨by rfl, ?_⟩) ?_ ?_
        rotate_left
        · intro w'
          go_simp
          with_reducible rfl
        rotate_left
        · simp only [Act.put, List.setIfInBounds_toArray, List.set_cons_zero, List.set_cons_succ, i64_w, i32_w]
          rfl
        refine take_ (i := 7) (N := some 57) (v := ?_) (a' := ?_) #[true, true, true, true, true, true, true, true, false, false, false, false, false, false, false] rfl rfl (by kernel_rfl) (fun _ _ _ h => h) (Or.inl ⟨by rfl, ?_⟩) hHeld ?_ ?_
        rotate_left
        · rintro w' ⟨s0, s1, s2⟩
          go_simp
          with_reducible rfl
        rotate_left
        · simp only [Act.put, List.setIfInBounds_toArray, List.set_cons_zero, List.set_cons_succ, i64_w, i32_w]
          rfl
        refine pure_ (i := 9) (N := some 59) (v := ?_) (a' := ?_) #[true, true, true, true, true, true, true, true, false, true, false, false, false, false, false] rfl rfl (by kernel_rfl) (fun _ _ _ h => h) (Or.inl ⟨by rfl, ?_⟩) ?_ ?_
        rotate_left
        · intro w'
          go_simp
          with_reducible rfl
        rotate_left
        · simp only [Act.put, List.setIfInBounds_toArray, List.set_cons_zero, List.set_cons_succ, i64_w, i32_w]
          rfl
        refine take_ (i := 10) (N := some 60) (v := ?_) (a' := ?_) #[true, true, true, true, true, true, true, true, false, true, true, false, false, false, false] rfl rfl (by kernel_rfl) (fun _ _ _ h => h) (Or.inl ⟨by rfl, ?_⟩) hHeld ?_ ?_
        rotate_left
        · rintro w' ⟨s0, s1, s2⟩
          go_simp
          with_reducible rfl
        rotate_left
        · simp only [Act.put, List.setIfInBounds_toArray, List.set_cons_zero, List.set_cons_succ, i64_w, i32_w]
          rfl
        refine one_ (i := 8) (N := some 58) #[true, true, true, true, true, true, true, true, true, true, true, false, false, false, false] rfl rfl (by kernel_rfl) (by decide) (fun K hK => ?_)
        refine goes_ Tryz.func48 (by kernel_rfl) rfl #[.slice A1 L1 c1] (by rfl) rfl rfl (by simp only [List.map_toArray, List.map_cons, List.map_nil]; rfl) ?_
        refine (HLG1.out).mono ?_
        rintro e w2 ⟨Ax1, cx1, rfl, hq1, hs1_1, hs2_1, hs3_1⟩
        have HQ1 := Aside0.mk hq1
        clear hq1
        refine ⟨_, rfl, ?_⟩
        refine hK.out _ _ ⟨hs1_1, hs2_1, hs3_1⟩ (fun hHeld => ?_)
        clear hK K
        refine norm_ (a' := ?_) ?_ ?_
        rotate_left
        · show Act.put _ (some 58) _ = _
          simp only [Act.put, List.setIfInBounds_toArray, List.set_cons_zero, List.set_cons_succ, i64_w, i32_w]
          rfl
        refine one_ (i := 11) (N := some 61) #[true, true, true, true, true, true, true, true, true, true, true, true, false, false, false] rfl rfl (by kernel_rfl) (by decide) (fun K hK => ?_)
        refine goes_ Tryz.func48 (by kernel_rfl) rfl #[.slice A1 L1 c1] (by rfl) rfl rfl (by simp only [List.map_toArray, List.map_cons, List.map_nil]; rfl) ?_
        refine (HLG2.out w2 HQ1.out.2.1 ⟨hs1_1, hs2_1, hs3_1⟩).mono ?_
        rintro e w3 ⟨Ax2, cx2, rfl, hq2, hs1_2, hs2_2, hs3_2⟩
        have HQ2 := Aside0.mk hq2
        clear hq2
        refine ⟨_, rfl, ?_⟩
        refine hK.out _ _ ⟨hs1_2, hs2_2, hs3_2⟩ (fun hHeld => ?_)
        clear hK K
        refine norm_ (a' := ?_) ?_ ?_
        rotate_left
        · show Act.put _ (some 61) _ = _
          simp only [Act.put, List.setIfInBounds_toArray, List.set_cons_zero, List.set_cons_succ, i64_w, i32_w]
          rfl
        refine pure_ (i := 12) (N := some 62) (v := ?_) (a' := ?_) #[true, true, true, true, true, true, true, true, true, true, true, true, true, false, false] rfl rfl (by kernel_rfl) (fun _ _ _ h => h) (Or.inl ⟨by rfl, ?_⟩) ?_ ?_
        rotate_left
        · intro w'
          go_simp
          with_reducible rfl
        rotate_left
        · simp only [Act.put, List.setIfInBounds_toArray, List.set_cons_zero, List.set_cons_succ, i64_w, i32_w]
          rfl
        refine one_ (i := 13) (N := some 63) #[true, true, true, true, true, true, true, true, true, true, true, true, true, true, false] rfl rfl (by kernel_rfl) (by decide) (fun K hK => ?_)
        obtain ⟨w4, hw4⟩ : ∃ w4, w4 = w3.alloc (.cells #[.slice Ax1 L1 cx1, .slice Ax2 L1 cx2] 105) := ⟨_, rfl⟩
        obtain ⟨w5, hrun, hP5, hturn5⟩ := HPM.out (.slice Ax1 L1 cx1) (.slice Ax2 L1 cx2) w3 w4 HQ2.out.2.1 hw4
        refine value_ (v := .pointer (some ⟨w3.heap.size, 0, none⟩)) (w1 := w4) (by rfl) rfl ?_ ?_
        · rw [hw4]; go_simp
        have h41 : w4.cell? ⟨d, 0, none⟩ = some (.map (some w.heap.size)) := by rw [hw4]; exact (World.cell?_alloc_lt w3 _ ⟨d, 0, none⟩ (World.block_lt_of_cell? _ _ hs1_2)).trans hs1_2
        have h42 : w4.cell? ⟨fb, 0, none⟩ = some (.string y.f0) := by rw [hw4]; exact (World.cell?_alloc_lt w3 _ ⟨fb, 0, none⟩ (World.block_lt_of_cell? _ _ hs2_2)).trans hs2_2
        have h43 : w4.cell? ⟨fb, 1, none⟩ = some (.slice A1 L1 c1) := by rw [hw4]; exact (World.cell?_alloc_lt w3 _ ⟨fb, 1, none⟩ (World.block_lt_of_cell? _ _ hs3_2)).trans hs3_2
        have HP5 := Aside0.mk (And.intro hP5 (And.intro hturn5 hw4))
        clear hP5 hturn5 hw4
        refine hK.out _ _ ⟨h41, h42, h43⟩ (fun hHeld => ?_)
        clear hK K
        refine norm_ (a' := ?_) ?_ ?_
        rotate_left
        · show Act.put _ (some 63) _ = _
          simp only [Act.put, List.setIfInBounds_toArray, List.set_cons_zero, List.set_cons_succ, i64_w, i32_w]
          rfl
        refine last_ (i := 14) (N := none) #[true, true, true, true, true, true, true, true, true, true, true, true, true, true, true] rfl rfl (by kernel_rfl) (by decide) (fun K hK => ?_)
        refine skip_ (w1 := w5) (by rfl) rfl ?_ ?_
        · go_simp
        refine hK.out _ _ ?_
        clear hK K
        refine done_ (by kernel_rfl) ?_
        go_wp2
        go_roundg k1
        case measure => omega
        case rel =>
          obtain ⟨hD, hcnt, hbw, hbel, hxi, hik, htk, hfx, hlt⟩ := HREST.out
          obtain ⟨hP5, hturn5, hw4⟩ := HP5.out
          obtain ⟨hR1, hB12, hB12'⟩ := HQ1.out
          obtain ⟨hR2, hB13, hB23⟩ := HQ2.out
          have hgr := hturn5.grown
          have s1 : wr.heap.size ≤ W1.heap.size := hbel.size
          have s2 : W1.heap.size ≤ w2.heap.size := hB12.size
          have s3 : w2.heap.size ≤ w3.heap.size := hB23.size
          have s4 : w4.heap.size = w3.heap.size + 1 := by rw [hw4]; simp
          have hbfw : w.heap.size < wr.heap.size := hD.hf.lt
          have old : ∀ k, k < w3.heap.size → k ≠ w.heap.size → w5.heap[k]? = w3.heap[k]? := fun k hk hne => (hgr.block k (by omega) (fun e => hne (Option.some.inj e))).trans (by rw [hw4]; exact Below.heap_alloc _ _ _ hk)
          have old2 : ∀ k, k < wr.heap.size → k ≠ w.heap.size → w5.heap[k]? = wr.heap[k]? := fun k hk hne => (old k (by omega) hne).trans ((hB13.block k (by omega)).trans (hbel.block k hk))
          have hcell : w5.heap[w3.heap.size]? = some (.cells #[.slice Ax1 L1 cx1, .slice Ax2 L1 cx2] 105 (0, 0)) := (hgr.block _ (by omega) (fun e => by have := Option.some.inj e; omega)).trans (by rw [hw4]; exact heap_alloc_new w3 _)
          have d1 : W1.drew.heap.size = W1.heap.size := rfl
          rw [d1] at hR1
          have hR1' : RB w5 (fun k => w.heap.size ≤ k) (.slice Ax1 L1 cx1) y.f1 := (RB.of_R hR1).same (fun k hk => by
            have h1 := (RB.of_R hR1).lt hk
            have h2 := hR1.1 k hk
            exact (old k (by omega) (by omega)).trans (hB23.block k h1)) (fun k hk => by have := hR1.1 k hk; omega)
          have hR2' : RB w5 (fun k => w.heap.size ≤ k) (.slice Ax2 L1 cx2) y.f1 := (RB.of_R hR2).same (fun k hk => by
            have h1 := (RB.of_R hR2).lt hk
            have h2 := hR2.1 k hk
            exact old k (by omega) (by omega)) (fun k hk => by have := hR2.1 k hk; omega)
          have hND := hD.insertF (w1 := w5) (x := nm y.f0) (g := w3.heap.size) hfx hP5 hcell (by omega) (fun k _ hk hne => old2 k hk hne) (by show w.heap.size ≤ w3.heap.size; omega) hR1' hR2' (fun b hb => by have := hR1.1 b hb; omega) (fun b hb => by have := hR2.1 b hb; omega) (fun b hb e => by have h1 := hR2.1 b hb; have h2 := (RB.of_R hR1).lt e; omega)
          rw [show ({ newM (l.take i) [] with fs := setF (newM (l.take i) []).fs (nm y.f0) (some (y.f1, y.f1)) } : DM) = newM (l.take (i + 1)) [] from by rw [htk]; unfold newM; rw [fsOf_snoc hlt]] at hND
          refine ⟨x1, rfl, ⟨i + 1, by rw [HX1.out]; omega, by omega, ⟨⟨_, _, _, _, hND⟩, ?_, ?_⟩⟩⟩
          · obtain ⟨n0, D0, hn0, hDm⟩ := hcnt
            exact ⟨n0, D0, hn0, ownsMap_at hDm (old2 _ hD.ht.lt (Ne.symm hD.ne))⟩
          · refine ⟨hgr.os.trans ?_, hgr.tape.trans ?_, hgr.output.trans ?_, ?_, fun k hk => (old2 k (by omega) (by omega)).trans (hbw.block k hk)⟩
            · rw [hw4]; exact hB13.os.trans (hbel.os.trans hbw.os)
            · rw [hw4]; exact hB13.tape.trans (hbel.tape.trans hbw.tape)
            · rw [hw4]; exact hB13.output.trans (hbel.output.trans hbw.output)
            · have := hgr.size; omega
      · have b2 : decide (0 < x) = false := decide_eq_false h0
        clear hlessx
        go_quiet ((go_at_call 47; exact Calls.quiet_of (HG.out _)))
        go_wp2
        obtain ⟨W1, hW1⟩ : ∃ W1, W1 = (wr.alloc (.cells #[.string y.f0, .slice A1 L1 c1] 94)).drewN nq := ⟨_, rfl⟩
        rw [← hW1]
        obtain ⟨fb, hfb⟩ : ∃ fb, fb = wr.heap.size := ⟨_, rfl⟩
        rw [← hfb]
        have hbel : Below wr.heap.size wr W1 := by rw [hW1]; exact pw_below_drewN ((Below.refl wr.heap.size wr).alloc (Nat.le_refl _) _) _
        have hS1 : W1.cell? ⟨d, 0, none⟩ = some (.map (some w.heap.size)) := by
          obtain ⟨i, h1, h2, ⟨⟨blk, sv, ev, sz, hD⟩, _⟩⟩ := HI.out
          have h3 := hD.c0
          rw [show w.heap.size + 2 = d from HDd.out.symm] at h3
          exact (hbel.cell (World.block_lt_of_cell? _ _ h3)).trans h3
        have hS2 : W1.cell? ⟨fb, 0, none⟩ = some (.string y.f0) := by rw [hW1, hfb]; exact cell_of_row _ _ 0 _ 94 (0, 0) (heap_alloc_new wr _)
        have hS3 : W1.cell? ⟨fb, 1, none⟩ = some (.slice A1 L1 c1) := by rw [hW1, hfb]; exact cell_of_row _ _ 1 _ 94 (0, 0) (heap_alloc_new wr _)
        have LG : ∀ W2, Below W1.heap.size W1 W2 → (W2.cell? ⟨d, 0, none⟩ = some (.map (some w.heap.size)) ∧ W2.cell? ⟨fb, 0, none⟩ = some (.string y.f0) ∧ W2.cell? ⟨fb, 1, none⟩ = some (.slice A1 L1 c1)) →
            Calls Tryz.prog 48 #[.slice A1 L1 c1] W2 fun e w' => ∃ Ax cx, e = .returned (.slice Ax L1 cx) ∧ (U8.R 5 w' W2.heap.size (fun k => W2.heap.size ≤ k) (.slice Ax L1 cx) y.f1 ∧ Below W1.heap.size W1 w' ∧ Below W2.heap.size W2 w') ∧ w'.cell? ⟨d, 0, none⟩ = some (.map (some w.heap.size)) ∧ w'.cell? ⟨fb, 0, none⟩ = some (.string y.f0) ∧ w'.cell? ⟨fb, 1, none⟩ = some (.slice A1 L1 c1) := by
          intro W2 hb ⟨g1, g2, g3⟩
          have hC2 : U8.C W2 A1 L1 y.f1 := by
            have h1 : Below w.heap.size w W2 := HB.out.trans ((hbel.trans (hb.mono hbel.size)).mono HB.out.size)
            have := Kd.C_below HI1.out h1
            exact this
          refine (clone_any A1 L1 c1 y.f1 W2 (by unfold roomy; omega) hC2).mono ?_
          rintro e w' ⟨v, rfl, h1, h2⟩
          obtain ⟨Ax, cx, rfl⟩ := Kd.R_slice h1
          rw [HLg.out] at h1 ⊢
          exact ⟨Ax, cx, rfl, ⟨h1, hb.trans (h2.mono hb.size), h2⟩, (h2.cell (World.block_lt_of_cell? _ _ g1)).trans g1, (h2.cell (World.block_lt_of_cell? _ _ g2)).trans g2, (h2.cell (World.block_lt_of_cell? _ _ g3)).trans g3⟩
        obtain ⟨i, hxi, hik, ⟨⟨blk, sv, ev, sz, hD⟩, hcnt, hbw⟩⟩ := HI.out
        have hiL : i < l.length := by rw [HLn.out]; omega
        have hyl : l[i]? = some y := by rw [← HY.out, hxi]; unfold rd_T50; rw [List.getD_eq_getElem?_getD, Int.toNat_natCast, List.getElem?_eq_getElem hiL]; rfl
        have htk : l.take (i + 1) = l.take i ++ [y] := by rw [List.take_add_one, hyl]; rfl
        have hlt : ∀ z ∈ l.take i, nm z.f0 ≠ nm y.f0 := by
          have h1 := HF.out.rise.sublist (List.take_sublist (i + 1) l)
          rw [htk] at h1
          intro z hz e
          have := (List.pairwise_append.1 h1).2.2 z hz y (by simp)
          rw [e] at this
          exact List.lt_irrefl _ this
        have hfx : (newM (l.take i) []).fs (nm y.f0) = none := fsOf_none hlt
        have hszl : sz ≤ 16 := by
          have h1 := hD.sz_eq (fsOf_isL (HF.out.rise.sublist (List.take_sublist i l))).1 (fsOf_isL (HF.out.rise.sublist (List.take_sublist i l))).2
          have h2 := HF.out.few
          simp at h1
          omega
        have hyg := (HF.out.each y (List.mem_of_getElem? hyl)).1
        have PM : ∀ (v1 v2 : Value) w3 w4, Below W1.heap.size W1 w3 → w4 = w3.alloc (.cells #[v1, v2] 105) → ∃ w5, (Instr.mapUpdate 97 (.map (some w.heap.size)) (.string y.f0) (.pointer (some ⟨w3.heap.size, 0, none⟩))).run Tryz.prog w4 = .ok () w5 ∧ PMap Tryz.prog 9 w5 w.heap.size (fun z => if z = nm y.f0 then some w3.heap.size else blk z) (if (blk (nm y.f0)).isSome then sz else sz + 1) ∧ w4.mapTurned w5 w.heap.size := by
          intro v1 v2 w3 w4 hb hw4
          have h1 : Below wr.heap.size wr w4 := by
            rw [hw4]
            exact (hbel.trans (hb.mono hbel.size)).alloc ((hbel.trans (hb.mono hbel.size)).size) _
          exact (hD.hf.move (h1.block _ hD.hf.lt)).store Tryz.underlying9 Tryz.underlying97 (s := y.f0) (by have := hyg.2.2; unfold maxLen; omega) (by unfold maxLen; omega) w3.heap.size
        have HLG1 := Aside0.mk (LG W1.drew ⟨rfl, rfl, rfl, Nat.le_refl _, fun _ _ => rfl⟩ ⟨hS1, hS2, hS3⟩)
        have HLG2 := Aside0.mk LG
        have HPM := Aside0.mk PM
        have HREST := Aside0.mk (And.intro hD (And.intro hcnt (And.intro hbw (And.intro hbel (And.intro hxi (And.intro hik (And.intro htk (And.intro hfx hlt))))))))
        have HW1 := Aside0.mk (And.intro hW1 hfb)
        clear LG PM hD hcnt hbw hbel hxi hik htk hfx hlt hW1 hfb hyl hiL hszl hyg hx0 hx1 b2 h0
        refine start_ (n := 15) (S := fun w' => w'.cell? ⟨d, 0, none⟩ = some (.map (some w.heap.size)) ∧ w'.cell? ⟨fb, 0, none⟩ = some (.string y.f0) ∧ w'.cell? ⟨fb, 1, none⟩ = some (.slice A1 L1 c1)) (ds := [14]) #[false, false, false, false, false, false, false, false, false, false, false, false, false, false, false] (by kernel_rfl) rfl rfl ⟨hS1, hS2, hS3⟩ (fun hHeld => ?_)
        refine pure_ (i := 0) (N := some 50) (v := ?_) (a' := ?_) #[true, false, false, false, false, false, false, false, false, false, false, false, false, false, false] rfl rfl (by kernel_rfl) (fun _ _ _ h => h) (Or.inl ⟨by rfl, ?_⟩) ?_ ?_
        rotate_left
        · intro w'
          go_simp
          with_reducible rfl
        rotate_left
        · simp only [Act.put, List.setIfInBounds_toArray, List.set_cons_zero, List.set_cons_succ, i64_w, i32_w]
          rfl
        refine pure_ (i := 1) (N := some 51) (v := ?_) (a' := ?_) #[true, true, false, false, false, false, false, false, false, false, false, false, false, false, false] rfl rfl (by kernel_rfl) (fun _ _ _ h => h) (Or.inl ⟨by rfl, ?_⟩) ?_ ?_
        rotate_left
        · intro w'
          go_simp
          with_reducible rfl
        rotate_left
        · simp only [Act.put, List.setIfInBounds_toArray, List.set_cons_zero, List.set_cons_succ, i64_w, i32_w]
          rfl
        refine pure_ (i := 2) (N := some 52) (v := ?_) (a' := ?_) #[true, true, true, false, false, false, false, false, false, false, false, false, false, false, false] rfl rfl (by kernel_rfl) (fun _ _ _ h => h) (Or.inl ⟨by rfl, ?_⟩) ?_ ?_
        rotate_left
        · intro w'
          go_simp
          with_reducible rfl
        rotate_left
        · simp only [Act.put, List.setIfInBounds_toArray, List.set_cons_zero, List.set_cons_succ, i64_w, i32_w]
          rfl
        refine take_ (i := 3) (N := some 53) (v := ?_) (a' := ?_) #[true, true, true, true, false, false, false, false, false, false, false, false, false, false, false] rfl rfl (by kernel_rfl) (fun _ _ _ h => h) (Or.inl ⟨by rfl, ?_⟩) hHeld ?_ ?_
        rotate_left
        · rintro w' ⟨s0, s1, s2⟩
          go_simp
          with_reducible rfl
        rotate_left
        · simp only [Act.put, List.setIfInBounds_toArray, List.set_cons_zero, List.set_cons_succ, i64_w, i32_w]
          rfl
        refine pure_ (i := 4) (N := some 54) (v := ?_) (a' := ?_) #[true, true, true, true, true, false, false, false, false, false, false, false, false, false, false] rfl rfl (by kernel_rfl) (fun _ _ _ h => h) (Or.inl ⟨by rfl, ?_⟩) ?_ ?_
        rotate_left
        · intro w'
          go_simp
          with_reducible rfl
        rotate_left
        · simp only [Act.put, List.setIfInBounds_toArray, List.set_cons_zero, List.set_cons_succ, i64_w, i32_w]
          rfl
        refine take_ (i := 5) (N := some 55) (v := ?_) (a' := ?_) #[true, true, true, true, true, true, false, false, false, false, false, false, false, false, false] rfl rfl (by kernel_rfl) (fun _ _ _ h => h) (Or.inl ⟨by rfl, ?_⟩) hHeld ?_ ?_
        rotate_left
        · rintro w' ⟨s0, s1, s2⟩
          go_simp
          with_reducible rfl
        rotate_left
        · simp only [Act.put, List.setIfInBounds_toArray, List.set_cons_zero, List.set_cons_succ, i64_w, i32_w]
          rfl
        refine pure_ (i := 6) (N := some 56) (v := ?_) (a' := ?_) #[true, true, true, true, true, true, true, false, false, false, false, false, false, false, false] rfl rfl (by kernel_rfl) (fun _ _ _ h => h) (Or.inl ⟨by rfl, ?_⟩) ?_ ?_
        rotate_left
        · intro w'
          go_simp
          with_reducible rfl
        rotate_left
        · simp only [Act.put, List.setIfInBounds_toArray, List.set_cons_zero, List.set_cons_succ, i64_w, i32_w]
          rfl
        refine take_ (i := 7) (N := some 57) (v := ?_) (a' := ?_) #[true, true, true, true, true, true, true, true, false, false, false, false, false, false, false] rfl rfl (by kernel_rfl) (fun _ _ _ h => h) (Or.inl ⟨by rfl, ?_⟩) hHeld ?_ ?_
        rotate_left
        · rintro w' ⟨s0, s1, s2⟩
          go_simp
          with_reducible rfl
        rotate_left
        · simp only [Act.put, List.setIfInBounds_toArray, List.set_cons_zero, List.set_cons_succ, i64_w, i32_w]
          rfl
        refine pure_ (i := 9) (N := some 59) (v := ?_) (a' := ?_) #[true, true, true, true, true, true, true, true, false, true, false, false, false, false, false] rfl rfl (by kernel_rfl) (fun _ _ _ h => h) (Or.inl ⟨by rfl, ?_⟩) ?_ ?_
        rotate_left
        · intro w'
          go_simp
          with_reducible rfl
        rotate_left
        · simp only [Act.put, List.setIfInBounds_toArray, List.set_cons_zero, List.set_cons_succ, i64_w, i32_w]
          rfl
        refine take_ (i := 10) (N := some 60) (v := ?_) (a' := ?_) #[true, true, true, true, true, true, true, true, false, true, true, false, false, false, false] rfl rfl (by kernel_rfl) (fun _ _ _ h => h) (Or.inl ⟨by rfl, ?_⟩) hHeld ?_ ?_
        rotate_left
        · rintro w' ⟨s0, s1, s2⟩
          go_simp
          with_reducible rfl
        rotate_left
        · simp only [Act.put, List.setIfInBounds_toArray, List.set_cons_zero, List.set_cons_succ, i64_w, i32_w]
          rfl
        refine one_ (i := 8) (N := some 58) #[true, true, true, true, true, true, true, true, true, true, true, false, false, false, false] rfl rfl (by kernel_rfl) (by decide) (fun K hK => ?_)
        refine goes_ Tryz.func48 (by kernel_rfl) rfl #[.slice A1 L1 c1] (by rfl) rfl rfl (by simp only [List.map_toArray, List.map_cons, List.map_nil]; rfl) ?_
        refine (HLG1.out).mono ?_
        rintro e w2 ⟨Ax1, cx1, rfl, hq1, hs1_1, hs2_1, hs3_1⟩
        have HQ1 := Aside0.mk hq1
        clear hq1
        refine ⟨_, rfl, ?_⟩
        refine hK.out _ _ ⟨hs1_1, hs2_1, hs3_1⟩ (fun hHeld => ?_)
        clear hK K
        refine norm_ (a' := ?_) ?_ ?_
        rotate_left
        · show Act.put _ (some 58) _ = _
          simp only [Act.put, List.setIfInBounds_toArray, List.set_cons_zero, List.set_cons_succ, i64_w, i32_w]
          rfl
        refine one_ (i := 11) (N := some 61) #[true, true, true, true, true, true, true, true, true, true, true, true, false, false, false] rfl rfl (by kernel_rfl) (by decide) (fun K hK => ?_)
        refine goes_ Tryz.func48 (by kernel_rfl) rfl #[.slice A1 L1 c1] (by rfl) rfl rfl (by simp only [List.map_toArray, List.map_cons, List.map_nil]; rfl) ?_
        refine (HLG2.out w2 HQ1.out.2.1 ⟨hs1_1, hs2_1, hs3_1⟩).mono ?_
        rintro e w3 ⟨Ax2, cx2, rfl, hq2, hs1_2, hs2_2, hs3_2⟩
        have HQ2 := Aside0.mk hq2
        clear hq2
        refine ⟨_, rfl, ?_⟩
        refine hK.out _ _ ⟨hs1_2, hs2_2, hs3_2⟩ (fun hHeld => ?_)
        clear hK K
        refine norm_ (a' := ?_) ?_ ?_
        rotate_left
        · show Act.put _ (some 61) _ = _
          simp only [Act.put, List.setIfInBounds_toArray, List.set_cons_zero, List.set_cons_succ, i64_w, i32_w]
          rfl
        refine pure_ (i := 12) (N := some 62) (v := ?_) (a' := ?_) #[true, true, true, true, true, true, true, true, true, true, true, true, true, false, false] rfl rfl (by kernel_rfl) (fun _ _ _ h => h) (Or.inl ⟨by rfl, ?_⟩) ?_ ?_
        rotate_left
        · intro w'
          go_simp
          with_reducible rfl
        rotate_left
        · simp only [Act.put, List.setIfInBounds_toArray, List.set_cons_zero, List.set_cons_succ, i64_w, i32_w]
          rfl
        refine one_ (i := 13) (N := some 63) #[true, true, true, true, true, true, true, true, true, true, true, true, true, true, false] rfl rfl (by kernel_rfl) (by decide) (fun K hK => ?_)
        obtain ⟨w4, hw4⟩ : ∃ w4, w4 = w3.alloc (.cells #[.slice Ax1 L1 cx1, .slice Ax2 L1 cx2] 105) := ⟨_, rfl⟩
        obtain ⟨w5, hrun, hP5, hturn5⟩ := HPM.out (.slice Ax1 L1 cx1) (.slice Ax2 L1 cx2) w3 w4 HQ2.out.2.1 hw4
        refine value_ (v := .pointer (some ⟨w3.heap.size, 0, none⟩)) (w1 := w4) (by rfl) rfl ?_ ?_
        · rw [hw4]; go_simp
        have h41 : w4.cell? ⟨d, 0, none⟩ = some (.map (some w.heap.size)) := by rw [hw4]; exact (World.cell?_alloc_lt w3 _ ⟨d, 0, none⟩ (World.block_lt_of_cell? _ _ hs1_2)).trans hs1_2
        have h42 : w4.cell? ⟨fb, 0, none⟩ = some (.string y.f0) := by rw [hw4]; exact (World.cell?_alloc_lt w3 _ ⟨fb, 0, none⟩ (World.block_lt_of_cell? _ _ hs2_2)).trans hs2_2
        have h43 : w4.cell? ⟨fb, 1, none⟩ = some (.slice A1 L1 c1) := by rw [hw4]; exact (World.cell?_alloc_lt w3 _ ⟨fb, 1, none⟩ (World.block_lt_of_cell? _ _ hs3_2)).trans hs3_2
        have HP5 := Aside0.mk (And.intro hP5 (And.intro hturn5 hw4))
        clear hP5 hturn5 hw4
        refine hK.out _ _ ⟨h41, h42, h43⟩ (fun hHeld => ?_)
        clear hK K
        refine norm_ (a' := ?_) ?_ ?_
        rotate_left
        · show Act.put _ (some 63) _ = _
          simp only [Act.put, List.setIfInBounds_toArray, List.set_cons_zero, List.set_cons_succ, i64_w, i32_w]
          rfl
        refine last_ (i := 14) (N := none) #[true, true, true, true, true, true, true, true, true, true, true, true, true, true, true] rfl rfl (by kernel_rfl) (by decide) (fun K hK => ?_)
        refine skip_ (w1 := w5) (by rfl) rfl ?_ ?_
        · go_simp
        refine hK.out _ _ ?_
        clear hK K
        refine done_ (by kernel_rfl) ?_
        go_wp2
        go_roundg k1
        case measure => omega
        case rel =>
          obtain ⟨hD, hcnt, hbw, hbel, hxi, hik, htk, hfx, hlt⟩ := HREST.out
          obtain ⟨hP5, hturn5, hw4⟩ := HP5.out
          obtain ⟨hR1, hB12, hB12'⟩ := HQ1.out
          obtain ⟨hR2, hB13, hB23⟩ := HQ2.out
          have hgr := hturn5.grown
          have s1 : wr.heap.size ≤ W1.heap.size := hbel.size
          have s2 : W1.heap.size ≤ w2.heap.size := hB12.size
          have s3 : w2.heap.size ≤ w3.heap.size := hB23.size
          have s4 : w4.heap.size = w3.heap.size + 1 := by rw [hw4]; simp
          have hbfw : w.heap.size < wr.heap.size := hD.hf.lt
          have old : ∀ k, k < w3.heap.size → k ≠ w.heap.size → w5.heap[k]? = w3.heap[k]? := fun k hk hne => (hgr.block k (by omega) (fun e => hne (Option.some.inj e))).trans (by rw [hw4]; exact Below.heap_alloc _ _ _ hk)
          have old2 : ∀ k, k < wr.heap.size → k ≠ w.heap.size → w5.heap[k]? = wr.heap[k]? := fun k hk hne => (old k (by omega) hne).trans ((hB13.block k (by omega)).trans (hbel.block k hk))
          have hcell : w5.heap[w3.heap.size]? = some (.cells #[.slice Ax1 L1 cx1, .slice Ax2 L1 cx2] 105 (0, 0)) := (hgr.block _ (by omega) (fun e => by have := Option.some.inj e; omega)).trans (by rw [hw4]; exact heap_alloc_new w3 _)
          have d1 : W1.drew.heap.size = W1.heap.size := rfl
          rw [d1] at hR1
          have hR1' : RB w5 (fun k => w.heap.size ≤ k) (.slice Ax1 L1 cx1) y.f1 := (RB.of_R hR1).same (fun k hk => by
            have h1 := (RB.of_R hR1).lt hk
            have h2 := hR1.1 k hk
            exact (old k (by omega) (by omega)).trans (hB23.block k h1)) (fun k hk => by have := hR1.1 k hk; omega)
          have hR2' : RB w5 (fun k => w.heap.size ≤ k) (.slice Ax2 L1 cx2) y.f1 := (RB.of_R hR2).same (fun k hk => by
            have h1 := (RB.of_R hR2).lt hk
            have h2 := hR2.1 k hk
            exact old k (by omega) (by omega)) (fun k hk => by have := hR2.1 k hk; omega)
          have hND := hD.insertF (w1 := w5) (x := nm y.f0) (g := w3.heap.size) hfx hP5 hcell (by omega) (fun k _ hk hne => old2 k hk hne) (by show w.heap.size ≤ w3.heap.size; omega) hR1' hR2' (fun b hb => by have := hR1.1 b hb; omega) (fun b hb => by have := hR2.1 b hb; omega) (fun b hb e => by have h1 := hR2.1 b hb; have h2 := (RB.of_R hR1).lt e; omega)
          rw [show ({ newM (l.take i) [] with fs := setF (newM (l.take i) []).fs (nm y.f0) (some (y.f1, y.f1)) } : DM) = newM (l.take (i + 1)) [] from by rw [htk]; unfold newM; rw [fsOf_snoc hlt]] at hND
          refine ⟨x1, rfl, ⟨i + 1, by rw [HX1.out]; omega, by omega, ⟨⟨_, _, _, _, hND⟩, ?_, ?_⟩⟩⟩
          · obtain ⟨n0, D0, hn0, hDm⟩ := hcnt
            exact ⟨n0, D0, hn0, ownsMap_at hDm (old2 _ hD.ht.lt (Ne.symm hD.ne))⟩
          · refine ⟨hgr.os.trans ?_, hgr.tape.trans ?_, hgr.output.trans ?_, ?_, fun k hk => (old2 k (by omega) (by omega)).trans (hbw.block k hk)⟩
            · rw [hw4]; exact hB13.os.trans (hbel.os.trans hbw.os)
            · rw [hw4]; exact hB13.tape.trans (hbel.tape.trans hbw.tape)
            · rw [hw4]; exact hB13.output.trans (hbel.output.trans hbw.output)
            · have := hgr.size; omega
end Go.Proofs.YtmdpgjdepflbmaaGreat
namespace Go.Proofs.YtmdpgjdepflbmaaGreat
open Go.RowKit Go.Maps Go.Proofs.YtmdpgjdepflbmaaGreatW.PrintWords Go.Proofs.YtmdpgjdepflbmaaGreatW.PrintLast Go.Proofs.YtmdpgjdepflbmaaGreatW.PrintMore
open Go.Proofs.YtmdpgjdepflbmaaGreat.PPagerFolds
set_option linter.unusedVariables false
set_option linter.unusedSimpArgs false


def nextP : List Int → Int × List Int
  | [] => (0, [])
  | p :: r => (p, r)
def modR (p n : Int) : Int := ((disk_modulo.f p n).getD (0, 0)).1
def modT (p n : Int) : Int := ((disk_modulo.f p n).getD (0, 0)).2

theorem mod_some {p n : Int} (hn : n ≠ 0) : disk_modulo.f p n = some (modR p n, modT p n) := by
  unfold modR modT disk_modulo.f
  rw [if_neg hn]
  split <;> rfl
theorem tmod_bounds (p n : Int) (h0 : 0 < n) : -n < Int.tmod p n ∧ Int.tmod p n < n := by
  have h1 := Int.natAbs_tmod p n
  have h2 : Nat.mod p.natAbs n.natAbs < n.natAbs := Nat.mod_lt _ (by omega)
  have h3 : (Int.tmod p n).natAbs < n.natAbs := by rw [h1]; exact h2
  omega
theorem modR_range {p n : Int} (h0 : 0 < n) (h1 : n ≤ 1000) : 0 ≤ modR p n ∧ modR p n < n := by
  have hb := tmod_bounds p n h0
  have hw : wrap64 (Int.tmod p n + n) = Int.tmod p n + n := by unfold wrap64; omega
  have hr : modR p n = Int.tmod (Int.tmod p n + n) n := by
    unfold modR disk_modulo.f
    rw [if_neg (by omega), hw]
    split <;> rfl
  rw [hr]
  have h2 := tmod_bounds (Int.tmod p n + n) n h0
  have h3 : 0 ≤ Int.tmod (Int.tmod p n + n) n := Int.tmod_nonneg _ (by omega)
  omega
theorem mod_any {p n : Int} (hn : n ≠ 0) (w : World) :
    Calls Tryz.prog 99 #[.int .i64 p, .int .i64 n] w fun e w' => e = .returned (.tuple #[.int .i64 (modR p n), .int .i64 (modT p n)]) ∧ ∃ k, w' = w.drewN k :=
  (disk_modulo.calls p n _ _ w (mod_some hn)).mono fun e w' ⟨he, hw⟩ => ⟨he, hw.out⟩

/-- the box of the picks -/
def PBox (B : Nat) (w : World) (bp : Nat) (l : List Int) : Prop := bp < B ∧ B ≤ w.heap.size ∧ ∃ A c, w.heap[bp]? = some (.cells #[.slice A l.length c] 60 (0, 0)) ∧ I64.C w A l.length l ∧ l.length ≤ c ∧ ∀ ad, 0 < l.length → A = some ad → ad.block ≠ bp ∧ ad.block < B
theorem C_keep {w w' : World} {A : Option Addr} {n : Nat} {l : List Int} (hC : I64.C w A n l) (hm : ∀ ad, 0 < n → A = some ad → w'.heap[ad.block]? = w.heap[ad.block]?) : I64.C w' A n l := by
  refine ⟨hC.1, hC.2.1, fun hn => ?_⟩
  obtain ⟨ad, rfl, hc⟩ := hC.2.2 hn
  refine ⟨ad, rfl, fun j p hj => ?_⟩
  obtain ⟨c, hl, hK, hcell⟩ := hc j p hj
  refine ⟨c, hl, hK, fun i u hu => ?_⟩
  have hb : (ad.add (j * I64.sz + i)).block = ad.block := by unfold Addr.add; split <;> rfl
  refine (World.cell?_of_block ?_).trans (hcell i u hu)
  rw [hb]
  exact hm ad hn rfl
theorem PBox.keep {B : Nat} {w w' : World} {bp : Nat} {l : List Int} (h : PBox B w bp l) (hm : ∀ k, k < B → w'.heap[k]? = w.heap[k]?) (hs : w.heap.size ≤ w'.heap.size) : PBox B w' bp l := by
  obtain ⟨hb, hB, A, c, h1, h2, h3, h4⟩ := h
  exact ⟨hb, by omega, A, c, (hm bp hb).trans h1, C_keep h2 (fun ad hn e => hm _ (h4 ad hn e).2), h3, h4⟩

theorem next_any {B : Nat} {w : World} {bp : Nat} {l : List Int} (h : PBox B w bp l) :
    Calls Tryz.prog 63 #[bptr bp] w fun e w' => e = .returned (.int .i64 (nextP l).1) ∧ PBox B w' bp (nextP l).2 ∧ Fr (fun k => k = bp) w w' := by
  have HP := Aside0.mk h
  obtain ⟨hbB, hBw, A, c, h1, h2, h3, h4⟩ := h
  have cb : w.cell? ⟨bp, 0, none⟩ = some (.slice A l.length c) := cell_of_row w bp 0 _ 60 (0, 0) h1
  have fb : w.frozen? ⟨bp, 0, none⟩ = false := frozen_of_cells h1 0
  cases l with
  | nil =>
    clear h1 h2 h3 h4 hbB hBw
    go_enter Tryz.func63, Tryz.ntmps63
    go_wp2
    go_ret
    exact ⟨rfl, HP.out, Fr.refl _ _⟩
  | cons p r =>
    obtain ⟨i3, hi, hz⟩ := Option.map_eq_some_iff.1 PPagesModel.info3
    simp only [Prod.mk.injEq] at hz
    have hcut := cut_from (P := Tryz.prog) 60 3 .i64 Tryz.underlying60 hi 1 hz.2.1 A (p :: r).length c (1 : Int) (by omega) (by simp; omega)
    have hdr := Kd.C_drop h2 (show 1 ≤ (p :: r).length by simp) h3
    obtain ⟨ad, rfl, hcell⟩ := h2.2.2 (by simp)
    obtain ⟨cc, hl, hK, hc0⟩ := hcell 0 p rfl
    have hcc : cc = [Value.int .i64 p] := hK
    subst hcc
    have hp0 := hc0 0 _ rfl
    have e0 : ad.add (0 * I64.sz + 0) = ad := by simp [Addr.add]
    rw [e0] at hp0
    obtain ⟨A2, hA2⟩ : ∃ A2, A2 = (if c = 1 then some ad else Option.map (fun x => x.add (1 * 1)) (some ad)) := ⟨_, rfl⟩
    obtain ⟨c2, hc2⟩ : ∃ c2, c2 = c - 1 := ⟨_, rfl⟩
    have hcut2 : ∀ W : World, (Instr.slice 60 (.slice (some ad) (p :: r).length c) (some (.int .i64 1)) none none).run Tryz.prog W = .ok (.slice A2 r.length c2) W := by
      intro W
      rw [hcut W, hA2, hc2]
      rfl
    have hdr2 : I64.C w A2 r.length r := by rw [hA2]; exact hdr
    have hat2 : ∀ ad', A2 = some ad' → ad'.block = ad.block := by
      intro ad' e
      rw [hA2] at e
      split at e
      · exact (congrArg Addr.block (Option.some.inj e)).symm
      · have := Option.some.inj e
        rw [← this]
        unfold Addr.add; split <;> rfl
    have HR := Aside0.mk (And.intro h1 (And.intro h3 (And.intro h4 (And.intro hdr2 (And.intro hat2 (And.intro hc2 (And.intro hbB hBw)))))))
    have hlen0 : 0 < (p :: r).length := by simp
    have e1 : ad.add 0 = ad := by simp [Addr.add]
    clear h1 h2 h3 h4 hdr hcell hc0 hi hz hl hK hcut hA2 hc2 hdr2 hat2 e0 hbB hBw
    have hL := Aside0.mk (show (p :: r).length = r.length + 1 from rfl)
    generalize (p :: r).length = L at *
    generalize hrl : r.length = R at *
    have HRL := Aside0.mk hrl
    clear hrl
    go_enter Tryz.func63, Tryz.ntmps63
    go_wp2
    go_region
    go_wp2
    go_ret
    obtain ⟨h1, h3, h4, hdr2, hat2, hc2, hbB, hBw⟩ := HR.out
    have hb := h4 ad (by have := hL.out; omega) rfl
    refine ⟨rfl, ⟨hbB, by show B ≤ (w.setCell ⟨bp, 0, none⟩ _).heap.size; simpa [World.setCell] using hBw, A2, c2, ?_, ?_, ?_, ?_⟩, ?_⟩
    · show (w.setCell ⟨bp, 0, none⟩ _).heap[bp]? = _
      rw [show (nextP (p :: r)).2.length = R from HRL.out]
      simp [World.setCell, Array.getElem?_modify, h1]
    · rw [show (nextP (p :: r)).2 = r from rfl, HRL.out]
      exact C_keep hdr2 (fun ad' _ e => by
        refine Below.heap_setCell _ _ _ _ ?_
        rw [hat2 ad' e]; exact hb.1)
    · rw [show (nextP (p :: r)).2 = r from rfl, HRL.out]
      have := hL.out; omega
    · intro ad' _ e
      rw [hat2 ad' e]
      exact hb
    · exact ((Fr.refl (fun k => k = bp) w).drew).set_ (p := ⟨bp, 0, none⟩) (.inl rfl) _
end Go.Proofs.YtmdpgjdepflbmaaGreat

/-
  What a crash finds of a file, as a plain function; the laws of copy and Equal that it goes by.
-/
namespace Go.Proofs.YtmdpgjdepflbmaaGreat
open Go.RowKit Go.Maps Go.Proofs.YtmdpgjdepflbmaaGreatW.PrintWords Go.Proofs.YtmdpgjdepflbmaaGreatW.PrintLast Go.Proofs.YtmdpgjdepflbmaaGreatW.PrintMore
open Go.Proofs.YtmdpgjdepflbmaaGreat.PPagerFolds
set_option linter.unusedVariables false
set_option linter.unusedSimpArgs false

def lenF (f : Bytes × Bytes) (ps : List Int) : Nat × List Int :=
  if f.2.length = f.1.length then (f.1.length, ps)
  else (if modR (nextP ps).1 2 = 1 then f.2.length else f.1.length, (nextP ps).2)
/-- how many bytes of a sector are the seen ones -/
def secN (p : Int) : Nat := if modR p 3 = 1 then 64 else if modR p 3 = 2 then (modR (modT p 3) 65).toNat else 0
def sector (seen cur : Bytes) (k stop : Nat) (ps : List Int) : Bytes × List Int :=
  if (cur.drop k).take (stop - k) = (seen.drop k).take (stop - k) then (cur, ps)
  else (splice cur k ((seen.drop k).take (min (k + secN (nextP ps).1) stop - k)), (nextP ps).2)
def secs (seen : Bytes) (e k : Nat) (cur : Bytes) (ps : List Int) : Bytes × List Int :=
  if k < e then secs seen e (k + 64) (sector seen cur k (min (k + 64) e) ps).1 (sector seen cur k (min (k + 64) e) ps).2 else (cur, ps)
termination_by e - k
def foundF (f : Bytes × Bytes) (ps : List Int) : Bytes × List Int :=
  let e := max f.1.length f.2.length
  let r := secs (padTo f.2 e) e 0 (padTo f.1 e) (lenF f ps).2
  (r.1.take (lenF f ps).1, r.2)

theorem equal_l0 (x y : Bytes) (hl : x.length = y.length) (hb : x.length ≤ 9223372036854775806) (d : Nat) : ∀ (k : Nat) (i : Nat), x.length - i = d → i ≤ x.length → d < k →
    slices_Equal_byte_byte.l0 k x y x.length i = some (decide (x.drop i = y.drop i)) := by
  induction d with
  | zero =>
    intro k i hd hi hk
    obtain ⟨k, rfl⟩ : ∃ j, k = j + 1 := ⟨k - 1, by omega⟩
    unfold slices_Equal_byte_byte.l0
    rw [if_neg (by omega), List.drop_eq_nil_of_le (by omega), List.drop_eq_nil_of_le (by omega)]
    simp
  | succ d ih =>
    intro k i hd hi hk
    obtain ⟨k, rfl⟩ : ∃ j, k = j + 1 := ⟨k - 1, by omega⟩
    unfold slices_Equal_byte_byte.l0
    have hx : i < x.length := by omega
    have hy : i < y.length := by omega
    rw [if_pos (by omega), if_pos (by omega), if_pos (by omega), if_pos (by omega)]
    have hw : wrap64 ((i : Int) + 1) = ((i + 1 : Nat) : Int) := by unfold wrap64; omega
    rw [hw, ih k (i + 1) (by omega) (by omega) (by omega)]
    have e1 : rd x (i : Int) = x[i] := by unfold rd; rw [Int.toNat_natCast, List.getD_eq_getElem?_getD, List.getElem?_eq_getElem hx]; rfl
    have e2 : rd y (i : Int) = y[i] := by unfold rd; rw [Int.toNat_natCast, List.getD_eq_getElem?_getD, List.getElem?_eq_getElem hy]; rfl
    have d1 := List.drop_eq_getElem_cons hx
    have d2 := List.drop_eq_getElem_cons hy
    rw [e1, e2]
    by_cases e : x[i] = y[i]
    · rw [if_pos e]
      congr 1
      rw [decide_eq_decide, d1, d2, e]
      exact ⟨fun h => by rw [h], fun h => by injection h⟩
    · rw [if_neg e]
      congr 1
      symm
      rw [decide_eq_false_iff_not, d1, d2]
      intro h
      injection h with h1 _
      exact e h1

theorem equal_found {w : World} {A1 A2 : Option Addr} {n1 n2 c1 c2 : Nat} {x y : Bytes} (h1 : U8.C w A1 n1 x) (hc1 : n1 ≤ c1) (h2 : U8.C w A2 n2 y) (hc2 : n2 ≤ c2) (hl : n1 = n2) (hb : n1 ≤ 8388608) :
    Calls Tryz.prog 90 #[.slice A1 n1 c1, .slice A2 n2 c2] w fun e w' => e = .returned (.bool (decide (x = y))) ∧ ∃ k, w' = w.drewN k := by
  obtain rfl : x.length = n1 := h1.1
  obtain rfl : y.length = n2 := h2.1
  have hf : slices_Equal_byte_byte.f (x.length + 1) x y = some (decide (x = y)) := by
    unfold slices_Equal_byte_byte.f
    rw [if_pos (by rw [hl])]
    have := equal_l0 x y hl (by omega) x.length (x.length + 1) 0 (by omega) (by omega) (by omega)
    simpa using this
  exact (slices_Equal_byte_byte.calls (x.length + 1) A1 c1 x A2 c2 y _ w h1 hc1 h2 hc2 hf).mono fun e w' ⟨he, hw⟩ => ⟨he, hw.out⟩

/-- a row's cut from k to m -/
theorem run_cut_mid {w : World} {g c n : Nat} (k m : Nat) (h1 : k ≤ m) (h2 : m ≤ n) (hc : n ≤ c) (hk : k < c) (W : World) :
    (Instr.slice 48 (.slice (some ⟨g, 0, none⟩) n c) (some (.int .i64 k)) (some (.int .i64 m)) none).run Tryz.prog W = .ok (.slice (some ⟨g, k, none⟩) (m - k) (c - k)) W := by
  obtain ⟨i5, hi, hz⟩ := Option.map_eq_some_iff.1 info5
  simp only [Prod.mk.injEq] at hz
  have := cut_mid (P := Tryz.prog) 48 5 .i64 .i64 Tryz.underlying48 hi 1 hz.2.1 (some ⟨g, 0, none⟩) n c k m (by omega) (by omega) (by omega) hc W
  rw [this, Int.toNat_natCast, Int.toNat_natCast, if_neg (by omega)]
  have e : ((⟨g, 0, none⟩ : Addr).add (k * 1)) = ⟨g, k, none⟩ := by simp [Addr.add]; intro h; exact h.symm
  simp only [Option.map_some, e]
theorem run_cut_from {g c n : Nat} (k : Nat) (h1 : k ≤ n) (hc : n ≤ c) (hk : k < c) (W : World) :
    (Instr.slice 48 (.slice (some ⟨g, 0, none⟩) n c) (some (.int .i64 k)) none none).run Tryz.prog W = .ok (.slice (some ⟨g, k, none⟩) (n - k) (c - k)) W := by
  obtain ⟨i5, hi, hz⟩ := Option.map_eq_some_iff.1 info5
  simp only [Prod.mk.injEq] at hz
  have := cut_from (P := Tryz.prog) 48 5 .i64 Tryz.underlying48 hi 1 hz.2.1 (some ⟨g, 0, none⟩) n c k (by omega) (by omega) W
  rw [this, Int.toNat_natCast, if_neg (by omega)]
  have e : ((⟨g, 0, none⟩ : Addr).add (k * 1)) = ⟨g, k, none⟩ := by simp [Addr.add]; intro h; exact h.symm
  simp only [Option.map_some, e]

theorem RB.cell {w : World} {ok : Nat → Prop} {g c n : Nat} {l : Bytes} (h : RB w ok (.slice (some ⟨g, 0, none⟩) n c) l) {j : Nat} {x : Int} (hj : l[j]? = some x) : w.cell? ⟨g, j, none⟩ = some (.int .u8 x) := by
  rcases h.rep with ⟨h1, _⟩ | ⟨g', cap, cur, h1, hg, h2, h3, h4, _, ht⟩
  · cases h1
  · injection h1 with h1 _ _
    injection h1 with h1
    injection h1 with h1 _ _
    subst h1
    obtain ⟨hj1, _⟩ := List.getElem?_eq_some_iff.1 hj
    rw [cell_of_row w g j cur 5 (0, 0) hg]
    have h5 := congrArg (fun x => x[j]?) ht
    simp only [List.getElem?_take, hj1, if_true, List.getElem?_map, hj, Option.map_some] at h5
    rw [← h5]; simp

/-- copy(x[k:k+m], y[k:]) -/
theorem copyS {w : World} {ok : Nat → Prop} {g1 c1 g2 c2 E : Nat} {x y : Bytes} (hx : RB w ok (.slice (some ⟨g1, 0, none⟩) E c1) x) (hy : RB w ok (.slice (some ⟨g2, 0, none⟩) E c2) y) (hxl : x.length = E) (hyl : y.length = E) (k m : Nat) (hm : k + m ≤ E) :
    ∃ w1, (∀ nq ty, (Builtin.copy_ #[48, 48] ty #[.slice (some ⟨g1, k, none⟩) m (c1 - k), .slice (some ⟨g2, k, none⟩) (E - k) (c2 - k)]).run Tryz.prog (w.drewN nq) = .ok (.int .i64 m) (World.drewN w1 nq)) ∧
      RB w1 ok (.slice (some ⟨g1, 0, none⟩) E c1) (splice x k ((y.drop k).take m)) ∧ w.grownBy w1 (some g1) := by
  obtain ⟨i5, hi, hz⟩ := Option.map_eq_some_iff.1 info5
  simp only [Prod.mk.injEq] at hz
  have hbl : ((y.drop k).take m).length = m := by simp; omega
  have hsl : (splice x k ((y.drop k).take m)).length = E := by rw [length_splice _ _ _ (by omega)]; exact hxl
  rcases hx.rep with ⟨h1, _⟩ | ⟨g', cap, cur, h1, hg, h2, h3, h4, h5, ht⟩
  · cases h1
  · injection h1 with h1 _ h1c
    injection h1 with h1
    injection h1 with h1 _ _
    subst h1
    subst h1c
    have hcells : ∀ j v, (((y.drop k).take m).map (Value.int .u8))[j]? = some v → w.cell? ((⟨g2, k, none⟩ : Addr).add j) = some v := by
      intro j v hv
      rw [List.getElem?_map] at hv
      obtain ⟨p, hp, rfl⟩ := Option.map_eq_some_iff.1 hv
      have hj : j < m := by have := (List.getElem?_eq_some_iff.1 hp).1; omega
      rw [List.getElem?_take, if_pos hj, List.getElem?_drop] at hp
      have e : ((⟨g2, k, none⟩ : Addr).add j) = ⟨g2, k + j, none⟩ := by cases j <;> simp [Addr.add]
      rw [e]
      exact hy.cell hp
    have hrun := fun (nq : Nat) (ty : TypeId) => run_copy_row (P := Tryz.prog) (w.drewN nq) 48 48 ty 5 g1 k m (c1 - k) ⟨g2, k, none⟩ (E - k) (c2 - k) cur 5 (((y.drop k).take m).map (Value.int .u8)) Tryz.underlying48
      (by rw [hi]; simp [hz.2.1]) hg (by rw [List.length_map, hbl]; simp [Nat.min_def]; omega) hcells (by rw [List.length_map, hbl]; omega) (fun v hv => by obtain ⟨p, _, rfl⟩ := List.mem_map.1 hv; rfl)
    rw [List.length_map, hbl] at hrun
    refine ⟨w.setRow g1 (cur.toList.take k ++ ((y.drop k).take m).map (Value.int .u8) ++ cur.toList.drop (k + m)).toArray, fun nq ty => hrun nq ty, ⟨hx.1, .inr ⟨g1, c1, _, by rw [hsl], setRow_heap _ _ _ _ _ _ hg, by rw [hsl]; omega, h3, ?_, ?_, ?_⟩⟩, ?_⟩
    · simp; omega
    · rw [hsl]; simp; omega
    · rw [hsl]
      have := take_splice cur.toList x ((y.drop k).take m) k m hbl (by simp; omega) (by omega) ht
      rw [hxl] at this
      exact this
    · exact ⟨rfl, rfl, rfl, by simp [World.setRow], fun i _ hi => setRow_other _ _ _ _ (fun e => hi (by rw [e]))⟩

theorem RB.cutC {w : World} {ok : Nat → Prop} {g c n : Nat} {l : Bytes} (h : RB w ok (.slice (some ⟨g, 0, none⟩) n c) l) (hn : l.length = n) (hm : n ≤ 8388608) (k m : Nat) (hk : k + m ≤ n) : U8.C w (some ⟨g, k, none⟩) m ((l.drop k).take m) := by
  have hbl : ((l.drop k).take m).length = m := by simp; omega
  refine ⟨hbl, by omega, fun _ => ⟨⟨g, k, none⟩, rfl, fun j p hj => ⟨[Value.int .u8 p], rfl, rfl, fun i u hu => ?_⟩⟩⟩
  obtain ⟨rfl, rfl⟩ : i = 0 ∧ u = Value.int .u8 p := by
    cases i with
    | zero => simp at hu; exact ⟨rfl, hu.symm⟩
    | succ i => simp at hu
  have hj2 : j < m := by have := (List.getElem?_eq_some_iff.1 hj).1; omega
  rw [List.getElem?_take, if_pos hj2, List.getElem?_drop] at hj
  have e : ((⟨g, k, none⟩ : Addr).add (j * U8.sz + 0)) = ⟨g, k + j, none⟩ := by
    have : j * U8.sz + 0 = j := by simp [Kd.int, Kd.scalar]
    rw [this]; cases j <;> simp [Addr.add]
  rw [e]
  exact h.cell hj
theorem RB.some {w : World} {ok : Nat → Prop} {A : Option Addr} {n c : Nat} {l : Bytes} (h : RB w ok (.slice A n c) l) (hn : l.length = n) (h0 : 0 < n) : ∃ g, A = some ⟨g, 0, none⟩ ∧ n ≤ c := by
  rcases h.rep with ⟨h1, rfl⟩ | ⟨g, cap, cur, h1, _, h2, _⟩
  · simp at hn; omega
  · injection h1 with h1 _ h3
    exact ⟨g, h1, by omega⟩
theorem C_keep8 {w w' : World} {A : Option Addr} {n : Nat} {l : Bytes} (hC : U8.C w A n l) (hm : ∀ ad, A = some ad → ad.block < w.heap.size → w'.heap[ad.block]? = w.heap[ad.block]?) : U8.C w' A n l := by
  refine ⟨hC.1, hC.2.1, fun hn => ?_⟩
  obtain ⟨ad, rfl, hc⟩ := hC.2.2 hn
  refine ⟨ad, rfl, fun j p hj => ?_⟩
  obtain ⟨c, hl, hK, hcell⟩ := hc j p hj
  refine ⟨c, hl, hK, fun i u hu => ?_⟩
  have hb : (ad.add (j * U8.sz + i)).block = ad.block := by unfold Addr.add; split <;> rfl
  have h1 := hcell i u hu
  have h2 := World.block_lt_of_cell? _ _ h1
  rw [hb] at h2
  refine (World.cell?_of_block ?_).trans h1
  rw [hb]
  exact hm ad rfl h2
end Go.Proofs.YtmdpgjdepflbmaaGreat
namespace Go.Proofs.YtmdpgjdepflbmaaGreat
open Go.RowKit Go.Maps Go.Proofs.YtmdpgjdepflbmaaGreatW.PrintWords Go.Proofs.YtmdpgjdepflbmaaGreatW.PrintLast Go.Proofs.YtmdpgjdepflbmaaGreatW.PrintMore
open Go.Proofs.YtmdpgjdepflbmaaGreat.PPagerFolds
set_option linter.unusedVariables false
set_option linter.unusedSimpArgs false

def slot11 (a : Act) : Int := match a.tmps.getD 11 undef with | .int _ q => q | _ => 0

/-- what holds at the label -/
def FJ (B : Nat) (w : World) (g bp : Nat) (n E : Nat) (seen : Bytes) (fin : Bytes × List Int) (a : Act) (W : World) : Prop :=
  ∃ (As : Option Addr) (cs : Nat) (Ae : Option Addr) (ce : Nat) (x : Int), (a.defers = [] ∧ a.tmps.size = 127 ∧ a.tmps.getD 0 undef = .pointer (some ⟨g, 0, none⟩) ∧ a.tmps.getD 1 undef = .func (.func 63) #[] #[bptr bp] ∧ a.tmps.getD 2 undef = undef ∧ a.tmps.getD 3 undef = undef ∧ a.tmps.getD 4 undef = .slice none 0 0 ∧ a.tmps.getD 5 undef = .int .i64 n ∧ a.tmps.getD 8 undef = .int .i64 E ∧ a.tmps.getD 9 undef = .slice As E cs ∧ a.tmps.getD 10 undef = .slice Ae E ce ∧ a.tmps.getD 11 undef = .int .i64 x) ∧
    ∃ (k : Nat) (cur : Bytes) (ps : List Int), x = k ∧ k ≤ E + 64 ∧ secs seen E k cur ps = fin ∧ cur.length = E ∧
      RB W (fun b => w.heap.size ≤ b) (.slice As E cs) cur ∧ RB W (fun b => w.heap.size ≤ b) (.slice Ae E ce) seen ∧ (∀ b, (Value.slice As E cs).ownBlock = some b → (Value.slice Ae E ce).ownBlock ≠ some b) ∧ PBox B W bp ps ∧ Fr (fun b => b = bp) w W

theorem lit127 {a : Act} (hd : a.defers = []) (hs : a.tmps.size = 127) : ∃ u : Nat → Value, (∀ i, u i = a.tmps.getD i undef) ∧ a = { tmps := #[u 0, u 1, u 2, u 3, u 4, u 5, u 6, u 7, u 8, u 9, u 10, u 11, u 12, u 13, u 14, u 15, u 16, u 17, u 18, u 19, u 20, u 21, u 22, u 23, u 24, u 25, u 26, u 27, u 28, u 29, u 30, u 31, u 32, u 33, u 34, u 35, u 36, u 37, u 38, u 39, u 40, u 41, u 42, u 43, u 44, u 45, u 46, u 47, u 48, u 49, u 50, u 51, u 52, u 53, u 54, u 55, u 56, u 57, u 58, u 59, u 60, u 61, u 62, u 63, u 64, u 65, u 66, u 67, u 68, u 69, u 70, u 71, u 72, u 73, u 74, u 75, u 76, u 77, u 78, u 79, u 80, u 81, u 82, u 83, u 84, u 85, u 86, u 87, u 88, u 89, u 90, u 91, u 92, u 93, u 94, u 95, u 96, u 97, u 98, u 99, u 100, u 101, u 102, u 103, u 104, u 105, u 106, u 107, u 108, u 109, u 110, u 111, u 112, u 113, u 114, u 115, u 116, u 117, u 118, u 119, u 120, u 121, u 122, u 123, u 124, u 125, u 126], defers := [] } := by
  refine ⟨fun i => a.tmps.getD i undef, fun i => rfl, ?_⟩
  obtain ⟨t, d⟩ := a
  subst hd
  congr 1
  have : t = ((List.range 127).map (fun i => t.getD i undef)).toArray := by
    apply Array.ext
    · simpa using hs
    · intro i h1 h2
      simp [Array.getD, h1]
  exact this

theorem scope_loop {P : Program} {a : Act} {w : World} {Q : Exit → Act → World → Prop} {c rest : Code} (l : Nat) (J : Act → World → Prop) (μ : Act → World → Nat) (hf : findLabel c l = some (Code.skip.seq rest))
    (pass : ∀ a w, J a w → rest.wp P (Exit.jump l (fun a' w' => J a' w' ∧ μ a' w' < μ a w) Q) a w)
    (first : (∀ a w, J a w → rest.wp P (Exit.jump l J Q) a w) → c.wp P (Exit.jump l J Q) a w) : (Code.scope c).wp P Q a w := by
  refine wp_scope_jumps l J μ hf (first fun a w hJ => wp_mono (pass a w hJ) fun e a' w' q => ?_) (fun a w hJ => wp_seq (wp_skip (pass a w hJ)))
  cases e with
  | goto l' => exact ⟨q.1, q.2.1⟩
  | _ => exact q

set_option maxHeartbeats 4000000 in
set_option maxRecDepth 100000 in
theorem found_any {B : Nat} {w : World} (hBw : B ≤ w.heap.size) {g bp L1 c1 L2 c2 : Nat} {A1 A2 : Option Addr} {f : Bytes × Bytes} {ps : List Int}
    (hg : w.heap[g]? = some (.cells #[.slice A1 L1 c1, .slice A2 L2 c2] 105 (0, 0))) (hC1 : U8.C w A1 L1 f.1) (hle1 : L1 ≤ c1) (hC2 : U8.C w A2 L2 f.2) (hle2 : L2 ≤ c2)
    (hl1 : L1 ≤ 4194304) (hl2 : L2 ≤ 4194304) (hP : PBox B w bp ps) (hgb : g ≠ bp) (hb1 : ∀ ad, A1 = some ad → ad.block ≠ bp) (hb2 : ∀ ad, A2 = some ad → ad.block ≠ bp) :
    Calls Tryz.prog 65 #[.pointer (some ⟨g, 0, none⟩), .func (.func 63) #[] #[bptr bp]] w fun e w' => ∃ v, e = .returned v ∧ RB w' (fun k => w.heap.size ≤ k) v (foundF f ps).1 ∧ PBox B w' bp (foundF f ps).2 ∧ Fr (fun k => k = bp) w w' := by
  have cg0 : w.cell? ⟨g, 0, none⟩ = some (.slice A1 L1 c1) := cell_of_row w g 0 _ 105 (0, 0) hg
  have cg1 : w.cell? ⟨g, 1, none⟩ = some (.slice A2 L2 c2) := cell_of_row w g 1 _ 105 (0, 0) hg
  obtain ⟨E, hE⟩ : ∃ E, E = max L1 L2 := ⟨_, rfl⟩
  have hEi : max (L1 : Int) (L2 : Int) = (E : Int) := by rw [hE]; omega
  obtain ⟨n, hn⟩ : ∃ n, n = (lenF f ps).1 := ⟨_, rfl⟩
  obtain ⟨fin, hfin⟩ : ∃ fin, fin = secs (padTo f.2 E) E 0 (padTo f.1 E) (lenF f ps).2 := ⟨_, rfl⟩
  have e1 : f.1.length = L1 := hC1.1
  have e2 : f.2.length = L2 := hC2.1
  have hnE : n ≤ E := by
    rw [hn, hE]; unfold lenF
    split
    · simp [e1]; omega
    · split
      · simp [e2]; omega
      · simp [e1]; omega
  have hres : foundF f ps = (fin.1.take n, fin.2) := by rw [hfin, hn, hE]; unfold foundF; rw [e1, e2]
  rw [hres]
  have hE2 : E ≤ 4194304 := by omega
  have HPL := Aside0.mk (show bp < w.heap.size from by have := hP.1; omega)
  have hLE1 : L1 ≤ E := by omega
  have hLE2 : L2 ≤ E := by omega
  have HG := Aside0.mk (And.intro hg (And.intro hC1 (And.intro hC2 (And.intro hP (And.intro hgb (And.intro hb1 hb2))))))
  have HN := Aside0.mk (And.intro hn (And.intro hfin (And.intro e1 (And.intro e2 hE))))
  clear hg hC1 hC2 hP hgb hb1 hb2 hn hfin hres e1 e2 hE
  go_enter Tryz.func65, Tryz.ntmps65
  go_wp2
  refine scope_loop 0 (FJ B w g bp n E (padTo f.2 E) fin) (fun a _ => (E + 64 - (slot11 a).toNat)) rfl ?_ ?_
  · rintro a W ⟨As, cs, Ae, ce, x, ⟨hd, hs127, z0 , z1 , z2 , z3 , z4 , z5 , z8 , z9 , z10 , z11⟩, k, cur, ps', hx, hkE, hsec, hcl, hRs, hRe, hap, hPB, hFr⟩
    obtain ⟨u, hu, ha⟩ := lit127 hd hs127
    rw [← hu] at z0  z1  z2  z3  z4  z5  z8  z9  z10  z11
    rw [z0, z1, z2, z3, z4, z5, z8, z9, z10, z11] at ha
    have hsl : slot11 a = x := by rw [ha]; rfl
    rw [hsl]
    subst ha
    clear hd hs127 hu hsl z0  z1  z2  z3  z4  z5  z8  z9  z10  z11
    by_cases hlt : x < (E : Int)
    · have b1 : decide (x < (E : Int)) = true := decide_eq_true hlt
      obtain ⟨x64, hx64⟩ : ∃ x64, IntKind.i64.wrap (x + 64) = x64 := ⟨_, rfl⟩
      have HX64 : Aside0 (x64 = x + 64) := ⟨by rw [← hx64, IntKind.wrap_i64]; omega⟩
      obtain ⟨st, hst⟩ : ∃ st : Int, min x64 (E : Int) = st := ⟨_, rfl⟩
      have HYL : Aside0 ((padTo f.2 E).length = E) := ⟨by obtain ⟨_, _, _, h, h'⟩ := HN.out; rw [padTo_length]; omega⟩
      obtain ⟨g1, rfl, hcs⟩ := hRs.some hcl (by omega)
      obtain ⟨g2, rfl, hce⟩ := hRe.some HYL.out (by omega)
      have hkE' : k < E := by omega
      obtain ⟨m, hm⟩ : ∃ m : Nat, k + m = min (k + 64) E := ⟨min (k + 64) E - k, by omega⟩
      have hstn : st = ((min (k + 64) E : Nat) : Int) := by rw [← hst, HX64.out]; omega
      have HST : Aside0 (st = ((min (k + 64) E : Nat) : Int) ∧ k < E ∧ E ≤ cs ∧ E ≤ ce ∧ k + m = min (k + 64) E) := ⟨⟨hstn, hkE', hcs, hce, hm⟩⟩
      have hcut1 : ∀ W : World, (Instr.slice 48 (.slice (some ⟨g1, 0, none⟩) E cs) (some (.int .i64 x)) (some (.int .i64 st)) none).run Tryz.prog W = .ok (.slice (some ⟨g1, k, none⟩) m (cs - k)) W := by
        intro W
        rw [hx, hstn, ← hm, run_cut_mid (w := W) k (k + m) (by omega) (by omega) hcs (by omega) W, Nat.add_sub_cancel_left]
      have hcut2 : ∀ W : World, (Instr.slice 48 (.slice (some ⟨g2, 0, none⟩) E ce) (some (.int .i64 x)) (some (.int .i64 st)) none).run Tryz.prog W = .ok (.slice (some ⟨g2, k, none⟩) m (ce - k)) W := by
        intro W
        rw [hx, hstn, ← hm, run_cut_mid (w := W) k (k + m) (by omega) (by omega) hce (by omega) W, Nat.add_sub_cancel_left]
      obtain ⟨eqb, heqb⟩ : ∃ eqb : Bool, eqb = decide ((cur.drop k).take m = ((padTo f.2 E).drop k).take m) := ⟨_, rfl⟩
      have HEQ : Aside0 (∀ nn, Calls Tryz.prog 90 #[.slice (some ⟨g1, k, none⟩) m (cs - k), .slice (some ⟨g2, k, none⟩) m (ce - k)] (W.drewN nn) fun e w' => e = .returned (.bool eqb) ∧ ∃ j, w' = (W.drewN nn).drewN j) := ⟨fun nn => by
        rw [heqb]
        exact equal_found (C_drewN (hRs.cutC hcl (by omega) k m (by omega)) nn) (by omega) (C_drewN (hRe.cutC HYL.out (by omega) k m (by omega)) nn) (by omega) rfl (by omega)⟩
      have HEB := Aside0.mk heqb
      have HS := Aside0.mk (And.intro hx (And.intro hkE (And.intro hsec (And.intro hcl (And.intro hRs (And.intro hRe (And.intro hap (And.intro hPB hFr))))))))
      clear hx hkE hsec hcl hRs hRe hap hPB hFr cg0 cg1 hstn hkE' hcs hce hm heqb hlt
      cases eqb with
      | true =>
        go_wp2
        go_quiet ((go_at_call 90; exact Calls.quiet_of (HEQ.out _)))
        go_wp2
        go_step3
        obtain ⟨hx, hkE, hsec, hcl, hRs, hRe, hap, hPB, hFr⟩ := HS.out
        have hs64 := HX64.out
        have hkx : k < E := by have := HST.out; omega
        have heq : (cur.drop k).take m = ((padTo f.2 E).drop k).take m := of_decide_eq_true HEB.out.symm
        refine ⟨rfl, ⟨some ⟨g1, 0, none⟩, cs, some ⟨g2, 0, none⟩, ce, x64, ⟨rfl, rfl, rfl, rfl, rfl, rfl, rfl, rfl, rfl, rfl, rfl, rfl⟩, k + 64, cur, ps', by rw [hs64, hx]; omega, by omega, ?_, hcl, hRs.same (fun _ _ => rfl) hRs.1, hRe.same (fun _ _ => rfl) hRe.1, hap, hPB.keep (fun _ _ => rfl) (Nat.le_refl _), hFr.drewN _⟩, ?_⟩
        · rw [← hsec, secs.eq_1 (padTo f.2 E) E k cur ps', if_pos hkx]
          have hsc : sector (padTo f.2 E) cur k (min (k + 64) E) ps' = (cur, ps') := by
            unfold sector
            rw [if_pos (by have := HST.out; rw [show min (k + 64) E - k = m from by omega]; exact heq)]
          rw [hsc]
        · show E + 64 - x64.toNat < E + 64 - x.toNat
          omega
      | false =>
        obtain ⟨p, hp⟩ : ∃ p, p = (nextP ps').1 := ⟨_, rfl⟩
        have HNX : Aside0 (∀ nn, Calls Tryz.prog 63 #[bptr bp] (W.drewN nn) fun e w' => e = .returned (.int .i64 p) ∧ PBox B w' bp (nextP ps').2 ∧ Fr (fun b => b = bp) W w') := ⟨fun nn => by
          obtain ⟨_, _, _, _, _, _, _, hPB, _⟩ := HS.out
          rw [hp]
          exact (next_any (hPB.keep (w' := W.drewN nn) (fun _ _ => rfl) (Nat.le_refl _))).mono fun e w' ⟨h1, h2, h3⟩ => ⟨h1, h2, h3.undrawn⟩⟩
        have HNE : Aside0 (¬ (cur.drop k).take (min (k + 64) E - k) = ((padTo f.2 E).drop k).take (min (k + 64) E - k)) := ⟨by
          have := HST.out
          rw [show min (k + 64) E - k = m from by omega]
          exact of_decide_eq_false HEB.out.symm⟩
        have HP := Aside0.mk hp
        clear hp
        by_cases hk1 : modR p 3 = 1
        · have q1 : (modR p 3 == (1 : Int)) = true := by simpa using hk1
          have SECN : min (k + secN (nextP ps').1) (min (k + 64) E) - k = min (k + 64) (min (k + 64) E) - k := by rw [← HP.out]; unfold secN; rw [if_pos hk1]
          have HSECN := Aside0.mk SECN
          clear SECN hk1
          go_wp2
          go_quiet ((go_at_call 90; exact Calls.quiet_of (HEQ.out _)))
          go_wp2_with (first | (go_at_call 63; refine (HNX.out _).mono ?_; rintro e w2 ⟨rfl, hpb, hf⟩; have HN2 := Aside0.mk (And.intro hpb hf); clear hpb hf) | (go_at_call 99; refine (mod_any (by decide) _).mono ?_; rintro e w' ⟨rfl, j, rfl⟩))
          have hR3s : RB w2 (fun b => w.heap.size ≤ b) (.slice (some ⟨g1, 0, none⟩) E cs) cur := by
            obtain ⟨_, _, _, _, hRs, _⟩ := HS.out
            exact hRs.same (fun b hb => HN2.out.2.block b (hRs.lt hb) (fun e => by have h1 := hRs.1 b hb; have := HPL.out; omega)) hRs.1
          have hR3e : RB w2 (fun b => w.heap.size ≤ b) (.slice (some ⟨g2, 0, none⟩) E ce) (padTo f.2 E) := by
            obtain ⟨_, _, _, _, _, hRe, _⟩ := HS.out
            exact hRe.same (fun b hb => HN2.out.2.block b (hRe.lt hb) (fun e => by have h1 := hRe.1 b hb; have := HPL.out; omega)) hRe.1
          have HR3 := Aside0.mk (And.intro hR3s hR3e)
          clear hR3s hR3e
          obtain ⟨d, hd⟩ : ∃ d : Nat, d = min (k + 64) (min (k + 64) E) - k := ⟨_, rfl⟩
          have hxn := hx64
          have hxn' : x64 = ((k + 64 : Nat) : Int) := by obtain ⟨hx, _⟩ := HS.out; rw [← hxn, IntKind.wrap_i64]; omega
          obtain ⟨mm, hmm⟩ : ∃ mm : Int, min x64 st = mm := ⟨_, rfl⟩
          have hmm' : mm = ((k + d : Nat) : Int) := by have := HST.out.2.1; rw [← hmm, hxn', HST.out.1, hd]; omega
          have hdE : k + d ≤ E := by have := HST.out; rw [hd]; omega
          have hcut3 : ∀ W : World, (Instr.slice 48 (.slice (some ⟨g1, 0, none⟩) E cs) (some (.int .i64 x)) (some (.int .i64 mm)) none).run Tryz.prog W = .ok (.slice (some ⟨g1, k, none⟩) d (cs - k)) W := by
            intro W
            obtain ⟨hx, _⟩ := HS.out
            have h1 := HST.out
            rw [hx, hmm', run_cut_mid (w := W) k (k + d) (by omega) (by omega) h1.2.2.1 (by omega) W, Nat.add_sub_cancel_left]
          have hcut4 : ∀ W : World, (Instr.slice 48 (.slice (some ⟨g2, 0, none⟩) E ce) (some (.int .i64 x)) none none).run Tryz.prog W = .ok (.slice (some ⟨g2, k, none⟩) (E - k) (ce - k)) W := by
            intro W
            obtain ⟨hx, _⟩ := HS.out
            have h1 := HST.out
            rw [hx, run_cut_from k (by omega) h1.2.2.2.1 (by omega) W]
          obtain ⟨hR3s, hR3e⟩ := HR3.out
          have HR3e := Aside0.mk hR3e
          obtain ⟨W4, hcopy, hR4, hg4⟩ := copyS hR3s hR3e (by obtain ⟨_, _, _, h, _⟩ := HS.out; exact h) HYL.out k d hdE
          have HC4 := Aside0.mk (And.intro hR4 (And.intro hg4 hd))
          clear hR4 hg4 hR3s hR3e hdE hd hxn' hmm'
          go_region
          go_wp2
          go_step3
          obtain ⟨hx, hkE, hsec, hcl, hRs, hRe, hap, hPB, hFr⟩ := HS.out
          obtain ⟨hR4, hg4, hd⟩ := HC4.out
          obtain ⟨hPB3, hFr3⟩ := HN2.out
          have hR3e' := HR3e.out
          have hs64 := HX64.out
          have hkx : k < E := by have := HST.out; omega
          refine ⟨rfl, ⟨some ⟨g1, 0, none⟩, cs, some ⟨g2, 0, none⟩, ce, x64, ⟨rfl, rfl, rfl, rfl, rfl, rfl, rfl, rfl, rfl, rfl, rfl, rfl⟩, k + 64, splice cur k (((padTo f.2 E).drop k).take d), (nextP ps').2, by rw [hs64, hx]; omega, by omega, ?_, ?_, ?_, ?_, hap, ?_, ?_⟩, ?_⟩
          · rw [← hsec, secs.eq_1 (padTo f.2 E) E k cur ps', if_pos hkx]
            have hsc : sector (padTo f.2 E) cur k (min (k + 64) E) ps' = (splice cur k (((padTo f.2 E).drop k).take d), (nextP ps').2) := by
              unfold sector
              rw [if_neg HNE.out, hd, HSECN.out]
            rw [hsc]
          · rw [length_splice _ _ _ (by simp [HYL.out]; omega)]; exact hcl
          · exact hR4.same (fun _ _ => rfl) hR4.1
          · exact hR3e'.same (fun b hb => hg4.block b (hR3e'.lt hb) (fun e => hap b (by rw [show (Value.slice (some ⟨g1, 0, none⟩) E cs).ownBlock = some g1 from rfl]; exact e.symm) hb)) hR3e'.1
          · exact hPB3.keep (fun b hb => hg4.block b (by have := hPB3.2.1; omega) (fun e => by have h1 := hRs.1 g1 rfl; have := Option.some.inj e; omega)) hg4.size
          · refine (hFr.trans (ok' := fun b => b = bp ∨ b = g1) ⟨hg4.os.trans hFr3.os, hg4.tape.trans hFr3.tape, hg4.output.trans hFr3.output, Nat.le_trans hFr3.size hg4.size, fun i hi hn => (hg4.block i (Nat.lt_of_lt_of_le hi hFr3.size) (fun e => hn (.inr (Option.some.inj e)))).trans (hFr3.block i hi (fun e => hn (.inl e)))⟩ (fun b hb => hb.imp id (fun e => by rw [e]; exact hRs.1 g1 rfl))).drewN _
          · show E + 64 - x64.toNat < E + 64 - x.toNat
            omega
        · have q1 : (modR p 3 == (1 : Int)) = false := by simpa using hk1
          by_cases hk2 : modR p 3 = 2
          · have q2 : (modR p 3 == (2 : Int)) = true := by simpa using hk2
            have SECN : min (k + secN (nextP ps').1) (min (k + 64) E) - k = min (k + (modR (modT p 3) 65).toNat) (min (k + 64) E) - k := by rw [← HP.out]; unfold secN; rw [if_neg hk1, if_pos hk2]
            have HSECN := Aside0.mk SECN
            have hrg := modR_range (p := modT p 3) (n := 65) (by omega) (by omega)
            clear SECN hk1 hk2
            go_wp2
            go_quiet ((go_at_call 90; exact Calls.quiet_of (HEQ.out _)))
            go_wp2_with (first | (go_at_call 63; refine (HNX.out _).mono ?_; rintro e w2 ⟨rfl, hpb, hf⟩; have HN2 := Aside0.mk (And.intro hpb hf); clear hpb hf) | (go_at_call 99; refine (mod_any (by decide) _).mono ?_; rintro e w' ⟨rfl, j, rfl⟩))
            have hR3s : RB w2 (fun b => w.heap.size ≤ b) (.slice (some ⟨g1, 0, none⟩) E cs) cur := by
              obtain ⟨_, _, _, _, hRs, _⟩ := HS.out
              exact hRs.same (fun b hb => HN2.out.2.block b (hRs.lt hb) (fun e => by have h1 := hRs.1 b hb; have := HPL.out; omega)) hRs.1
            have hR3e : RB w2 (fun b => w.heap.size ≤ b) (.slice (some ⟨g2, 0, none⟩) E ce) (padTo f.2 E) := by
              obtain ⟨_, _, _, _, _, hRe, _⟩ := HS.out
              exact hRe.same (fun b hb => HN2.out.2.block b (hRe.lt hb) (fun e => by have h1 := hRe.1 b hb; have := HPL.out; omega)) hRe.1
            have HR3 := Aside0.mk (And.intro hR3s hR3e)
            clear hR3s hR3e
            obtain ⟨d, hd⟩ : ∃ d : Nat, d = min (k + (modR (modT p 3) 65).toNat) (min (k + 64) E) - k := ⟨_, rfl⟩
            obtain ⟨xn, hxn⟩ : ∃ xn, IntKind.i64.wrap (x + (modR (modT p 3) 65)) = xn := ⟨_, rfl⟩
            have hxn' : xn = ((k + (modR (modT p 3) 65).toNat : Nat) : Int) := by obtain ⟨hx, _⟩ := HS.out; rw [← hxn, IntKind.wrap_i64]; omega
            obtain ⟨mm, hmm⟩ : ∃ mm : Int, min xn st = mm := ⟨_, rfl⟩
            have hmm' : mm = ((k + d : Nat) : Int) := by have := HST.out.2.1; rw [← hmm, hxn', HST.out.1, hd]; omega
            have hdE : k + d ≤ E := by have := HST.out; rw [hd]; omega
            have hcut3 : ∀ W : World, (Instr.slice 48 (.slice (some ⟨g1, 0, none⟩) E cs) (some (.int .i64 x)) (some (.int .i64 mm)) none).run Tryz.prog W = .ok (.slice (some ⟨g1, k, none⟩) d (cs - k)) W := by
              intro W
              obtain ⟨hx, _⟩ := HS.out
              have h1 := HST.out
              rw [hx, hmm', run_cut_mid (w := W) k (k + d) (by omega) (by omega) h1.2.2.1 (by omega) W, Nat.add_sub_cancel_left]
            have hcut4 : ∀ W : World, (Instr.slice 48 (.slice (some ⟨g2, 0, none⟩) E ce) (some (.int .i64 x)) none none).run Tryz.prog W = .ok (.slice (some ⟨g2, k, none⟩) (E - k) (ce - k)) W := by
              intro W
              obtain ⟨hx, _⟩ := HS.out
              have h1 := HST.out
              rw [hx, run_cut_from k (by omega) h1.2.2.2.1 (by omega) W]
            obtain ⟨hR3s, hR3e⟩ := HR3.out
            have HR3e := Aside0.mk hR3e
            obtain ⟨W4, hcopy, hR4, hg4⟩ := copyS hR3s hR3e (by obtain ⟨_, _, _, h, _⟩ := HS.out; exact h) HYL.out k d hdE
            have HC4 := Aside0.mk (And.intro hR4 (And.intro hg4 hd))
            clear hR4 hg4 hR3s hR3e hdE hd hxn' hmm'
            go_region
            go_wp2
            go_step3
            obtain ⟨hx, hkE, hsec, hcl, hRs, hRe, hap, hPB, hFr⟩ := HS.out
            obtain ⟨hR4, hg4, hd⟩ := HC4.out
            obtain ⟨hPB3, hFr3⟩ := HN2.out
            have hR3e' := HR3e.out
            have hs64 := HX64.out
            have hkx : k < E := by have := HST.out; omega
            refine ⟨rfl, ⟨some ⟨g1, 0, none⟩, cs, some ⟨g2, 0, none⟩, ce, x64, ⟨rfl, rfl, rfl, rfl, rfl, rfl, rfl, rfl, rfl, rfl, rfl, rfl⟩, k + 64, splice cur k (((padTo f.2 E).drop k).take d), (nextP ps').2, by rw [hs64, hx]; omega, by omega, ?_, ?_, ?_, ?_, hap, ?_, ?_⟩, ?_⟩
            · rw [← hsec, secs.eq_1 (padTo f.2 E) E k cur ps', if_pos hkx]
              have hsc : sector (padTo f.2 E) cur k (min (k + 64) E) ps' = (splice cur k (((padTo f.2 E).drop k).take d), (nextP ps').2) := by
                unfold sector
                rw [if_neg HNE.out, hd, HSECN.out]
              rw [hsc]
            · rw [length_splice _ _ _ (by simp [HYL.out]; omega)]; exact hcl
            · exact hR4.same (fun _ _ => rfl) hR4.1
            · exact hR3e'.same (fun b hb => hg4.block b (hR3e'.lt hb) (fun e => hap b (by rw [show (Value.slice (some ⟨g1, 0, none⟩) E cs).ownBlock = some g1 from rfl]; exact e.symm) hb)) hR3e'.1
            · exact hPB3.keep (fun b hb => hg4.block b (by have := hPB3.2.1; omega) (fun e => by have h1 := hRs.1 g1 rfl; have := Option.some.inj e; omega)) hg4.size
            · refine (hFr.trans (ok' := fun b => b = bp ∨ b = g1) ⟨hg4.os.trans hFr3.os, hg4.tape.trans hFr3.tape, hg4.output.trans hFr3.output, Nat.le_trans hFr3.size hg4.size, fun i hi hn => (hg4.block i (Nat.lt_of_lt_of_le hi hFr3.size) (fun e => hn (.inr (Option.some.inj e)))).trans (hFr3.block i hi (fun e => hn (.inl e)))⟩ (fun b hb => hb.imp id (fun e => by rw [e]; exact hRs.1 g1 rfl))).drewN _
            · show E + 64 - x64.toNat < E + 64 - x.toNat
              omega
          · have q2 : (modR p 3 == (2 : Int)) = false := by simpa using hk2
            have SECN : min (k + secN (nextP ps').1) (min (k + 64) E) - k = min (k + 0) (min (k + 64) E) - k := by rw [← HP.out]; unfold secN; rw [if_neg hk1, if_neg hk2]
            have HSECN := Aside0.mk SECN
            clear SECN hk1 hk2
            go_wp2
            go_quiet ((go_at_call 90; exact Calls.quiet_of (HEQ.out _)))
            go_wp2_with (first | (go_at_call 63; refine (HNX.out _).mono ?_; rintro e w2 ⟨rfl, hpb, hf⟩; have HN2 := Aside0.mk (And.intro hpb hf); clear hpb hf) | (go_at_call 99; refine (mod_any (by decide) _).mono ?_; rintro e w' ⟨rfl, j, rfl⟩))
            have hR3s : RB w2 (fun b => w.heap.size ≤ b) (.slice (some ⟨g1, 0, none⟩) E cs) cur := by
              obtain ⟨_, _, _, _, hRs, _⟩ := HS.out
              exact hRs.same (fun b hb => HN2.out.2.block b (hRs.lt hb) (fun e => by have h1 := hRs.1 b hb; have := HPL.out; omega)) hRs.1
            have hR3e : RB w2 (fun b => w.heap.size ≤ b) (.slice (some ⟨g2, 0, none⟩) E ce) (padTo f.2 E) := by
              obtain ⟨_, _, _, _, _, hRe, _⟩ := HS.out
              exact hRe.same (fun b hb => HN2.out.2.block b (hRe.lt hb) (fun e => by have h1 := hRe.1 b hb; have := HPL.out; omega)) hRe.1
            have HR3 := Aside0.mk (And.intro hR3s hR3e)
            clear hR3s hR3e
            obtain ⟨d, hd⟩ : ∃ d : Nat, d = min (k + 0) (min (k + 64) E) - k := ⟨_, rfl⟩
            obtain ⟨xn, hxn⟩ : ∃ xn, IntKind.i64.wrap x = xn := ⟨_, rfl⟩
            have hxn' : xn = ((k + 0 : Nat) : Int) := by obtain ⟨hx, _⟩ := HS.out; rw [← hxn, IntKind.wrap_i64]; omega
            obtain ⟨mm, hmm⟩ : ∃ mm : Int, min xn st = mm := ⟨_, rfl⟩
            have hmm' : mm = ((k + d : Nat) : Int) := by have := HST.out.2.1; rw [← hmm, hxn', HST.out.1, hd]; omega
            have hdE : k + d ≤ E := by have := HST.out; rw [hd]; omega
            have hcut3 : ∀ W : World, (Instr.slice 48 (.slice (some ⟨g1, 0, none⟩) E cs) (some (.int .i64 x)) (some (.int .i64 mm)) none).run Tryz.prog W = .ok (.slice (some ⟨g1, k, none⟩) d (cs - k)) W := by
              intro W
              obtain ⟨hx, _⟩ := HS.out
              have h1 := HST.out
              rw [hx, hmm', run_cut_mid (w := W) k (k + d) (by omega) (by omega) h1.2.2.1 (by omega) W, Nat.add_sub_cancel_left]
            have hcut4 : ∀ W : World, (Instr.slice 48 (.slice (some ⟨g2, 0, none⟩) E ce) (some (.int .i64 x)) none none).run Tryz.prog W = .ok (.slice (some ⟨g2, k, none⟩) (E - k) (ce - k)) W := by
              intro W
              obtain ⟨hx, _⟩ := HS.out
              have h1 := HST.out
              rw [hx, run_cut_from k (by omega) h1.2.2.2.1 (by omega) W]
            obtain ⟨hR3s, hR3e⟩ := HR3.out
            have HR3e := Aside0.mk hR3e
            obtain ⟨W4, hcopy, hR4, hg4⟩ := copyS hR3s hR3e (by obtain ⟨_, _, _, h, _⟩ := HS.out; exact h) HYL.out k d hdE
            have HC4 := Aside0.mk (And.intro hR4 (And.intro hg4 hd))
            clear hR4 hg4 hR3s hR3e hdE hd hxn' hmm'
            go_region
            go_wp2
            go_step3
            obtain ⟨hx, hkE, hsec, hcl, hRs, hRe, hap, hPB, hFr⟩ := HS.out
            obtain ⟨hR4, hg4, hd⟩ := HC4.out
            obtain ⟨hPB3, hFr3⟩ := HN2.out
            have hR3e' := HR3e.out
            have hs64 := HX64.out
            have hkx : k < E := by have := HST.out; omega
            refine ⟨rfl, ⟨some ⟨g1, 0, none⟩, cs, some ⟨g2, 0, none⟩, ce, x64, ⟨rfl, rfl, rfl, rfl, rfl, rfl, rfl, rfl, rfl, rfl, rfl, rfl⟩, k + 64, splice cur k (((padTo f.2 E).drop k).take d), (nextP ps').2, by rw [hs64, hx]; omega, by omega, ?_, ?_, ?_, ?_, hap, ?_, ?_⟩, ?_⟩
            · rw [← hsec, secs.eq_1 (padTo f.2 E) E k cur ps', if_pos hkx]
              have hsc : sector (padTo f.2 E) cur k (min (k + 64) E) ps' = (splice cur k (((padTo f.2 E).drop k).take d), (nextP ps').2) := by
                unfold sector
                rw [if_neg HNE.out, hd, HSECN.out]
              rw [hsc]
            · rw [length_splice _ _ _ (by simp [HYL.out]; omega)]; exact hcl
            · exact hR4.same (fun _ _ => rfl) hR4.1
            · exact hR3e'.same (fun b hb => hg4.block b (hR3e'.lt hb) (fun e => hap b (by rw [show (Value.slice (some ⟨g1, 0, none⟩) E cs).ownBlock = some g1 from rfl]; exact e.symm) hb)) hR3e'.1
            · exact hPB3.keep (fun b hb => hg4.block b (by have := hPB3.2.1; omega) (fun e => by have h1 := hRs.1 g1 rfl; have := Option.some.inj e; omega)) hg4.size
            · refine (hFr.trans (ok' := fun b => b = bp ∨ b = g1) ⟨hg4.os.trans hFr3.os, hg4.tape.trans hFr3.tape, hg4.output.trans hFr3.output, Nat.le_trans hFr3.size hg4.size, fun i hi hn => (hg4.block i (Nat.lt_of_lt_of_le hi hFr3.size) (fun e => hn (.inr (Option.some.inj e)))).trans (hFr3.block i hi (fun e => hn (.inl e)))⟩ (fun b hb => hb.imp id (fun e => by rw [e]; exact hRs.1 g1 rfl))).drewN _
            · show E + 64 - x64.toNat < E + 64 - x.toNat
              omega
    · have b1 : decide (x < (E : Int)) = false := decide_eq_false hlt
      have HS := Aside0.mk (And.intro hx (And.intro hkE (And.intro hsec (And.intro hcl (And.intro hRs (And.intro hRe (And.intro hap (And.intro hPB hFr))))))))
      clear hx hkE hsec hcl hRs hRe hap hPB hFr cg0 cg1
      have hmin : min (n : Int) (E : Int) = (n : Int) := by omega
      obtain ⟨hcutF, HLG⟩ : (∀ W' : World, (Instr.slice 48 (.slice As E cs) none (some (.int .i64 n)) (some (.int .i64 n))).run Tryz.prog W' = .ok (.slice As n n) W') ∧ Aside0 (Calls Tryz.prog 100 #[.slice As n n, .int .i64 n] W fun e w' => ∃ v', e = .returned v' ∧ RB w' (fun b => w.heap.size ≤ b) v' (fin.1.take n) ∧ Fr (fun b => (Value.slice As n n).ownBlock = some b) W w' ∧ (∀ b, (Value.slice As n n).ownBlock = some b → w.heap.size ≤ b ∧ b ≠ bp)) := by
        obtain ⟨hx, hkE, hsec, hcl, hRs, hRe, hap, hPB, hFr⟩ := HS.out
        obtain ⟨A', c', hv, hRk, hce⟩ := hRs.cut n (by omega)
        rw [hcl] at hv
        injection hv with hv1 _ hv2
        subst hv1
        subst hv2
        refine ⟨fun W' => run_slice_full As E cs n hnE (by omega) W', ⟨?_⟩⟩
        have hfc : fin.1 = cur := by rw [← hsec, secs.eq_1, if_neg (by omega)]
        rw [hfc]
        have hlen : (cur.take n).length = n := by simp; omega
        refine (longer_any n hRk (by omega) (by omega)).mono ?_
        rintro e w' ⟨v', rfl, h1, h2, h3⟩
        have hpt : padTo (cur.take n) n = cur.take n := by unfold padTo; rw [hlen]; simp
        rw [hpt] at h1
        refine ⟨v', rfl, h1.same (fun _ _ => rfl) (fun b hb => (h1.1 b hb).elim id (fun h => Nat.le_trans hFr.size h)), h2, fun b hb => ⟨hRk.1 b hb, ?_⟩⟩
        have h4 := HPL.out
        have h5 := hRk.1 b hb
        omega
      go_wp2_with (go_at_call 100; refine HLG.out.mono ?_; rintro e w' ⟨v', rfl, h1, h2, h3⟩; have HO := Aside0.mk (And.intro h1 (And.intro h2 h3)); clear h1 h2 h3)
      simp only [Exit.jump]
      go_ret
      obtain ⟨hx, hkE, hsec, hcl, hRs, hRe, hap, hPB, hFr⟩ := HS.out
      obtain ⟨h1, h2, h3⟩ := HO.out
      have hfp : fin.2 = ps' := by rw [← hsec, secs.eq_1, if_neg (by omega)]
      refine ⟨v', rfl, h1, ?_, ?_⟩
      · rw [hfp]
        exact hPB.keep (fun b hb => h2.block b (by have := hPB.2.1; omega) (fun e => by have := h3 b e; omega)) h2.size
      · refine hFr.trans h2 (fun b hb => ?_)
        exact .inr (h3 b hb).1
  · intro Hrest
    have HRest := Aside0.mk Hrest
    clear Hrest
    have hneq : ((L2 : Int) != (L1 : Int)) = decide (¬ L2 = L1) := by
      by_cases h : L2 = L1
      · subst h; simp
      · have : ¬ (L2 : Int) = (L1 : Int) := by omega
        simp [h, this]
    by_cases h12 : L2 = L1
    · have hb : ((L2 : Int) != (L1 : Int)) = false := by rw [hneq]; simp [h12]
      have HL := Aside0.mk (show n = L1 ∧ (lenF f ps).2 = ps from by
        obtain ⟨hn, _, q1, q2, _⟩ := HN.out
        have : lenF f ps = (f.1.length, ps) := by unfold lenF; rw [if_pos (by rw [q1, q2]; exact h12)]
        rw [hn, this]; exact ⟨q1, rfl⟩)
      clear hneq h12
      go_wp2
      go_region
      go_wp2
      go_region
      go_wp2
      have HCC : Aside0 (U8.C w A1 L1 f.1 ∧ U8.C w A2 L2 f.2) := ⟨by obtain ⟨_, h1, h2, _⟩ := HG.out; exact ⟨h1, h2⟩⟩
      have HCL : Aside0 (∀ (A : Option Addr) (L c : Nat) (l : Bytes), L ≤ 4194304 → U8.C w A L l → ∀ W, Below w.heap.size w W → Calls Tryz.prog 48 #[.slice A L c] W fun e w' => ∃ Ax cx, e = .returned (.slice Ax L cx) ∧ (RB w' (fun k => w.heap.size ≤ k) (.slice Ax L cx) l ∧ Below w.heap.size w w' ∧ Below W.heap.size W w' ∧ (∀ b, (Value.slice Ax L cx).ownBlock = some b → W.heap.size ≤ b)) ∧ (w'.cell? ⟨g, 0, none⟩ = some (.slice A1 L1 c1) ∧ w'.cell? ⟨g, 1, none⟩ = some (.slice A2 L2 c2))) := ⟨by
        intro A L c l hL hC W hb
        have hC2 : U8.C W A L l := Kd.C_below hC hb
        refine (clone_any A L c l W (by unfold roomy; omega) hC2).mono ?_
        rintro e w' ⟨v, rfl, h1, h2⟩
        obtain ⟨Ax, cx, hv⟩ := Kd.R_slice h1
        rw [hC.1] at hv
        subst hv
        exact ⟨Ax, cx, rfl, ⟨(RB.of_R h1).mono (fun k hk => Nat.le_trans hb.size hk), hb.trans (h2.mono hb.size), h2, h1.1⟩, ((hb.trans (h2.mono hb.size)).cell (World.block_lt_of_cell? _ _ cg0)).trans cg0, ((hb.trans (h2.mono hb.size)).cell (World.block_lt_of_cell? _ _ cg1)).trans cg1⟩⟩
      have HLL : Aside0 (∀ (W : World) (Ax : Option Addr) (cx L : Nat) (l : Bytes), (L ≤ 4194304 ∧ L ≤ E) → RB W (fun k => w.heap.size ≤ k) (.slice Ax L cx) l → ∀ {P1 : Prop} {P2 : Prop}, (Below w.heap.size w W ∧ P1 ∧ P2) → Calls Tryz.prog 100 #[.slice Ax L cx, .int .i64 E] W fun e w' => ∃ A' c', e = .returned (.slice A' E c') ∧ (RB w' (fun k => w.heap.size ≤ k) (.slice A' E c') (padTo l E) ∧ Below w.heap.size w w' ∧ Fr (fun b => (Value.slice Ax L cx).ownBlock = some b) W w' ∧ (∀ b, (Value.slice A' E c').ownBlock = some b → (Value.slice Ax L cx).ownBlock = some b ∨ W.heap.size ≤ b)) ∧ (w'.cell? ⟨g, 0, none⟩ = some (.slice A1 L1 c1) ∧ w'.cell? ⟨g, 1, none⟩ = some (.slice A2 L2 c2))) := ⟨by
        rintro W Ax cx L l ⟨hL, hLE⟩ hR P1 P2 ⟨hb, _, _⟩
        obtain ⟨A0', c0', hv, _, hCx⟩ := hR.reads
        have hll : l.length = L := by injection hv with _ h _; exact h.symm
        refine (longer_any E hR (by omega) (by omega)).mono ?_
        rintro e w' ⟨v', rfl, h1, h2, h3⟩
        obtain ⟨A', c', rfl⟩ := h1.slice
        have hpl : (padTo l E).length = E := by rw [padTo_length, hll]; exact Nat.max_eq_right hLE
        rw [hpl] at h1 h3 ⊢
        have hB' : Below w.heap.size w w' := ⟨h2.os.trans hb.os, h2.tape.trans hb.tape, h2.output.trans hb.output, Nat.le_trans hb.size h2.size, fun b hk => (h2.block b (Nat.lt_of_lt_of_le hk hb.size) (fun e => by have := hR.1 b e; omega)).trans (hb.block b hk)⟩
        refine ⟨A', c', rfl, ⟨h1.mono (fun b hk => hk.elim id (fun h => Nat.le_trans hb.size h)), hB', h2, h3⟩, (hB'.cell (World.block_lt_of_cell? _ _ cg0)).trans cg0, (hB'.cell (World.block_lt_of_cell? _ _ cg1)).trans cg1⟩⟩
      refine start_ (n := 16) (S := fun w' => w'.cell? ⟨g, 0, none⟩ = some (.slice A1 L1 c1) ∧ w'.cell? ⟨g, 1, none⟩ = some (.slice A2 L2 c2)) (ds := []) #[false, false, false, false, false, false, false, false, false, false, false, false, false, false, false, false] (by kernel_rfl) rfl rfl ⟨cg0, cg1⟩ (fun hHeld => ?_)
      refine pure_ (i := 0) (N := some 56) (v := ?_) (a' := ?_) #[true, false, false, false, false, false, false, false, false, false, false, false, false, false, false, false] rfl rfl (by kernel_rfl) (fun _ _ _ h => h) (Or.inl ⟨by rfl, ?_⟩) ?_ ?_
      rotate_left
      · intro w'
        go_simp
        with_reducible rfl
      rotate_left
      · simp only [Act.put, List.setIfInBounds_toArray, List.set_cons_zero, List.set_cons_succ, i64_w, i32_w]
        rfl
      refine pure_ (i := 1) (N := some 57) (v := ?_) (a' := ?_) #[true, true, false, false, false, false, false, false, false, false, false, false, false, false, false, false] rfl rfl (by kernel_rfl) (fun _ _ _ h => h) (Or.inl ⟨by rfl, ?_⟩) ?_ ?_
      rotate_left
      · intro w'
        go_simp
        with_reducible rfl
      rotate_left
      · simp only [Act.put, List.setIfInBounds_toArray, List.set_cons_zero, List.set_cons_succ, i64_w, i32_w]
        rfl
      refine pure_ (i := 2) (N := some 58) (v := ?_) (a' := ?_) #[true, true, true, false, false, false, false, false, false, false, false, false, false, false, false, false] rfl rfl (by kernel_rfl) (fun _ _ _ h => h) (Or.inl ⟨by rfl, ?_⟩) ?_ ?_
      rotate_left
      · intro w'
        go_simp
        with_reducible rfl
      rotate_left
      · simp only [Act.put, List.setIfInBounds_toArray, List.set_cons_zero, List.set_cons_succ, i64_w, i32_w]
        rfl
      refine take_ (i := 3) (N := some 59) (v := ?_) (a' := ?_) #[true, true, true, true, false, false, false, false, false, false, false, false, false, false, false, false] rfl rfl (by kernel_rfl) (fun _ _ _ h => h) (Or.inl ⟨by rfl, ?_⟩) hHeld ?_ ?_
      rotate_left
      · rintro w' ⟨s0, s1⟩
        go_simp
        with_reducible rfl
      rotate_left
      · simp only [Act.put, List.setIfInBounds_toArray, List.set_cons_zero, List.set_cons_succ, i64_w, i32_w]
        rfl
      refine pure_ (i := 5) (N := some 61) (v := ?_) (a' := ?_) #[true, true, true, true, false, true, false, false, false, false, false, false, false, false, false, false] rfl rfl (by kernel_rfl) (fun _ _ _ h => h) (Or.inl ⟨by rfl, ?_⟩) ?_ ?_
      rotate_left
      · intro w'
        go_simp
        with_reducible rfl
      rotate_left
      · simp only [Act.put, List.setIfInBounds_toArray, List.set_cons_zero, List.set_cons_succ, i64_w, i32_w]
        rfl
      refine pure_ (i := 7) (N := some 63) (v := ?_) (a' := ?_) #[true, true, true, true, false, true, false, true, false, false, false, false, false, false, false, false] rfl rfl (by kernel_rfl) (fun _ _ _ h => h) (Or.inl ⟨by rfl, ?_⟩) ?_ ?_
      rotate_left
      · intro w'
        go_simp
        with_reducible rfl
      rotate_left
      · simp only [Act.put, List.setIfInBounds_toArray, List.set_cons_zero, List.set_cons_succ, i64_w, i32_w]
        rfl
      refine pure_ (i := 8) (N := some 64) (v := ?_) (a' := ?_) #[true, true, true, true, false, true, false, true, true, false, false, false, false, false, false, false] rfl rfl (by kernel_rfl) (fun _ _ _ h => h) (Or.inl ⟨by rfl, ?_⟩) ?_ ?_
      rotate_left
      · intro w'
        go_simp
        with_reducible rfl
      rotate_left
      · simp only [Act.put, List.setIfInBounds_toArray, List.set_cons_zero, List.set_cons_succ, i64_w, i32_w]
        rfl
      refine pure_ (i := 9) (N := some 65) (v := ?_) (a' := ?_) #[true, true, true, true, false, true, false, true, true, true, false, false, false, false, false, false] rfl rfl (by kernel_rfl) (fun _ _ _ h => h) (Or.inl ⟨by rfl, ?_⟩) ?_ ?_
      rotate_left
      · intro w'
        go_simp
        with_reducible rfl
      rotate_left
      · simp only [Act.put, List.setIfInBounds_toArray, List.set_cons_zero, List.set_cons_succ, i64_w, i32_w]
        rfl
      refine take_ (i := 10) (N := some 66) (v := ?_) (a' := ?_) #[true, true, true, true, false, true, false, true, true, true, true, false, false, false, false, false] rfl rfl (by kernel_rfl) (fun _ _ _ h => h) (Or.inl ⟨by rfl, ?_⟩) hHeld ?_ ?_
      rotate_left
      · rintro w' ⟨s0, s1⟩
        go_simp
        with_reducible rfl
      rotate_left
      · simp only [Act.put, List.setIfInBounds_toArray, List.set_cons_zero, List.set_cons_succ, i64_w, i32_w]
        rfl
      refine pure_ (i := 12) (N := some 68) (v := ?_) (a' := ?_) #[true, true, true, true, false, true, false, true, true, true, true, false, true, false, false, false] rfl rfl (by kernel_rfl) (fun _ _ _ h => h) (Or.inl ⟨by rfl, ?_⟩) ?_ ?_
      rotate_left
      · intro w'
        go_simp
        with_reducible rfl
      rotate_left
      · simp only [Act.put, List.setIfInBounds_toArray, List.set_cons_zero, List.set_cons_succ, i64_w, i32_w]
        rfl
      refine one_ (i := 4) (N := some 60) #[true, true, true, true, true, true, false, true, true, true, true, false, true, false, false, false] rfl rfl (by kernel_rfl) (by decide) (fun K hK => ?_)
      refine goes_ Tryz.func48 (by kernel_rfl) rfl #[.slice A1 L1 c1] (by rfl) rfl rfl (by simp only [List.map_toArray, List.map_cons, List.map_nil]; rfl) ?_
      refine Calls.mono (HCL.out A1 L1 c1 f.1 hl1 HCC.out.1 _ ?_) ?_
      · exact ⟨rfl, rfl, rfl, Nat.le_refl _, fun _ _ => rfl⟩
      rintro e w3 ⟨Ak1, ck1, rfl, hqk1, hsk1⟩
      have HQk1 := Aside0.mk hqk1
      clear hqk1
      refine ⟨_, rfl, ?_⟩
      refine hK.out _ _ hsk1 (fun hHeld => ?_)
      clear hK K
      refine norm_ (a' := ?_) ?_ ?_
      rotate_left
      · show Act.put _ (some 60) _ = _
        simp only [Act.put, List.setIfInBounds_toArray, List.set_cons_zero, List.set_cons_succ, i64_w, i32_w]
        rfl
      refine one_ (i := 6) (N := some 62) #[true, true, true, true, true, true, true, true, true, true, true, false, true, false, false, false] rfl rfl (by kernel_rfl) (by decide) (fun K hK => ?_)
      refine goes_ Tryz.func100 (by kernel_rfl) rfl #[.slice Ak1 L1 ck1, .int .i64 E] (by rfl) rfl rfl (by simp only [List.map_toArray, List.map_cons, List.map_nil]; rfl) ?_
      refine (HLL.out _ Ak1 ck1 L1 f.1 ⟨hl1, hLE1⟩ HQk1.out.1 HQk1.out.2).mono ?_
      rintro e w4 ⟨Ag1x, cg1x, rfl, hqg1x, hsg1x⟩
      have HQg1x := Aside0.mk hqg1x
      clear hqg1x
      refine ⟨_, rfl, ?_⟩
      refine hK.out _ _ hsg1x (fun hHeld => ?_)
      clear hK K
      refine norm_ (a' := ?_) ?_ ?_
      rotate_left
      · show Act.put _ (some 62) _ = _
        simp only [Act.put, List.setIfInBounds_toArray, List.set_cons_zero, List.set_cons_succ, i64_w, i32_w]
        rfl
      refine one_ (i := 11) (N := some 67) #[true, true, true, true, true, true, true, true, true, true, true, true, true, false, false, false] rfl rfl (by kernel_rfl) (by decide) (fun K hK => ?_)
      refine goes_ Tryz.func48 (by kernel_rfl) rfl #[.slice A2 L2 c2] (by rfl) rfl rfl (by simp only [List.map_toArray, List.map_cons, List.map_nil]; rfl) ?_
      refine Calls.mono (HCL.out A2 L2 c2 f.2 hl2 HCC.out.2 _ ?_) ?_
      · exact HQg1x.out.2.1
      rintro e w5 ⟨Ak2, ck2, rfl, hqk2, hsk2⟩
      have HQk2 := Aside0.mk hqk2
      clear hqk2
      refine ⟨_, rfl, ?_⟩
      refine hK.out _ _ hsk2 (fun hHeld => ?_)
      clear hK K
      refine norm_ (a' := ?_) ?_ ?_
      rotate_left
      · show Act.put _ (some 67) _ = _
        simp only [Act.put, List.setIfInBounds_toArray, List.set_cons_zero, List.set_cons_succ, i64_w, i32_w]
        rfl
      refine one_ (i := 13) (N := some 69) #[true, true, true, true, true, true, true, true, true, true, true, true, true, true, false, false] rfl rfl (by kernel_rfl) (by decide) (fun K hK => ?_)
      refine goes_ Tryz.func100 (by kernel_rfl) rfl #[.slice Ak2 L2 ck2, .int .i64 E] (by rfl) rfl rfl (by simp only [List.map_toArray, List.map_cons, List.map_nil]; rfl) ?_
      refine (HLL.out _ Ak2 ck2 L2 f.2 ⟨hl2, hLE2⟩ HQk2.out.1 HQk2.out.2).mono ?_
      rintro e w6 ⟨Ag2x, cg2x, rfl, hqg2x, hsg2x⟩
      have HQg2x := Aside0.mk hqg2x
      clear hqg2x
      refine ⟨_, rfl, ?_⟩
      refine hK.out _ _ hsg2x (fun hHeld => ?_)
      clear hK K
      refine norm_ (a' := ?_) ?_ ?_
      rotate_left
      · show Act.put _ (some 69) _ = _
        simp only [Act.put, List.setIfInBounds_toArray, List.set_cons_zero, List.set_cons_succ, i64_w, i32_w]
        rfl
      refine pure_ (i := 14) (N := some 9) (v := ?_) (a' := ?_) #[true, true, true, true, true, true, true, true, true, true, true, true, true, true, true, false] rfl rfl (by kernel_rfl) (fun _ _ _ h => h) (Or.inl ⟨by rfl, ?_⟩) ?_ ?_
      rotate_left
      · intro w'
        go_simp
        with_reducible rfl
      rotate_left
      · simp only [Act.put, List.setIfInBounds_toArray, List.set_cons_zero, List.set_cons_succ, i64_w, i32_w]
        rfl
      refine pure_ (i := 15) (N := some 10) (v := ?_) (a' := ?_) #[true, true, true, true, true, true, true, true, true, true, true, true, true, true, true, true] rfl rfl (by kernel_rfl) (fun _ _ _ h => h) (Or.inl ⟨by rfl, ?_⟩) ?_ ?_
      rotate_left
      · intro w'
        go_simp
        with_reducible rfl
      rotate_left
      · simp only [Act.put, List.setIfInBounds_toArray, List.set_cons_zero, List.set_cons_succ, i64_w, i32_w]
        rfl
      refine done_ (by kernel_rfl) ?_
      go_wp2
      go_step3
      rename_i K0 hK0
      show K0 _ _
      refine hK0 _ _ ?_
      clear hK0 K0
      obtain ⟨hR6, hB6, hF6, hat6⟩ := HQg2x.out
      obtain ⟨hR5, hB5, hB45, hat5⟩ := HQk2.out
      obtain ⟨hR4, hB4, hF4, hat4⟩ := HQg1x.out
      have hw : w.heap.size ≤ w.heap.size := Nat.le_refl _
      obtain ⟨hnn, hfin, _, _, _⟩ := HN.out
      obtain ⟨hnv, hlr⟩ := HL.out
      have sz4 : w.heap.size ≤ w4.heap.size := hB4.size
      have hR4' : RB w6 (fun b => w.heap.size ≤ b) (.slice Ag1x E cg1x) (padTo f.1 E) := hR4.same (fun b hb => (hF6.block b (Nat.lt_of_lt_of_le (hR4.lt hb) hB45.size) (fun e => by have h1 := hat5 b e; have h2 := hR4.lt hb; omega)).trans (hB45.block b (hR4.lt hb))) (fun b hb => by have := hR4.1 b hb; omega)
      refine HRest.out _ _ ⟨Ag1x, cg1x, Ag2x, cg2x, 0, ⟨rfl, rfl, rfl, rfl, rfl, rfl, rfl, by rw [hnv]; rfl, rfl, rfl, rfl, rfl⟩, 0, padTo f.1 E, (lenF f ps).2, rfl, by omega, hfin.symm, ?_, hR4'.same (fun _ _ => rfl) hR4'.1, hR6.same (fun _ _ => rfl) (fun b hb => by have := hR6.1 b hb; omega), ?_, ?_, ?_⟩
      · obtain ⟨_, _, q1, _⟩ := HN.out
        rw [padTo_length, q1]; exact Nat.max_eq_right hLE1
      · intro b hb e
        have h1 := hR4.lt hb
        have h5 := hB45.size
        rcases hat6 b e with h | h
        · have := hat5 b h; omega
        · omega
      · rw [hlr]
        exact by obtain ⟨_, _, _, hP, _⟩ := HG.out; exact hP.keep (fun b hb => hB6.block b (by omega)) hB6.size
      · exact (Fr.of_below (ok := fun b => b = bp) hB6).drewN 0
    · have hb : ((L2 : Int) != (L1 : Int)) = true := by rw [hneq]; simp [h12]
      obtain ⟨p, hp⟩ : ∃ p, p = (nextP ps).1 := ⟨_, rfl⟩
      have HLF : Aside0 (lenF f ps = (if modR p 2 = 1 then L2 else L1, (nextP ps).2)) := ⟨by
        obtain ⟨hn, _, q1, q2, _⟩ := HN.out
        unfold lenF; rw [if_neg (by rw [q1, q2]; exact h12), q1, q2, hp]⟩
      have HNX : Aside0 (∀ nn, Calls Tryz.prog 63 #[bptr bp] (w.drewN nn) fun e w' => e = .returned (.int .i64 p) ∧ (PBox B w' bp (nextP ps).2 ∧ Fr (fun b => b = bp) w w') ∧ w'.cell? ⟨g, 0, none⟩ = some (.slice A1 L1 c1) ∧ w'.cell? ⟨g, 1, none⟩ = some (.slice A2 L2 c2)) := ⟨fun nn => by
        obtain ⟨hg, _, _, hP, hgb, _⟩ := HG.out
        rw [hp]
        refine (next_any (hP.keep (w' := w.drewN nn) (fun _ _ => rfl) (Nat.le_refl _))).mono ?_
        rintro e w' ⟨h1, h2, h3⟩
        replace h3 := h3.undrawn
        have h4 := h3.block g (heap_lt hg) hgb
        exact ⟨h1, ⟨h2, h3⟩, (World.cell?_of_block (a := ⟨g, 0, none⟩) h4).trans cg0, (World.cell?_of_block (a := ⟨g, 1, none⟩) h4).trans cg1⟩⟩
      clear hneq h12 hp
      by_cases hodd : modR p 2 = 1
      · have q1 : (modR p 2 == (1 : Int)) = true := by simpa using hodd
        have HL := Aside0.mk (show n = L2 ∧ (lenF f ps).2 = (nextP ps).2 from by
          obtain ⟨hn, _⟩ := HN.out
          rw [hn, HLF.out, if_pos hodd]; exact ⟨rfl, rfl⟩)
        clear hodd
        go_wp2
        go_region
        go_wp2_with (first | (go_at_call 63; refine (HNX.out _).mono ?_; rintro e w2 ⟨rfl, hpb, cg0', cg1'⟩; have HN2 := Aside0.mk hpb; clear hpb) | (go_at_call 99; refine (mod_any (by decide) _).mono ?_; rintro e w' ⟨rfl, j, rfl⟩))
        go_region
        go_wp2
        have HCC : Aside0 (U8.C w2 A1 L1 f.1 ∧ U8.C w2 A2 L2 f.2) := ⟨by obtain ⟨hg, h1, h2, _, _, hb1, hb2⟩ := HG.out; exact ⟨C_keep8 h1 (fun ad e hlt => HN2.out.2.block _ hlt (hb1 ad e)), C_keep8 h2 (fun ad e hlt => HN2.out.2.block _ hlt (hb2 ad e))⟩⟩
        have HCL : Aside0 (∀ (A : Option Addr) (L c : Nat) (l : Bytes), L ≤ 4194304 → U8.C w2 A L l → ∀ W, Below w2.heap.size w2 W → Calls Tryz.prog 48 #[.slice A L c] W fun e w' => ∃ Ax cx, e = .returned (.slice Ax L cx) ∧ (RB w' (fun k => w2.heap.size ≤ k) (.slice Ax L cx) l ∧ Below w2.heap.size w2 w' ∧ Below W.heap.size W w' ∧ (∀ b, (Value.slice Ax L cx).ownBlock = some b → W.heap.size ≤ b)) ∧ (w'.cell? ⟨g, 0, none⟩ = some (.slice A1 L1 c1) ∧ w'.cell? ⟨g, 1, none⟩ = some (.slice A2 L2 c2))) := ⟨by
          intro A L c l hL hC W hb
          have hC2 : U8.C W A L l := Kd.C_below hC hb
          refine (clone_any A L c l W (by unfold roomy; omega) hC2).mono ?_
          rintro e w' ⟨v, rfl, h1, h2⟩
          obtain ⟨Ax, cx, hv⟩ := Kd.R_slice h1
          rw [hC.1] at hv
          subst hv
          exact ⟨Ax, cx, rfl, ⟨(RB.of_R h1).mono (fun k hk => Nat.le_trans hb.size hk), hb.trans (h2.mono hb.size), h2, h1.1⟩, ((hb.trans (h2.mono hb.size)).cell (World.block_lt_of_cell? _ _ cg0')).trans cg0', ((hb.trans (h2.mono hb.size)).cell (World.block_lt_of_cell? _ _ cg1')).trans cg1'⟩⟩
        have HLL : Aside0 (∀ (W : World) (Ax : Option Addr) (cx L : Nat) (l : Bytes), (L ≤ 4194304 ∧ L ≤ E) → RB W (fun k => w2.heap.size ≤ k) (.slice Ax L cx) l → ∀ {P1 : Prop} {P2 : Prop}, (Below w2.heap.size w2 W ∧ P1 ∧ P2) → Calls Tryz.prog 100 #[.slice Ax L cx, .int .i64 E] W fun e w' => ∃ A' c', e = .returned (.slice A' E c') ∧ (RB w' (fun k => w2.heap.size ≤ k) (.slice A' E c') (padTo l E) ∧ Below w2.heap.size w2 w' ∧ Fr (fun b => (Value.slice Ax L cx).ownBlock = some b) W w' ∧ (∀ b, (Value.slice A' E c').ownBlock = some b → (Value.slice Ax L cx).ownBlock = some b ∨ W.heap.size ≤ b)) ∧ (w'.cell? ⟨g, 0, none⟩ = some (.slice A1 L1 c1) ∧ w'.cell? ⟨g, 1, none⟩ = some (.slice A2 L2 c2))) := ⟨by
          rintro W Ax cx L l ⟨hL, hLE⟩ hR P1 P2 ⟨hb, _, _⟩
          obtain ⟨A0', c0', hv, _, hCx⟩ := hR.reads
          have hll : l.length = L := by injection hv with _ h _; exact h.symm
          refine (longer_any E hR (by omega) (by omega)).mono ?_
          rintro e w' ⟨v', rfl, h1, h2, h3⟩
          obtain ⟨A', c', rfl⟩ := h1.slice
          have hpl : (padTo l E).length = E := by rw [padTo_length, hll]; exact Nat.max_eq_right hLE
          rw [hpl] at h1 h3 ⊢
          have hB' : Below w2.heap.size w2 w' := ⟨h2.os.trans hb.os, h2.tape.trans hb.tape, h2.output.trans hb.output, Nat.le_trans hb.size h2.size, fun b hk => (h2.block b (Nat.lt_of_lt_of_le hk hb.size) (fun e => by have := hR.1 b e; omega)).trans (hb.block b hk)⟩
          refine ⟨A', c', rfl, ⟨h1.mono (fun b hk => hk.elim id (fun h => Nat.le_trans hb.size h)), hB', h2, h3⟩, (hB'.cell (World.block_lt_of_cell? _ _ cg0')).trans cg0', (hB'.cell (World.block_lt_of_cell? _ _ cg1')).trans cg1'⟩⟩
        refine start_ (n := 16) (S := fun w' => w'.cell? ⟨g, 0, none⟩ = some (.slice A1 L1 c1) ∧ w'.cell? ⟨g, 1, none⟩ = some (.slice A2 L2 c2)) (ds := []) #[false, false, false, false, false, false, false, false, false, false, false, false, false, false, false, false] (by kernel_rfl) rfl rfl ⟨cg0', cg1'⟩ (fun hHeld => ?_)
        refine pure_ (i := 0) (N := some 56) (v := ?_) (a' := ?_) #[true, false, false, false, false, false, false, false, false, false, false, false, false, false, false, false] rfl rfl (by kernel_rfl) (fun _ _ _ h => h) (Or.inl ⟨by rfl, ?_⟩) ?_ ?_
        rotate_left
        · intro w'
          go_simp
          with_reducible rfl
        rotate_left
        · simp only [Act.put, List.setIfInBounds_toArray, List.set_cons_zero, List.set_cons_succ, i64_w, i32_w]
          rfl
        refine pure_ (i := 1) (N := some 57) (v := ?_) (a' := ?_) #[true, true, false, false, false, false, false, false, false, false, false, false, false, false, false, false] rfl rfl (by kernel_rfl) (fun _ _ _ h => h) (Or.inl ⟨by rfl, ?_⟩) ?_ ?_
        rotate_left
        · intro w'
          go_simp
          with_reducible rfl
        rotate_left
        · simp only [Act.put, List.setIfInBounds_toArray, List.set_cons_zero, List.set_cons_succ, i64_w, i32_w]
          rfl
        refine pure_ (i := 2) (N := some 58) (v := ?_) (a' := ?_) #[true, true, true, false, false, false, false, false, false, false, false, false, false, false, false, false] rfl rfl (by kernel_rfl) (fun _ _ _ h => h) (Or.inl ⟨by rfl, ?_⟩) ?_ ?_
        rotate_left
        · intro w'
          go_simp
          with_reducible rfl
        rotate_left
        · simp only [Act.put, List.setIfInBounds_toArray, List.set_cons_zero, List.set_cons_succ, i64_w, i32_w]
          rfl
        refine take_ (i := 3) (N := some 59) (v := ?_) (a' := ?_) #[true, true, true, true, false, false, false, false, false, false, false, false, false, false, false, false] rfl rfl (by kernel_rfl) (fun _ _ _ h => h) (Or.inl ⟨by rfl, ?_⟩) hHeld ?_ ?_
        rotate_left
        · rintro w' ⟨s0, s1⟩
          go_simp
          with_reducible rfl
        rotate_left
        · simp only [Act.put, List.setIfInBounds_toArray, List.set_cons_zero, List.set_cons_succ, i64_w, i32_w]
          rfl
        refine pure_ (i := 5) (N := some 61) (v := ?_) (a' := ?_) #[true, true, true, true, false, true, false, false, false, false, false, false, false, false, false, false] rfl rfl (by kernel_rfl) (fun _ _ _ h => h) (Or.inl ⟨by rfl, ?_⟩) ?_ ?_
        rotate_left
        · intro w'
          go_simp
          with_reducible rfl
        rotate_left
        · simp only [Act.put, List.setIfInBounds_toArray, List.set_cons_zero, List.set_cons_succ, i64_w, i32_w]
          rfl
        refine pure_ (i := 7) (N := some 63) (v := ?_) (a' := ?_) #[true, true, true, true, false, true, false, true, false, false, false, false, false, false, false, false] rfl rfl (by kernel_rfl) (fun _ _ _ h => h) (Or.inl ⟨by rfl, ?_⟩) ?_ ?_
        rotate_left
        · intro w'
          go_simp
          with_reducible rfl
        rotate_left
        · simp only [Act.put, List.setIfInBounds_toArray, List.set_cons_zero, List.set_cons_succ, i64_w, i32_w]
          rfl
        refine pure_ (i := 8) (N := some 64) (v := ?_) (a' := ?_) #[true, true, true, true, false, true, false, true, true, false, false, false, false, false, false, false] rfl rfl (by kernel_rfl) (fun _ _ _ h => h) (Or.inl ⟨by rfl, ?_⟩) ?_ ?_
        rotate_left
        · intro w'
          go_simp
          with_reducible rfl
        rotate_left
        · simp only [Act.put, List.setIfInBounds_toArray, List.set_cons_zero, List.set_cons_succ, i64_w, i32_w]
          rfl
        refine pure_ (i := 9) (N := some 65) (v := ?_) (a' := ?_) #[true, true, true, true, false, true, false, true, true, true, false, false, false, false, false, false] rfl rfl (by kernel_rfl) (fun _ _ _ h => h) (Or.inl ⟨by rfl, ?_⟩) ?_ ?_
        rotate_left
        · intro w'
          go_simp
          with_reducible rfl
        rotate_left
        · simp only [Act.put, List.setIfInBounds_toArray, List.set_cons_zero, List.set_cons_succ, i64_w, i32_w]
          rfl
        refine take_ (i := 10) (N := some 66) (v := ?_) (a' := ?_) #[true, true, true, true, false, true, false, true, true, true, true, false, false, false, false, false] rfl rfl (by kernel_rfl) (fun _ _ _ h => h) (Or.inl ⟨by rfl, ?_⟩) hHeld ?_ ?_
        rotate_left
        · rintro w' ⟨s0, s1⟩
          go_simp
          with_reducible rfl
        rotate_left
        · simp only [Act.put, List.setIfInBounds_toArray, List.set_cons_zero, List.set_cons_succ, i64_w, i32_w]
          rfl
        refine pure_ (i := 12) (N := some 68) (v := ?_) (a' := ?_) #[true, true, true, true, false, true, false, true, true, true, true, false, true, false, false, false] rfl rfl (by kernel_rfl) (fun _ _ _ h => h) (Or.inl ⟨by rfl, ?_⟩) ?_ ?_
        rotate_left
        · intro w'
          go_simp
          with_reducible rfl
        rotate_left
        · simp only [Act.put, List.setIfInBounds_toArray, List.set_cons_zero, List.set_cons_succ, i64_w, i32_w]
          rfl
        refine one_ (i := 4) (N := some 60) #[true, true, true, true, true, true, false, true, true, true, true, false, true, false, false, false] rfl rfl (by kernel_rfl) (by decide) (fun K hK => ?_)
        refine goes_ Tryz.func48 (by kernel_rfl) rfl #[.slice A1 L1 c1] (by rfl) rfl rfl (by simp only [List.map_toArray, List.map_cons, List.map_nil]; rfl) ?_
        refine Calls.mono (HCL.out A1 L1 c1 f.1 hl1 HCC.out.1 _ ?_) ?_
        · exact ⟨rfl, rfl, rfl, Nat.le_refl _, fun _ _ => rfl⟩
        rintro e w3 ⟨Ak1, ck1, rfl, hqk1, hsk1⟩
        have HQk1 := Aside0.mk hqk1
        clear hqk1
        refine ⟨_, rfl, ?_⟩
        refine hK.out _ _ hsk1 (fun hHeld => ?_)
        clear hK K
        refine norm_ (a' := ?_) ?_ ?_
        rotate_left
        · show Act.put _ (some 60) _ = _
          simp only [Act.put, List.setIfInBounds_toArray, List.set_cons_zero, List.set_cons_succ, i64_w, i32_w]
          rfl
        refine one_ (i := 6) (N := some 62) #[true, true, true, true, true, true, true, true, true, true, true, false, true, false, false, false] rfl rfl (by kernel_rfl) (by decide) (fun K hK => ?_)
        refine goes_ Tryz.func100 (by kernel_rfl) rfl #[.slice Ak1 L1 ck1, .int .i64 E] (by rfl) rfl rfl (by simp only [List.map_toArray, List.map_cons, List.map_nil]; rfl) ?_
        refine (HLL.out _ Ak1 ck1 L1 f.1 ⟨hl1, hLE1⟩ HQk1.out.1 HQk1.out.2).mono ?_
        rintro e w4 ⟨Ag1x, cg1x, rfl, hqg1x, hsg1x⟩
        have HQg1x := Aside0.mk hqg1x
        clear hqg1x
        refine ⟨_, rfl, ?_⟩
        refine hK.out _ _ hsg1x (fun hHeld => ?_)
        clear hK K
        refine norm_ (a' := ?_) ?_ ?_
        rotate_left
        · show Act.put _ (some 62) _ = _
          simp only [Act.put, List.setIfInBounds_toArray, List.set_cons_zero, List.set_cons_succ, i64_w, i32_w]
          rfl
        refine one_ (i := 11) (N := some 67) #[true, true, true, true, true, true, true, true, true, true, true, true, true, false, false, false] rfl rfl (by kernel_rfl) (by decide) (fun K hK => ?_)
        refine goes_ Tryz.func48 (by kernel_rfl) rfl #[.slice A2 L2 c2] (by rfl) rfl rfl (by simp only [List.map_toArray, List.map_cons, List.map_nil]; rfl) ?_
        refine Calls.mono (HCL.out A2 L2 c2 f.2 hl2 HCC.out.2 _ ?_) ?_
        · exact HQg1x.out.2.1
        rintro e w5 ⟨Ak2, ck2, rfl, hqk2, hsk2⟩
        have HQk2 := Aside0.mk hqk2
        clear hqk2
        refine ⟨_, rfl, ?_⟩
        refine hK.out _ _ hsk2 (fun hHeld => ?_)
        clear hK K
        refine norm_ (a' := ?_) ?_ ?_
        rotate_left
        · show Act.put _ (some 67) _ = _
          simp only [Act.put, List.setIfInBounds_toArray, List.set_cons_zero, List.set_cons_succ, i64_w, i32_w]
          rfl
        refine one_ (i := 13) (N := some 69) #[true, true, true, true, true, true, true, true, true, true, true, true, true, true, false, false] rfl rfl (by kernel_rfl) (by decide) (fun K hK => ?_)
        refine goes_ Tryz.func100 (by kernel_rfl) rfl #[.slice Ak2 L2 ck2, .int .i64 E] (by rfl) rfl rfl (by simp only [List.map_toArray, List.map_cons, List.map_nil]; rfl) ?_
        refine (HLL.out _ Ak2 ck2 L2 f.2 ⟨hl2, hLE2⟩ HQk2.out.1 HQk2.out.2).mono ?_
        rintro e w6 ⟨Ag2x, cg2x, rfl, hqg2x, hsg2x⟩
        have HQg2x := Aside0.mk hqg2x
        clear hqg2x
        refine ⟨_, rfl, ?_⟩
        refine hK.out _ _ hsg2x (fun hHeld => ?_)
        clear hK K
        refine norm_ (a' := ?_) ?_ ?_
        rotate_left
        · show Act.put _ (some 69) _ = _
          simp only [Act.put, List.setIfInBounds_toArray, List.set_cons_zero, List.set_cons_succ, i64_w, i32_w]
          rfl
        refine pure_ (i := 14) (N := some 9) (v := ?_) (a' := ?_) #[true, true, true, true, true, true, true, true, true, true, true, true, true, true, true, false] rfl rfl (by kernel_rfl) (fun _ _ _ h => h) (Or.inl ⟨by rfl, ?_⟩) ?_ ?_
        rotate_left
        · intro w'
          go_simp
          with_reducible rfl
        rotate_left
        · simp only [Act.put, List.setIfInBounds_toArray, List.set_cons_zero, List.set_cons_succ, i64_w, i32_w]
          rfl
        refine pure_ (i := 15) (N := some 10) (v := ?_) (a' := ?_) #[true, true, true, true, true, true, true, true, true, true, true, true, true, true, true, true] rfl rfl (by kernel_rfl) (fun _ _ _ h => h) (Or.inl ⟨by rfl, ?_⟩) ?_ ?_
        rotate_left
        · intro w'
          go_simp
          with_reducible rfl
        rotate_left
        · simp only [Act.put, List.setIfInBounds_toArray, List.set_cons_zero, List.set_cons_succ, i64_w, i32_w]
          rfl
        refine done_ (by kernel_rfl) ?_
        go_wp2
        go_step3
        rename_i K0 hK0
        show K0 _ _
        refine hK0 _ _ ?_
        clear hK0 K0
        obtain ⟨hR6, hB6, hF6, hat6⟩ := HQg2x.out
        obtain ⟨hR5, hB5, hB45, hat5⟩ := HQk2.out
        obtain ⟨hR4, hB4, hF4, hat4⟩ := HQg1x.out
        have hw2 : w.heap.size ≤ w2.heap.size := HN2.out.2.size
        obtain ⟨hnn, hfin, _, _, _⟩ := HN.out
        obtain ⟨hnv, hlr⟩ := HL.out
        have sz4 : w2.heap.size ≤ w4.heap.size := hB4.size
        have hR4' : RB w6 (fun b => w.heap.size ≤ b) (.slice Ag1x E cg1x) (padTo f.1 E) := hR4.same (fun b hb => (hF6.block b (Nat.lt_of_lt_of_le (hR4.lt hb) hB45.size) (fun e => by have h1 := hat5 b e; have h2 := hR4.lt hb; omega)).trans (hB45.block b (hR4.lt hb))) (fun b hb => by have := hR4.1 b hb; omega)
        refine HRest.out _ _ ⟨Ag1x, cg1x, Ag2x, cg2x, 0, ⟨rfl, rfl, rfl, rfl, rfl, rfl, rfl, by rw [hnv]; rfl, rfl, rfl, rfl, rfl⟩, 0, padTo f.1 E, (lenF f ps).2, rfl, by omega, hfin.symm, ?_, hR4'.same (fun _ _ => rfl) hR4'.1, hR6.same (fun _ _ => rfl) (fun b hb => by have := hR6.1 b hb; omega), ?_, ?_, ?_⟩
        · obtain ⟨_, _, q1, _⟩ := HN.out
          rw [padTo_length, q1]; exact Nat.max_eq_right hLE1
        · intro b hb e
          have h1 := hR4.lt hb
          have h5 := hB45.size
          rcases hat6 b e with h | h
          · have := hat5 b h; omega
          · omega
        · rw [hlr]
          exact HN2.out.1.keep (fun b hb => hB6.block b (by omega)) hB6.size
        · exact (HN2.out.2.trans (Fr.of_below (ok := fun _ => False) hB6) (fun b hb => hb.elim)).drewN 0
      · have q1 : (modR p 2 == (1 : Int)) = false := by simpa using hodd
        have HL := Aside0.mk (show n = L1 ∧ (lenF f ps).2 = (nextP ps).2 from by
          obtain ⟨hn, _⟩ := HN.out
          rw [hn, HLF.out, if_neg hodd]; exact ⟨rfl, rfl⟩)
        clear hodd
        go_wp2
        go_region
        go_wp2_with (first | (go_at_call 63; refine (HNX.out _).mono ?_; rintro e w2 ⟨rfl, hpb, cg0', cg1'⟩; have HN2 := Aside0.mk hpb; clear hpb) | (go_at_call 99; refine (mod_any (by decide) _).mono ?_; rintro e w' ⟨rfl, j, rfl⟩))
        go_region
        go_wp2
        have HCC : Aside0 (U8.C w2 A1 L1 f.1 ∧ U8.C w2 A2 L2 f.2) := ⟨by obtain ⟨hg, h1, h2, _, _, hb1, hb2⟩ := HG.out; exact ⟨C_keep8 h1 (fun ad e hlt => HN2.out.2.block _ hlt (hb1 ad e)), C_keep8 h2 (fun ad e hlt => HN2.out.2.block _ hlt (hb2 ad e))⟩⟩
        have HCL : Aside0 (∀ (A : Option Addr) (L c : Nat) (l : Bytes), L ≤ 4194304 → U8.C w2 A L l → ∀ W, Below w2.heap.size w2 W → Calls Tryz.prog 48 #[.slice A L c] W fun e w' => ∃ Ax cx, e = .returned (.slice Ax L cx) ∧ (RB w' (fun k => w2.heap.size ≤ k) (.slice Ax L cx) l ∧ Below w2.heap.size w2 w' ∧ Below W.heap.size W w' ∧ (∀ b, (Value.slice Ax L cx).ownBlock = some b → W.heap.size ≤ b)) ∧ (w'.cell? ⟨g, 0, none⟩ = some (.slice A1 L1 c1) ∧ w'.cell? ⟨g, 1, none⟩ = some (.slice A2 L2 c2))) := ⟨by
          intro A L c l hL hC W hb
          have hC2 : U8.C W A L l := Kd.C_below hC hb
          refine (clone_any A L c l W (by unfold roomy; omega) hC2).mono ?_
          rintro e w' ⟨v, rfl, h1, h2⟩
          obtain ⟨Ax, cx, hv⟩ := Kd.R_slice h1
          rw [hC.1] at hv
          subst hv
          exact ⟨Ax, cx, rfl, ⟨(RB.of_R h1).mono (fun k hk => Nat.le_trans hb.size hk), hb.trans (h2.mono hb.size), h2, h1.1⟩, ((hb.trans (h2.mono hb.size)).cell (World.block_lt_of_cell? _ _ cg0')).trans cg0', ((hb.trans (h2.mono hb.size)).cell (World.block_lt_of_cell? _ _ cg1')).trans cg1'⟩⟩
        have HLL : Aside0 (∀ (W : World) (Ax : Option Addr) (cx L : Nat) (l : Bytes), (L ≤ 4194304 ∧ L ≤ E) → RB W (fun k => w2.heap.size ≤ k) (.slice Ax L cx) l → ∀ {P1 : Prop} {P2 : Prop}, (Below w2.heap.size w2 W ∧ P1 ∧ P2) → Calls Tryz.prog 100 #[.slice Ax L cx, .int .i64 E] W fun e w' => ∃ A' c', e = .returned (.slice A' E c') ∧ (RB w' (fun k => w2.heap.size ≤ k) (.slice A' E c') (padTo l E) ∧ Below w2.heap.size w2 w' ∧ Fr (fun b => (Value.slice Ax L cx).ownBlock = some b) W w' ∧ (∀ b, (Value.slice A' E c').ownBlock = some b → (Value.slice Ax L cx).ownBlock = some b ∨ W.heap.size ≤ b)) ∧ (w'.cell? ⟨g, 0, none⟩ = some (.slice A1 L1 c1) ∧ w'.cell? ⟨g, 1, none⟩ = some (.slice A2 L2 c2))) := ⟨by
          rintro W Ax cx L l ⟨hL, hLE⟩ hR P1 P2 ⟨hb, _, _⟩
          obtain ⟨A0', c0', hv, _, hCx⟩ := hR.reads
          have hll : l.length = L := by injection hv with _ h _; exact h.symm
          refine (longer_any E hR (by omega) (by omega)).mono ?_
          rintro e w' ⟨v', rfl, h1, h2, h3⟩
          obtain ⟨A', c', rfl⟩ := h1.slice
          have hpl : (padTo l E).length = E := by rw [padTo_length, hll]; exact Nat.max_eq_right hLE
          rw [hpl] at h1 h3 ⊢
          have hB' : Below w2.heap.size w2 w' := ⟨h2.os.trans hb.os, h2.tape.trans hb.tape, h2.output.trans hb.output, Nat.le_trans hb.size h2.size, fun b hk => (h2.block b (Nat.lt_of_lt_of_le hk hb.size) (fun e => by have := hR.1 b e; omega)).trans (hb.block b hk)⟩
          refine ⟨A', c', rfl, ⟨h1.mono (fun b hk => hk.elim id (fun h => Nat.le_trans hb.size h)), hB', h2, h3⟩, (hB'.cell (World.block_lt_of_cell? _ _ cg0')).trans cg0', (hB'.cell (World.block_lt_of_cell? _ _ cg1')).trans cg1'⟩⟩
        refine start_ (n := 16) (S := fun w' => w'.cell? ⟨g, 0, none⟩ = some (.slice A1 L1 c1) ∧ w'.cell? ⟨g, 1, none⟩ = some (.slice A2 L2 c2)) (ds := []) #[false, false, false, false, false, false, false, false, false, false, false, false, false, false, false, false] (by kernel_rfl) rfl rfl ⟨cg0', cg1'⟩ (fun hHeld => ?_)
        refine pure_ (i := 0) (N := some 56) (v := ?_) (a' := ?_) #[true, false, false, false, false, false, false, false, false, false, false, false, false, false, false, false] rfl rfl (by kernel_rfl) (fun _ _ _ h => h) (Or.inl ⟨by rfl, ?_⟩) ?_ ?_
        rotate_left
        · intro w'
          go_simp
          with_reducible rfl
        rotate_left
        · simp only [Act.put, List.setIfInBounds_toArray, List.set_cons_zero, List.set_cons_succ, i64_w, i32_w]
          rfl
        refine pure_ (i := 1) (N := some 57) (v := ?_) (a' := ?_) #[true, true, false, false, false, false, false, false, false, false, false, false, false, false, false, false] rfl rfl (by kernel_rfl) (fun _ _ _ h => h) (Or.inl ⟨by rfl, ?_⟩) ?_ ?_
        rotate_left
        · intro w'
          go_simp
          with_reducible rfl
        rotate_left
        · simp only [Act.put, List.setIfInBounds_toArray, List.set_cons_zero, List.set_cons_succ, i64_w, i32_w]
          rfl
        refine pure_ (i := 2) (N := some 58) (v := ?_) (a' := ?_) #[true, true, true, false, false, false, false, false, false, false, false, false, false, false, false, false] rfl rfl (by kernel_rfl) (fun _ _ _ h => h) (Or.inl ⟨by rfl, ?_⟩) ?_ ?_
        rotate_left
        · intro w'
          go_simp
          with_reducible rfl
        rotate_left
        · simp only [Act.put, List.setIfInBounds_toArray, List.set_cons_zero, List.set_cons_succ, i64_w, i32_w]
          rfl
        refine take_ (i := 3) (N := some 59) (v := ?_) (a' := ?_) #[true, true, true, true, false, false, false, false, false, false, false, false, false, false, false, false] rfl rfl (by kernel_rfl) (fun _ _ _ h => h) (Or.inl ⟨by rfl, ?_⟩) hHeld ?_ ?_
        rotate_left
        · rintro w' ⟨s0, s1⟩
          go_simp
          with_reducible rfl
        rotate_left
        · simp only [Act.put, List.setIfInBounds_toArray, List.set_cons_zero, List.set_cons_succ, i64_w, i32_w]
          rfl
        refine pure_ (i := 5) (N := some 61) (v := ?_) (a' := ?_) #[true, true, true, true, false, true, false, false, false, false, false, false, false, false, false, false] rfl rfl (by kernel_rfl) (fun _ _ _ h => h) (Or.inl ⟨by rfl, ?_⟩) ?_ ?_
        rotate_left
        · intro w'
          go_simp
          with_reducible rfl
        rotate_left
        · simp only [Act.put, List.setIfInBounds_toArray, List.set_cons_zero, List.set_cons_succ, i64_w, i32_w]
          rfl
        refine pure_ (i := 7) (N := some 63) (v := ?_) (a' := ?_) #[true, true, true, true, false, true, false, true, false, false, false, false, false, false, false, false] rfl rfl (by kernel_rfl) (fun _ _ _ h => h) (Or.inl ⟨by rfl, ?_⟩) ?_ ?_
        rotate_left
        · intro w'
          go_simp
          with_reducible rfl
        rotate_left
        · simp only [Act.put, List.setIfInBounds_toArray, List.set_cons_zero, List.set_cons_succ, i64_w, i32_w]
          rfl
        refine pure_ (i := 8) (N := some 64) (v := ?_) (a' := ?_) #[true, true, true, true, false, true, false, true, true, false, false, false, false, false, false, false] rfl rfl (by kernel_rfl) (fun _ _ _ h => h) (Or.inl ⟨by rfl, ?_⟩) ?_ ?_
        rotate_left
        · intro w'
          go_simp
          with_reducible rfl
        rotate_left
        · simp only [Act.put, List.setIfInBounds_toArray, List.set_cons_zero, List.set_cons_succ, i64_w, i32_w]
          rfl
        refine pure_ (i := 9) (N := some 65) (v := ?_) (a' := ?_) #[true, true, true, true, false, true, false, true, true, true, false, false, false, false, false, false] rfl rfl (by kernel_rfl) (fun _ _ _ h => h) (Or.inl ⟨by rfl, ?_⟩) ?_ ?_
        rotate_left
        · intro w'
          go_simp
          with_reducible rfl
        rotate_left
        · simp only [Act.put, List.setIfInBounds_toArray, List.set_cons_zero, List.set_cons_succ, i64_w, i32_w]
          rfl
        refine take_ (i := 10) (N := some 66) (v := ?_) (a' := ?_) #[true, true, true, true, false, true, false, true, true, true, true, false, false, false, false, false] rfl rfl (by kernel_rfl) (fun _ _ _ h => h) (Or.inl ⟨by rfl, ?_⟩) hHeld ?_ ?_
        rotate_left
        · rintro w' ⟨s0, s1⟩
          go_simp
          with_reducible rfl
        rotate_left
        · simp only [Act.put, List.setIfInBounds_toArray, List.set_cons_zero, List.set_cons_succ, i64_w, i32_w]
          rfl
        refine pure_ (i := 12) (N := some 68) (v := ?_) (a' := ?_) #[true, true, true, true, false, true, false, true, true, true, true, false, true, false, false, false] rfl rfl (by kernel_rfl) (fun _ _ _ h => h) (Or.inl ⟨by rfl, ?_⟩) ?_ ?_
        rotate_left
        · intro w'
          go_simp
          with_reducible rfl
        rotate_left
        · simp only [Act.put, List.setIfInBounds_toArray, List.set_cons_zero, List.set_cons_succ, i64_w, i32_w]
          rfl
        refine one_ (i := 4) (N := some 60) #[true, true, true, true, true, true, false, true, true, true, true, false, true, false, false, false] rfl rfl (by kernel_rfl) (by decide) (fun K hK => ?_)
        refine goes_ Tryz.func48 (by kernel_rfl) rfl #[.slice A1 L1 c1] (by rfl) rfl rfl (by simp only [List.map_toArray, List.map_cons, List.map_nil]; rfl) ?_
        refine Calls.mono (HCL.out A1 L1 c1 f.1 hl1 HCC.out.1 _ ?_) ?_
        · exact ⟨rfl, rfl, rfl, Nat.le_refl _, fun _ _ => rfl⟩
        rintro e w3 ⟨Ak1, ck1, rfl, hqk1, hsk1⟩
        have HQk1 := Aside0.mk hqk1
        clear hqk1
        refine ⟨_, rfl, ?_⟩
        refine hK.out _ _ hsk1 (fun hHeld => ?_)
        clear hK K
        refine norm_ (a' := ?_) ?_ ?_
        rotate_left
        · show Act.put _ (some 60) _ = _
          simp only [Act.put, List.setIfInBounds_toArray, List.set_cons_zero, List.set_cons_succ, i64_w, i32_w]
          rfl
        refine one_ (i := 6) (N := some 62) #[true, true, true, true, true, true, true, true, true, true, true, false, true, false, false, false] rfl rfl (by kernel_rfl) (by decide) (fun K hK => ?_)
        refine goes_ Tryz.func100 (by kernel_rfl) rfl #[.slice Ak1 L1 ck1, .int .i64 E] (by rfl) rfl rfl (by simp only [List.map_toArray, List.map_cons, List.map_nil]; rfl) ?_
        refine (HLL.out _ Ak1 ck1 L1 f.1 ⟨hl1, hLE1⟩ HQk1.out.1 HQk1.out.2).mono ?_
        rintro e w4 ⟨Ag1x, cg1x, rfl, hqg1x, hsg1x⟩
        have HQg1x := Aside0.mk hqg1x
        clear hqg1x
        refine ⟨_, rfl, ?_⟩
        refine hK.out _ _ hsg1x (fun hHeld => ?_)
        clear hK K
        refine norm_ (a' := ?_) ?_ ?_
        rotate_left
        · show Act.put _ (some 62) _ = _
          simp only [Act.put, List.setIfInBounds_toArray, List.set_cons_zero, List.set_cons_succ, i64_w, i32_w]
          rfl
        refine one_ (i := 11) (N := some 67) #[true, true, true, true, true, true, true, true, true, true, true, true, true, false, false, false] rfl rfl (by kernel_rfl) (by decide) (fun K hK => ?_)
        refine goes_ Tryz.func48 (by kernel_rfl) rfl #[.slice A2 L2 c2] (by rfl) rfl rfl (by simp only [List.map_toArray, List.map_cons, List.map_nil]; rfl) ?_
        refine Calls.mono (HCL.out A2 L2 c2 f.2 hl2 HCC.out.2 _ ?_) ?_
        · exact HQg1x.out.2.1
        rintro e w5 ⟨Ak2, ck2, rfl, hqk2, hsk2⟩
        have HQk2 := Aside0.mk hqk2
        clear hqk2
        refine ⟨_, rfl, ?_⟩
        refine hK.out _ _ hsk2 (fun hHeld => ?_)
        clear hK K
        refine norm_ (a' := ?_) ?_ ?_
        rotate_left
        · show Act.put _ (some 67) _ = _
          simp only [Act.put, List.setIfInBounds_toArray, List.set_cons_zero, List.set_cons_succ, i64_w, i32_w]
          rfl
        refine one_ (i := 13) (N := some 69) #[true, true, true, true, true, true, true, true, true, true, true, true, true, true, false, false] rfl rfl (by kernel_rfl) (by decide) (fun K hK => ?_)
        refine goes_ Tryz.func100 (by kernel_rfl) rfl #[.slice Ak2 L2 ck2, .int .i64 E] (by rfl) rfl rfl (by simp only [List.map_toArray, List.map_cons, List.map_nil]; rfl) ?_
        refine (HLL.out _ Ak2 ck2 L2 f.2 ⟨hl2, hLE2⟩ HQk2.out.1 HQk2.out.2).mono ?_
        rintro e w6 ⟨Ag2x, cg2x, rfl, hqg2x, hsg2x⟩
        have HQg2x := Aside0.mk hqg2x
        clear hqg2x
        refine ⟨_, rfl, ?_⟩
        refine hK.out _ _ hsg2x (fun hHeld => ?_)
        clear hK K
        refine norm_ (a' := ?_) ?_ ?_
        rotate_left
        · show Act.put _ (some 69) _ = _
          simp only [Act.put, List.setIfInBounds_toArray, List.set_cons_zero, List.set_cons_succ, i64_w, i32_w]
          rfl
        refine pure_ (i := 14) (N := some 9) (v := ?_) (a' := ?_) #[true, true, true, true, true, true, true, true, true, true, true, true, true, true, true, false] rfl rfl (by kernel_rfl) (fun _ _ _ h => h) (Or.inl ⟨by rfl, ?_⟩) ?_ ?_
        rotate_left
        · intro w'
          go_simp
          with_reducible rfl
        rotate_left
        · simp only [Act.put, List.setIfInBounds_toArray, List.set_cons_zero, List.set_cons_succ, i64_w, i32_w]
          rfl
        refine pure_ (i := 15) (N := some 10) (v := ?_) (a' := ?_) #[true, true, true, true, true, true, true, true, true, true, true, true, true, true, true, true] rfl rfl (by kernel_rfl) (fun _ _ _ h => h) (Or.inl ⟨by rfl, ?_⟩) ?_ ?_
        rotate_left
        · intro w'
          go_simp
          with_reducible rfl
        rotate_left
        · simp only [Act.put, List.setIfInBounds_toArray, List.set_cons_zero, List.set_cons_succ, i64_w, i32_w]
          rfl
        refine done_ (by kernel_rfl) ?_
        go_wp2
        go_step3
        rename_i K0 hK0
        show K0 _ _
        refine hK0 _ _ ?_
        clear hK0 K0
        obtain ⟨hR6, hB6, hF6, hat6⟩ := HQg2x.out
        obtain ⟨hR5, hB5, hB45, hat5⟩ := HQk2.out
        obtain ⟨hR4, hB4, hF4, hat4⟩ := HQg1x.out
        have hw2 : w.heap.size ≤ w2.heap.size := HN2.out.2.size
        obtain ⟨hnn, hfin, _, _, _⟩ := HN.out
        obtain ⟨hnv, hlr⟩ := HL.out
        have sz4 : w2.heap.size ≤ w4.heap.size := hB4.size
        have hR4' : RB w6 (fun b => w.heap.size ≤ b) (.slice Ag1x E cg1x) (padTo f.1 E) := hR4.same (fun b hb => (hF6.block b (Nat.lt_of_lt_of_le (hR4.lt hb) hB45.size) (fun e => by have h1 := hat5 b e; have h2 := hR4.lt hb; omega)).trans (hB45.block b (hR4.lt hb))) (fun b hb => by have := hR4.1 b hb; omega)
        refine HRest.out _ _ ⟨Ag1x, cg1x, Ag2x, cg2x, 0, ⟨rfl, rfl, rfl, rfl, rfl, rfl, rfl, by rw [hnv]; rfl, rfl, rfl, rfl, rfl⟩, 0, padTo f.1 E, (lenF f ps).2, rfl, by omega, hfin.symm, ?_, hR4'.same (fun _ _ => rfl) hR4'.1, hR6.same (fun _ _ => rfl) (fun b hb => by have := hR6.1 b hb; omega), ?_, ?_, ?_⟩
        · obtain ⟨_, _, q1, _⟩ := HN.out
          rw [padTo_length, q1]; exact Nat.max_eq_right hLE1
        · intro b hb e
          have h1 := hR4.lt hb
          have h5 := hB45.size
          rcases hat6 b e with h | h
          · have := hat5 b h; omega
          · omega
        · rw [hlr]
          exact HN2.out.1.keep (fun b hb => hB6.block b (by omega)) hB6.size
        · exact (HN2.out.2.trans (Fr.of_below (ok := fun _ => False) hB6) (fun b hb => hb.elim)).drewN 0
end Go.Proofs.YtmdpgjdepflbmaaGreat
namespace Go.Proofs.YtmdpgjdepflbmaaGreat
open Go.RowKit Go.Maps Go.Proofs.YtmdpgjdepflbmaaGreatW.PrintWords Go.Proofs.YtmdpgjdepflbmaaGreatW.PrintLast Go.Proofs.YtmdpgjdepflbmaaGreatW.PrintMore
open Go.Proofs.YtmdpgjdepflbmaaGreat.PPagerFolds
set_option linter.unusedVariables false
set_option linter.unusedSimpArgs false

def KB : Kd Bytes where
  sz := 1
  E := [5]
  K := fun w xs cs => ∃ A c, cs = [.slice A xs.length c] ∧ xs.length ≤ c ∧ U8.C w A xs.length xs
  M := fun w base ok xs cs => ∃ v, cs = [v] ∧ RB w ok v xs ∧ ∀ k, v.ownBlock = some k → base ≤ k
  K_len := by
    rintro w x cs ⟨A, c, rfl, _⟩
    rfl
  K_one := by
    rintro w x cs ⟨A, c, rfl, _⟩ u hu
    rw [List.mem_singleton.1 hu]
    rfl
  K_below := by
    rintro w w1 x cs hb ⟨A, c, rfl, hl, hr⟩
    exact ⟨A, c, rfl, hl, Kd.C_below hr hb⟩
  K_of_M := by
    rintro w base ok x cs ⟨v, rfl, h, _⟩
    obtain ⟨A, c, rfl, hl, hr⟩ := h.reads
    exact ⟨A, c, rfl, hl, hr⟩
  M_mono := by
    rintro w base ok ok' x cs hok ⟨v, rfl, h, hb⟩
    exact ⟨v, rfl, h.mono hok, hb⟩
  M_bound := by
    rintro w base ok x cs ⟨v, rfl, h, hb⟩
    refine ⟨v, rfl, ⟨fun k hk => ?_, h.rep⟩, hb⟩
    obtain ⟨cells, hc⟩ := h.block hk
    exact ⟨h.1 k hk, hb k hk, h.lt hk, 5, by simp, cells, hc⟩
  M_move := by
    rintro w w1 base ok x cs hm ⟨v, rfl, h, hb⟩
    exact ⟨v, rfl, h.same (fun k hk => hm k (h.1 k hk)) h.1, hb⟩
  M_lower := by
    rintro w base base' ok x cs hb ⟨v, rfl, h, hb'⟩
    exact ⟨v, rfl, h, fun k hk => Nat.le_trans hb (hb' k hk)⟩

def kF : Kd S50 := Kd.iso (Kd.pair Kd.string KB) (fun x : S50 => (x.f0, x.f1))
theorem kF_mkM (w : World) (base : Nat) (ok : Nat → Prop) (x : S50) {v1 : Value} (g1 : RB w ok v1 x.f1) (gb : ∀ k, v1.ownBlock = some k → base ≤ k) : kF.M w base ok x [.string x.f0, v1] := ⟨[.string x.f0], [v1], rfl, rfl, ⟨v1, rfl, g1, gb⟩⟩
/-- what a crash tells -/
def crashF (fs : Files) : List Name → List Int → List S50
  | [], _ => []
  | y :: r, ps => ⟨strL y, (foundF ((fs y).getD ([], [])) ps).1⟩ :: crashF fs r (foundF ((fs y).getD ([], [])) ps).2

end Go.Proofs.YtmdpgjdepflbmaaGreat
namespace Go.Proofs.YtmdpgjdepflbmaaGreat
open Go.RowKit Go.Maps Go.Proofs.YtmdpgjdepflbmaaGreatW.PrintWords Go.Proofs.YtmdpgjdepflbmaaGreatW.PrintLast Go.Proofs.YtmdpgjdepflbmaaGreatW.PrintMore
open Go.Proofs.YtmdpgjdepflbmaaGreat.PPagerFolds
set_option linter.unusedVariables false
set_option linter.unusedSimpArgs false

/-- what holds at the loop's head -/
structure CrJ (w w2 : World) (fs : Files) (L : List Name) (ps0 : List Int) (i : Nat) (v6 : Value) (W : World) : Prop where
  ex : ∃ ps done, done ++ crashF fs (L.drop i) ps = crashF fs L ps0 ∧ done.length = i ∧ PBox (w.heap.size + 1) W w.heap.size ps ∧ Kd.S kF 94 W w2.heap.size (fun _ => True) v6 done
  fr : Fr (fun b => b = w.heap.size) w2 W

theorem nm_strL (y : Name) : nm (strL y) = y := by simp [nm, strL]

set_option maxHeartbeats 2000000 in
set_option maxRecDepth 100000 in
theorem crash_any {w : World} {d : Nat} {M : DM} {ok : Nat → Prop} (h : DiskAt w d M ok) (hfit : ∀ x f, M.fs x = some f → f.1.length ≤ 4194304 ∧ f.2.length ≤ 4194304) {L : List Name} (hL : IsL M.fs L) (h16 : L.length ≤ 16) (hnm : ∀ y ∈ L, y.length ≤ 1000)
    {A : Option Addr} {n c : Nat} {ps : List Int} (hC : I64.C w A n ps) (hc : n ≤ c) (hA : ∀ ad, 0 < n → A = some ad → ad.block < w.heap.size) :
    Calls Tryz.prog 33 #[dptr d, .slice A n c] w fun e w' => ∃ v, e = .returned v ∧ Kd.S kF 94 w' w.heap.size (fun _ => True) v (crashF M.fs L ps) ∧ Below w.heap.size w w' := by
  have HT := Aside0.mk h.tight
  have hnl : ps.length = n := hC.1
  have hPB0 : PBox (w.heap.size + 1) (w.alloc (.cells #[.slice A n c] 60)) w.heap.size ps := by
    refine ⟨by omega, by simp, A, c, by rw [hnl]; exact heap_alloc_new w _, ?_, by omega, fun ad hn e => ⟨by have := hA ad (by omega) e; omega, by have := hA ad (by omega) e; omega⟩⟩
    rw [hnl]
    exact C_keep hC (fun ad hn e => Below.heap_alloc _ _ _ (hA ad hn e))
  have HN := Aside0.mk (names_any ((h.tight).alloc (.cells #[.slice A n c] 60)) hL.1 hL.2 h16)
  have HP := Aside0.mk hPB0
  have HF := Aside0.mk hfit
  have HLL := Aside0.mk (And.intro hL (And.intro h16 hnm))
  clear h hfit hL h16 hnm hC hc hA hnl hPB0
  go_enter Tryz.func33, Tryz.ntmps33
  go_wp2_with (go_at_call 64; refine HN.out.mono ?_; rintro e w2 ⟨v, rfl, hR, hb⟩; obtain ⟨An, cn, hv, hcn, hCn⟩ := Kd.R_reads hR; have HRN := Aside0.mk (And.intro hCn (And.intro hb (And.intro hcn hR.1))); subst hv; rw [List.length_map] at *; clear hR hb hCn hcn)
  generalize hLn : L.length = Ln at *
  have HLn := Aside0.mk hLn
  clear hLn
  have sz1 : (w.alloc (.cells #[.slice A n c] 60)).heap.size = w.heap.size + 1 := by simp
  have HZ := Aside0.mk sz1
  clear sz1
  go_loopg [6, 13] Ln (fun kq v6 v13 w' => ∃ x : Int, v13 = .int .i64 x ∧ Aside0 (∃ i : Nat, x = i ∧ i + kq = Ln ∧ CrJ w w2 M.fs L ps i v6 w'))
  case atStart =>
    refine ⟨0, rfl, ⟨0, rfl, by omega, ⟨ps, [], rfl, rfl, ?_, Kd.S_nil _ _ _ _ _⟩, Fr.refl _ _⟩⟩
    obtain ⟨_, hb, _⟩ := HRN.out
    exact HP.out.keep (fun k hk => hb.block k (by rw [HZ.out]; omega)) hb.size
  case round =>
    obtain ⟨x, rfl, HI⟩ := hrel
    cases gk with
    | zero =>
      have c2b0 : decide (x < (Ln : Int)) = false := by obtain ⟨i, h1, h2, _⟩ := HI.out; simp; omega
      go_wp2
      go_ret
      obtain ⟨i, h1, h2, ⟨ps', done, q1, q2, q3, q4⟩, q5⟩ := HI.out
      obtain ⟨_, hb, _⟩ := HRN.out
      have hz := HZ.out
      have hs2 := hb.size
      rw [List.drop_eq_nil_of_le (by rw [HLn.out]; omega)] at q1
      have q1' : done = crashF M.fs L ps := by rw [← q1]; simp [crashF]
      rw [← q1']
      exact ⟨u6, rfl, Kd.S_lower q4 (by omega), ⟨q5.os.trans hb.os, q5.tape.trans hb.tape, q5.output.trans hb.output, by have := q5.size; omega, fun k hk => (q5.block k (by omega) (by omega)).trans ((hb.block k (by omega)).trans (Below.heap_alloc _ _ _ hk))⟩⟩
    | succ k1 =>
      have c2b0 : decide (x < (Ln : Int)) = true := by obtain ⟨i, h1, h2, _⟩ := HI.out; simp; omega
      have p256 : 0 ≤ x := by obtain ⟨i, h1, h2, _⟩ := HI.out; omega
      have q256 : x < (Ln : Int) := by obtain ⟨i, h1, h2, _⟩ := HI.out; omega
      obtain ⟨i, hxi, hik, ⟨psi, done, q1, q2, q3, q4⟩, q5⟩ := HI.out
      obtain ⟨hCn, hb, hcn, hown⟩ := HRN.out
      obtain ⟨hL, h16, hnm⟩ := HLL.out
      have hz := HZ.out
      have hs2 := hb.size
      obtain ⟨ad, ead, hs0⟩ := Kd.at_string hCn x p256 (by simpa [HLn.out] using q256)
      subst ead
      have hadb : (ad.add x.toNat).block = ad.block := by unfold Addr.add; split <;> rfl
      have hs1 : wr.cell? (ad.add x.toNat) = some (.string (rdOf ByteArray.empty (L.map strL) x)) := by
        refine (World.cell?_of_block ?_).trans hs0
        refine q5.block _ (World.block_lt_of_cell? _ _ hs0) ?_
        rw [hadb]
        have := hown ad.block rfl
        omega
      have hiL : i < L.length := by rw [HLn.out]; omega
      obtain ⟨y, hy⟩ : ∃ y, L[i]? = some y := ⟨_, List.getElem?_eq_getElem hiL⟩
      have hrd : rdOf ByteArray.empty (L.map strL) x = strL y := by
        unfold rdOf
        rw [hxi, Int.toNat_natCast, List.getD_eq_getElem?_getD, List.getElem?_map, hy]; rfl
      rw [hrd] at hs1
      have hyL : y ∈ L := List.mem_of_getElem? hy
      obtain ⟨f, hfy⟩ := Option.isSome_iff_exists.1 ((hL.2 y).1 hyL)
      obtain ⟨bf, bt, blk, sv, ev, sz, hD⟩ := HT.out
      have hDW := hD.move (w' := wr) (fun k hk _ => (q5.block k (by omega) (by have := hk.2; omega)).trans ((hb.block k (by have := hk.2; omega)).trans (Below.heap_alloc _ _ _ hk.2)))
      obtain ⟨g, hg⟩ := hDW.some_ hfy
      obtain ⟨hcells, hRs, hRe⟩ := hDW.file _ _ _ hg hfy
      obtain ⟨A1, c1, hsv, hle1, hC1⟩ := hRs.reads
      obtain ⟨A2, c2, hev, hle2, hC2⟩ := hRe.reads
      have hl := hDW.look (s := strL y) (by have := hnm y hyL; simp [strL, ByteArray.size, maxLen]; omega)
      rw [show blk (strL y).data.toList = some g from by rw [← hg]; rfl] at hl
      simp only [ptrV] at hl
      have h0 := hDW.c0
      rw [hsv, hev] at hcells
      have hgo := hDW.okb _ _ hg
      have HFD : Aside0 (Calls Tryz.prog 65 #[.pointer (some ⟨g, 0, none⟩), .func (.func 63) #[] #[.pointer (some ⟨w.heap.size, 0, none⟩)]] wr fun e w' => ∃ v, e = .returned v ∧ RB w' (fun k => wr.heap.size ≤ k) v (foundF f psi).1 ∧ PBox (w.heap.size + 1) w' w.heap.size (foundF f psi).2 ∧ Fr (fun k => k = w.heap.size) wr w') :=
        ⟨found_any (by have := q5.size; omega) hcells hC1 hle1 hC2 hle2 (HF.out _ _ hfy).1 (HF.out _ _ hfy).2 q3 (by have := hgo.2; omega) (fun a e => by have := (hRs.1 a.block (by rw [hsv, e]; rfl)).2; omega) (fun a e => by have := (hRe.1 a.block (by rw [hev, e]; rfl)).2; omega)⟩
      obtain ⟨x1, hx1w⟩ : ∃ x1, IntKind.i64.wrap (x + 1) = x1 := ⟨_, rfl⟩
      have HX1 : Aside0 (x1 = x + 1) := ⟨by rw [← hx1w, IntKind.wrap_i64]; omega⟩
      have HBP : Aside0 (w.heap.size < w2.heap.size) := ⟨by omega⟩
      have HQ4 := Aside0.mk q4
      have HQ5 := Aside0.mk q5
      have HR := Aside0.mk (And.intro hxi (And.intro hik (And.intro q1 (And.intro q2 (And.intro hy (And.intro hfy (And.intro hs2 h16)))))))
      clear hCn hb hcn hown hL h16 hnm hz hs2 hs0 hadb hiL hrd hyL hD hDW hcells hRs hRe hC1 hC2 hsv hev hgo hxi hik q1 q2 q3 q4 q5 hy hg hfy HI
      have HLF : ∃ LF, LF = (foundF f psi).1.length := ⟨_, rfl⟩
      obtain ⟨LF, hLF⟩ := HLF
      have HFL := Aside0.mk hLF
      clear hLF
      go_wp2_with (first
        | (go_at_call 65
           refine HFD.out.mono ?_
           rintro e w3 ⟨v', rfl, hq⟩
           obtain ⟨A', c', hv'⟩ := hq.1.slice
           rw [← HFL.out] at hv'
           subst hv'
           have HQ := Aside0.mk hq
           clear hq)
        | ((with_reducible refine gate_builtin (b := .append) (xs := #[.tmp 17, .tmp 28]) rfl ?_)
           at_builtin
           refine Kd.S_append kF (w0 := w3) w2.heap.size rfl (.tmp 17) (.tmp 28) 68 94 (.agg #[(.string ⟨#[]⟩), (.slice none 0 0)]) 40 rfl Tryz.underlying68 info94 rfl (by decide) (by omega) u6 done (⟨strL y, (foundF f psi).1⟩ : S50) [.string (strL y), .slice A' LF c'] (fun _ => True) (fun k_ => (Value.slice A' LF c').ownBlock = some k_) rfl rfl ?aP ?aK (fun _ _ => trivial) ?aO ?aB ?aS ?aL ?_
           case aP => exact kF_mkM _ _ _ (⟨strL y, (foundF f psi).1⟩ : S50) (HQ.out.1.same (fun _ _ => rfl) (fun _ hk => hk)) (fun k hk => by have h1 := HQ.out.1.1 k hk; have h2 := HQ5.out.size; omega)
           case aK =>
             intro k hk
             refine ⟨trivial, fun e => ?_⟩
             have h1 := HQ.out.1.1 k hk
             obtain ⟨inner, ho⟩ := Kd.S_own HQ4.out
             obtain ⟨cells, hcl⟩ := own_typed ho k e.symm
             have h2 := heap_lt hcl
             omega
           case aO =>
             have h5 := HQ5.out.size
             have h6 := HR.out.2.2.2.2.2.2.1
             refine Kd.S_mono (Kd.S_step (Kd.S_bound HQ4.out) (w1 := w3) (fun k hk _ => HQ.out.2.2.block k hk.2.2.1 (by have h1 := hk.2.1; have h2 := HBP.out; omega))) (fun k hk => ⟨trivial, fun e => ?_⟩)
             have h1 := HQ.out.1.1 k e
             have h2 := hk.2.2.1
             omega
           case aB => exact Below.refl _ _
           case aS => have h1 := HQ5.out.size; have h2 := HQ.out.2.2.size; omega
           case aL => have := HR.out; omega
           intro v4 w4 ho hb4 hg4 hat4
           have HO := Aside0.mk (And.intro ho (And.intro hg4 hat4))
           clear ho hb4 hg4 hat4))
      go_roundg k1
      case measure => omega
      case rel =>
        obtain ⟨hxi, hik, q1, q2, hy, hfy, hs2, h16⟩ := HR.out
        obtain ⟨ho, hg4, hat4⟩ := HO.out
        obtain ⟨hR3, hP3, hF3⟩ := HQ.out
        have q5 := HQ5.out
        have hbp := HBP.out
        have hown6 : ∀ k, u6.ownBlock = some k → w2.heap.size ≤ k := fun k hk => by
          obtain ⟨inner, ho'⟩ := Kd.S_own HQ4.out
          exact own_base ho' k hk
        refine ⟨x1, rfl, ⟨i + 1, by rw [HX1.out]; omega, by omega, ⟨(foundF f psi).2, done ++ [⟨strL y, (foundF f psi).1⟩], ?_, by simp [q2], ?_, ho⟩, ?_⟩⟩
        · rw [List.append_assoc, ← q1]
          have hiL : i < L.length := by rw [HLn.out]; omega
          have e1 : L.drop i = y :: L.drop (i + 1) := by
            rw [List.drop_eq_getElem_cons hiL]
            have := List.getElem?_eq_getElem hiL
            rw [hy] at this
            rw [← Option.some.inj this]
          rw [e1]
          simp [crashF, hfy]
        · exact hP3.keep (fun k hk => hg4.block k (by have := q5.size; have := hF3.size; omega) (fun e => by have := hown6 k e.symm; omega)) hg4.size
        · refine q5.trans (ok' := fun b => b = w.heap.size ∨ u6.ownBlock = some b) ⟨hg4.os.trans hF3.os, hg4.tape.trans hF3.tape, hg4.output.trans hF3.output, Nat.le_trans hF3.size hg4.size, fun k hk hn => ?_⟩ (fun k hk => hk.imp id (fun e => hown6 k e))
          have h1 := hF3.size
          exact (hg4.block k (by omega) (fun e => hn (.inr e.symm))).trans (hF3.block k hk (fun e => hn (.inl e)))
end Go.Proofs.YtmdpgjdepflbmaaGreat

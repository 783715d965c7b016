/-
  DiskSafe's plain part: the file that is kept, what a crash tells of it, a disk of a crash's files.
-/
import Derived.Test.YtgpniaplpibhfaaActs
namespace Go.Proofs.Ytgpniaplpibhfaa
open Go.RowKit Go.Maps Go.Proofs.YtgpniaplpibhfaaW.PrintWords Go.Proofs.YtgpniaplpibhfaaW.PrintLast Go.Proofs.YtgpniaplpibhfaaW.PrintMore
open Go.Proofs.Ytgpniaplpibhfaa.PDiskSafe
set_option linter.unusedVariables false
set_option linter.unusedSimpArgs false

abbrev sK : ByteArray := { data := #[107, 101, 112, 116] }
theorem good_sK : GoodN sK := by
  refine ⟨fun j h0 h1 => ?_, by decide, by decide⟩
  have : j = 0 ∨ j = 1 ∨ j = 2 ∨ j = 3 := by have : sK.size = 4 := rfl; omega
  rcases this with rfl | rfl | rfl | rfl
  · exact .inl (by decide)
  · exact .inl (by decide)
  · exact .inl (by decide)
  · exact .inl (by decide)
def keepB : Bytes := [107, 101, 112, 116, 32, 102, 111, 114, 32, 101, 118, 101, 114, 44, 32, 115, 101, 99, 116, 111, 114, 32, 98, 121, 32, 115, 101, 99, 116, 111, 114, 44, 32, 97, 115, 32, 105, 116, 32, 119, 97, 115, 32, 115, 121, 110, 99, 101, 100, 44, 32, 97, 110, 100, 32, 110, 111, 116, 32, 97, 32, 98, 121, 116, 101, 32, 111, 102, 32, 105, 116, 32, 105, 115, 32, 116, 111, 32, 98, 101, 32, 108, 111, 115, 116]
theorem keepB_len : keepB.length = 85 := rfl
theorem writeB_keep : writeB [] 0 keepB = keepB := by
  unfold writeB padTo splice
  simp [keepB]
theorem trOf0 (n : Int) : trOf [] n = 0 := rfl
theorem strokeR_ok {i : Nat} {M : DM} (h : Ok [] i M) (fs1 fs2 : Files) : strokeR M 0 fs1 fs2 = (0, { M with st := M.st + 1, fs := fs2 }) := by
  unfold strokeR
  rw [if_neg (by rw [h.off]; decide), h.tr, trOf0, if_neg (by decide), if_neg (by decide), if_neg (by decide), if_pos rfl]

section
variable {i d B : Nat} {M : DM} {w : World} {ok : Nat → Prop}
theorem keep_write (h : DJ [] i d B M ok w) (hB : B ≤ w.heap.size) (hi : i < 1000000) (hM : M.fs (nm sK) = none) (hc : card M.fs < 16) {Ab : Option Addr} {cb : Nat} (hsrc : Src w ok Ab 85 keepB) (hsl : ∀ ad, Ab = some ad → ad.block < w.heap.size) :
    Calls Try.prog 16 #[dptr d, .string sK, .int .i64 0, .slice Ab 85 cb] w fun e w' => e = .returned (.int .i64 0) ∧ ∃ M' ok', M'.fs (nm sK) = some ([], keepB) ∧ DJ [] (i + 1) d B M' ok' w' ∧ (∀ k, ok' k → ok k ∨ w.heap.size ≤ k) ∧ Fr ok w w' := by
  have hval : writeM M (nm sK) 0 keepB = (0, { M with st := M.st + 1, fs := setF M.fs (nm sK) (some ([], keepB)) }) := by
    unfold writeM
    rw [hM]
    simp only [if_pos hc]
    rw [strokeR_ok h.ok, writeB_keep]
  have hw := write_any h.at_ (h.ok.fit hi) good_sK (a := 0) (cb := cb) (b := keepB) (nb := 85) (by omega) (by omega) hsrc hsl
  have ho := fun (w' : World) (okx : Nat → Prop) hD' => out_write (a := 0) (nb := 85) (b := keepB) (w' := w') (okx := okx) h.ok good_sK rfl (by omega) h.at_ hD'
  rw [hval] at hw ho
  refine hw.mono fun e w' ⟨he, hL⟩ => ⟨he, ?_⟩
  obtain ⟨ok', q1, q2, q3⟩ := hL
  exact ⟨_, ok', by simp [setF], ⟨q1, fun j hj => (q2 j hj).elim (h.lo j) (fun hle => by omega), (ho _ _ q1).ok⟩, q2, q3⟩
theorem keep_sync (h : DJ [] i d B M ok w) (hB : B ≤ w.heap.size) (hi : i < 1000000) (hM : M.fs (nm sK) = some ([], keepB)) :
    Calls Try.prog 14 #[dptr d, .string sK] w fun e w' => e = .returned (.int .i64 0) ∧ ∃ M' ok', M'.fs (nm sK) = some (keepB, keepB) ∧ DJ [] (i + 1) d B M' ok' w' ∧ (∀ k, ok' k → ok k ∨ w.heap.size ≤ k) ∧ Fr ok w w' := by
  have hval : syncM M (nm sK) = (0, { M with st := M.st + 1, fs := setF M.fs (nm sK) (some (keepB, keepB)) }) := by
    unfold syncM
    rw [hM]
    simp only
    rw [strokeR_ok h.ok]
  have hw := sync_any h.at_ (h.ok.fit hi) good_sK
  have ho := fun (w' : World) (okx : Nat → Prop) hD' => out_sync (w' := w') (okx := okx) h.ok good_sK h.at_ hD'
  rw [hval] at hw ho
  refine hw.mono fun e w' ⟨he, hL⟩ => ⟨he, ?_⟩
  obtain ⟨ok', q1, q2, q3⟩ := hL
  exact ⟨_, ok', by simp [setF], ⟨q1, fun j hj => (q2 j hj).elim (h.lo j) (fun hle => by omega), (ho _ _ q1).ok⟩, q2, q3⟩

/-! what a crash tells -/
theorem crashF_mem (fs : Files) : ∀ (L : List Name) (ps : List Int), ∀ z ∈ crashF fs L ps, ∃ y ∈ L, z.f0 = strL y ∧ ∃ ps', z.f1 = (foundF ((fs y).getD ([], [])) ps').1
  | [], _, z, hz => by simp [crashF] at hz
  | y :: r, ps, z, hz => by
    simp only [crashF, List.mem_cons] at hz
    rcases hz with rfl | hz
    · exact ⟨y, List.mem_cons_self, rfl, _, rfl⟩
    · obtain ⟨y', hy, h⟩ := crashF_mem fs r _ z hz
      exact ⟨y', List.mem_cons_of_mem _ hy, h⟩
theorem crashF_names (fs : Files) : ∀ (L : List Name) (ps : List Int), (crashF fs L ps).map (fun z => nm z.f0) = L
  | [], _ => rfl
  | y :: r, ps => by
    simp only [crashF, List.map_cons]
    rw [crashF_names fs r, nm_strL]
/-- the kept file is in each crash -/
structure Told (X : List S50) : Prop where
  files : FilesOk X
  is_ : ∀ z ∈ X, z.f0 = sK → z.f1 = keepB
  there : ∃ z ∈ X, z.f0 = sK
theorem told (h : Ok [] i M) (hD : DiskAt w d M ok) (hK : M.fs (nm sK) = some (keepB, keepB)) (ps : List Int) : Told (crashL M.fs ps) := by
  obtain ⟨L, hL⟩ := hD.isL
  have hc := h.cd
  rw [card_eq hL] at hc
  have hb := (h.crash hD ps).2
  rw [crashL_eq hL] at hb ⊢
  refine ⟨⟨by rw [crashF_length]; exact hc, fun z hz => ⟨?_, hb z hz⟩, ?_⟩, fun z hz e => ?_, ?_⟩
  · obtain ⟨y, hy, e, _⟩ := crashF_mem _ _ _ z hz
    obtain ⟨f, hf⟩ := Option.isSome_iff_exists.1 ((hL.2 y).1 hy)
    rw [e]; exact (h.len y f hf).2.2
  · have := hL.1
    rw [← crashF_names M.fs L ps] at this
    exact List.pairwise_map.1 this
  · obtain ⟨y, hy, e1, ps', e2⟩ := crashF_mem _ _ _ z hz
    have hy' : y = nm sK := by rw [← nm_strL y, ← e1, e]
    rw [e2, hy', hK, Option.getD_some, foundF_same]
  · have : nm sK ∈ L := (hL.2 _).2 (by rw [hK]; rfl)
    rw [← crashF_names M.fs L ps, List.mem_map] at this
    obtain ⟨z, hz, e⟩ := this
    exact ⟨z, hz, by rw [← strL_nm' z.f0, e, strL_nm']⟩

/-! a disk of a crash's files -/
theorem fsOf_get {X : List S50} (hX : X.Pairwise (fun x y => nm x.f0 < nm y.f0)) : ∀ z ∈ X, fsOf X (nm z.f0) = some (z.f1, z.f1) := by
  induction X with
  | nil => intro z hz; simp at hz
  | cons a X ih =>
    intro z hz
    obtain ⟨h1, h2⟩ := List.pairwise_cons.1 hX
    unfold fsOf
    rw [List.find?_cons]
    by_cases e : nm a.f0 = nm z.f0
    · simp only [e, decide_true]
      rcases List.mem_cons.1 hz with rfl | hz
      · rfl
      · have := h1 z hz
        rw [e] at this
        exact absurd this (List.lt_irrefl _)
    · simp only [e, decide_false]
      rcases List.mem_cons.1 hz with rfl | hz
      · exact absurd rfl e
      · exact ih h2 z hz
theorem crashF_again {X : List S50} (hX : X.Pairwise (fun x y => nm x.f0 < nm y.f0)) : ∀ (l : List S50) (ps : List Int), (∀ z ∈ l, z ∈ X) → crashF (fsOf X) (l.map (fun z => nm z.f0)) ps = l
  | [], _, _ => rfl
  | a :: l, ps, h => by
    simp only [List.map_cons, crashF]
    rw [fsOf_get hX a (h a List.mem_cons_self), Option.getD_some, foundF_same, crashF_again hX l _ (fun z hz => h z (List.mem_cons_of_mem _ hz)), strL_nm']
theorem crashL_again {X : List S50} (h : FilesOk X) (ps : List Int) : crashL (fsOf X) ps = X := by
  rw [crashL_eq (fsOf_isL h.rise)]
  exact crashF_again h.rise X ps (fun _ hz => hz)
theorem list_new {X : List S50} (h : FilesOk X) {W : World} {d2 : Nat} {ok2 : Nat → Prop} (hD : DiskAt W d2 (newM X []) ok2) :
    Calls Try.prog 22 #[dptr d2] W fun e w' => ∃ A c, e = .returned (.tuple #[.slice A X.length c, .int .i64 0]) ∧ (Kd.string.C w' A X.length (X.map (·.f0)) ∧ X.length ≤ c) ∧ Below W.heap.size W w' := by
  have hL := fsOf_isL h.rise
  refine (list_on hD rfl hL.1 hL.2 (by simpa using h.few)).mono ?_
  rintro e w' ⟨v, rfl, hR, hB⟩
  rw [List.map_map, show (strL ∘ fun x : S50 => nm x.f0) = (fun x : S50 => x.f0) from funext (fun x => strL_nm' x.f0)] at hR
  obtain ⟨A, c, hv, hle, hC⟩ := Kd.R_reads hR
  rw [List.length_map] at hv hle hC
  subst hv
  exact ⟨A, c, rfl, ⟨hC, hle⟩, hB⟩
theorem read_new {X : List S50} (h : FilesOk X) {W : World} {d2 : Nat} {ok2 : Nat → Prop} (hD : DiskAt W d2 (newM X []) ok2) {z : S50} (hz : z ∈ X) :
    Calls Try.prog 23 #[dptr d2, .string z.f0, .int .i64 0, .int .i64 4194304] W fun e w' => ∃ A c, e = .returned (.tuple #[.slice A z.f1.length c, .int .i64 0]) ∧ (U8.C w' A z.f1.length z.f1 ∧ z.f1.length ≤ c) ∧ Below W.heap.size W w' := by
  have hz1 := h.each z hz
  refine (read_some hD hz1.1 0 4194304 (by omega) (by omega) rfl (f := (z.f1, z.f1)) (fsOf_get h.rise z hz) hz1.2).mono ?_
  rintro e w' ⟨v, rfl, h1, h2⟩
  have e4 : ((z.f1, z.f1).2.drop 0).take 4194304 = z.f1 := by
    simp only [List.drop_zero]
    exact List.take_of_length_le hz1.2
  rw [e4] at h1
  obtain ⟨A, c, hv, hle, hC⟩ := Kd.R_reads h1
  subst hv
  exact ⟨A, c, rfl, ⟨hC, hle⟩, h2⟩
theorem new_X {X : List S50} (h : FilesOk X) {W : World} {A : Option Addr} {c : Nat} (hC : Kd.C k50 W A X.length X) (hc : X.length ≤ c) :
    Calls Try.prog 9 #[.slice A X.length c, .slice none 0 0] W fun e w' => ∃ d2 ok2, e = .returned (.tuple #[dptr d2, .int .i64 0]) ∧ DJ [] 0 d2 W.heap.size (newM X []) ok2 w' ∧ Below W.heap.size W w' := by
  refine (new_ok (l := X) (t := []) hC hc (nil_C39 W) (Nat.le_refl _) h ok_nilT (by simp)).mono ?_
  rintro e w' ⟨rfl, hD, hB⟩
  exact ⟨_, _, rfl, ⟨hD, fun j hj => hj, ok_new h (fun n => by rw [trOf0]; decide)⟩, hB⟩
theorem copy_X {X : List S50} (h : FilesOk X) {W : World} {A : Option Addr} {c : Nat} (hC : Kd.C k50 W A X.length X) (hc : X.length ≤ c) :
    Calls Try.prog 21 #[.slice A X.length c] W fun e w' => ∃ A c, e = .returned (.slice A X.length c) ∧ (Kd.C k50 w' A X.length X ∧ X.length ≤ c) ∧ Below W.heap.size W w' := by
  have hl := h.few
  refine (cadastreref0_CopyFiles.calls _ A c X X W hC hc (copyfiles_f X (N := 4194304) (by omega) (fun z hz => (h.each z hz).2) (by omega))).mono ?_
  rintro e w' ⟨v, rfl, hS, hB⟩
  obtain ⟨A', c', hv, hle, hC'⟩ := Kd.S_reads hS
  subst hv
  exact ⟨A', c', rfl, ⟨hC', hle⟩, hB⟩
def five : List Int := [1, 1, 1, 5, 5]
theorem C_five (W : World) (fr : Nat × Nat) : I64.C (W.alloc (.cells #[.int .i64 1, .int .i64 1, .int .i64 1, .int .i64 5, .int .i64 5] 3 fr)) (some ⟨W.heap.size, 0, none⟩) 5 five := by
  refine ⟨rfl, by omega, fun _ => ⟨⟨W.heap.size, 0, none⟩, rfl, fun j p hj => ⟨[Value.int .i64 p], rfl, rfl, fun i u hu => ?_⟩⟩⟩
  obtain ⟨rfl, rfl⟩ : i = 0 ∧ u = Value.int .i64 p := by
    cases i with
    | zero => simp at hu; exact ⟨rfl, hu.symm⟩
    | succ i => simp at hu
  have e : ((⟨W.heap.size, 0, none⟩ : Addr).add (j * I64.sz + 0)) = ⟨W.heap.size, j, none⟩ := by
    have : j * I64.sz + 0 = j := by simp [Kd.int, Kd.scalar]
    rw [this]; cases j <;> simp [Addr.add]
  rw [e, cell_of_row _ _ _ _ 3 fr (heap_alloc_new W _)]
  have : (#[Value.int .i64 1, Value.int .i64 1, Value.int .i64 1, Value.int .i64 5, Value.int .i64 5] : Array Value) = (five.map (Value.int .i64)).toArray := rfl
  rw [this]
  simp [List.getElem?_map, hj]
/-- the row that is kept lies where it lay -/
def KeepAt (W : World) (kb : Nat) : Prop := W.heap[kb]? = some (.cells (keepB.map (Value.int .u8)).toArray 5 (85, 86))
theorem KeepAt.C {W : World} {kb : Nat} (h : KeepAt W kb) : U8.C W (some ⟨kb, 0, none⟩) 85 keepB := by
  refine ⟨rfl, by omega, fun _ => ⟨⟨kb, 0, none⟩, rfl, fun j p hj => ⟨[Value.int .u8 p], rfl, rfl, fun i u hu => ?_⟩⟩⟩
  obtain ⟨rfl, rfl⟩ : i = 0 ∧ u = Value.int .u8 p := by
    cases i with
    | zero => simp at hu; exact ⟨rfl, hu.symm⟩
    | succ i => simp at hu
  have e : ((⟨kb, 0, none⟩ : Addr).add (j * U8.sz + 0)) = ⟨kb, j, none⟩ := by
    have : j * U8.sz + 0 = j := by simp [Kd.int, Kd.scalar]
    rw [this]; cases j <;> simp [Addr.add]
  rw [e, cell_of_row _ _ _ _ 5 (85, 86) h]
  simp [List.getElem?_map, hj]
theorem KeepAt.below {W W' : World} {kb : Nat} (h : KeepAt W kb) (hb : Below W.heap.size W W') : KeepAt W' kb := (hb.block kb (heap_lt h)).trans h
theorem KeepAt.fr {W W' : World} {kb : Nat} (h : KeepAt W kb) (hf : Fr ok W W') (hk : ¬ ok kb) : KeepAt W' kb := (hf.block kb (heap_lt h) hk).trans h
end

/-- the disk, the kept file on it, the row that was written -/
structure KJ (i d kb : Nat) (fK : Option (Bytes × Bytes)) (wl W : World) : Prop where
  ex : ∃ M ok, DJ [] i d wl.heap.size M ok W ∧ M.fs (nm sK) = fK ∧ ¬ ok kb ∧ ∀ k, ok k → k < W.heap.size
  keep : KeepAt W kb
  below : Below wl.heap.size wl W
section
variable {i d kb : Nat} {fK : Option (Bytes × Bytes)} {wl W w' : World} {s : ByteArray}
theorem KJ.of_below (h : KJ i d kb fK wl W) (hb : Below W.heap.size W w') : KJ i d kb fK wl w' := by
  obtain ⟨⟨M, ok, h1, h2, h3, h4⟩, h5, h6⟩ := h
  exact ⟨⟨M, ok, h1.below hb, h2, h3, fun k hk => Nat.lt_of_lt_of_le (h4 k hk) hb.size⟩, h5.below hb, h6.trans (hb.mono h6.size)⟩
theorem KJ.drewN (h : KJ i d kb fK wl W) (n : Nat) : KJ i d kb fK wl (W.drewN n) := h.of_below (pw_below_drewN (Below.refl _ _) n)
theorem KJ.up {j : Nat} (h : KJ i d kb fK wl W) (hij : i ≤ j) : KJ j d kb fK wl W := by
  obtain ⟨⟨M, ok, h1, h2, h3, h4⟩, h5, h6⟩ := h
  exact ⟨⟨M, ok, ⟨h1.at_, h1.lo, h1.ok.up hij⟩, h2, h3, h4⟩, h5, h6⟩
/-- behind a stroke -/
theorem KJ.step {M M' : DM} {ok ok' : Nat → Prop} {fK' : Option (Bytes × Bytes)} (h5 : KeepAt W kb) (h6 : Below wl.heap.size wl W) (h1 : DJ [] i d wl.heap.size M ok W) (h3 : ¬ ok kb) (h1' : DJ [] (i + 1) d wl.heap.size M' ok' w') (hk : ∀ k, ok' k → ok k ∨ W.heap.size ≤ k) (hF : Fr ok W w') (hf : M'.fs (nm sK) = fK') : KJ (i + 1) d kb fK' wl w' :=
  ⟨⟨M', fun k => ok' k ∧ k < w'.heap.size, h1'.tight, hf, fun hh => (hk kb hh.1).elim h3 (fun hle => by have := heap_lt h5; omega), fun k hk => hk.2⟩, h5.fr hF h3, h6.trans (hF.below (fun k hk => h1.lo k hk) h6.size)⟩
theorem kj_sync (h : KJ i d kb (some ([], keepB)) wl W) (hi : i < 1000000) :
    Calls Try.prog 14 #[dptr d, .string sK] W fun e w' => e = .returned (.int .i64 0) ∧ KJ (i + 1) d kb (some (keepB, keepB)) wl w' := by
  obtain ⟨⟨M, ok, h1, h2, h3, h4⟩, h5, h6⟩ := h
  refine (keep_sync h1 h6.size hi h2).mono ?_
  rintro e w' ⟨he, M', ok', q1, q2, q3, q4⟩
  exact ⟨he, KJ.step h5 h6 h1 h3 q2 q3 q4 q1⟩
theorem nm_ne (h : s ≠ sK) : nm sK ≠ nm s := fun e => h (by rw [← strL_nm' s, ← e, strL_nm'])
theorem KJ.act {M : DM} {ok : Nat → Prop} {e : Ending} (h5 : KeepAt W kb) (h6 : Below wl.heap.size wl W) (h1 : DJ [] i d wl.heap.size M ok W) (h2 : M.fs (nm sK) = fK) (h3 : ¬ ok kb) (hne : s ≠ sK) (hA : Act1 [] (nm s) i d wl.heap.size M ok W e w') : ∃ r, e = .returned (.int .i64 r) ∧ KJ (i + 1) d kb fK wl w' := by
  obtain ⟨r, M', ok', he, hO, q2, q3, q4⟩ := hA
  exact ⟨r, he, KJ.step h5 h6 h1 h3 q2 q3 q4 (by rw [hO.else_ _ (nm_ne hne), h2])⟩
theorem kj_trunc (h : KJ i d kb fK wl W) (hi : i < 1000000) (hs : s.size ≤ maxLen) (hne : s ≠ sK) (a : Int) :
    Calls Try.prog 13 #[dptr d, .string s, .int .i64 a] W fun e w' => ∃ r, e = .returned (.int .i64 r) ∧ KJ (i + 1) d kb fK wl w' := by
  obtain ⟨⟨M, ok, h1, h2, h3, h4⟩, h5, h6⟩ := h
  exact (act_trunc h1 h6.size hi hs a).mono fun e w' hA => KJ.act h5 h6 h1 h2 h3 hne hA
theorem kj_sync_ (h : KJ i d kb fK wl W) (hi : i < 1000000) (hs : s.size ≤ maxLen) (hne : s ≠ sK) :
    Calls Try.prog 14 #[dptr d, .string s] W fun e w' => ∃ r, e = .returned (.int .i64 r) ∧ KJ (i + 1) d kb fK wl w' := by
  obtain ⟨⟨M, ok, h1, h2, h3, h4⟩, h5, h6⟩ := h
  exact (act_sync h1 h6.size hi hs).mono fun e w' hA => KJ.act h5 h6 h1 h2 h3 hne hA
theorem kj_del (h : KJ i d kb fK wl W) (hi : i < 1000000) (hs : s.size ≤ maxLen) (hne : s ≠ sK) :
    Calls Try.prog 15 #[dptr d, .string s] W fun e w' => ∃ r, e = .returned (.int .i64 r) ∧ KJ (i + 1) d kb fK wl w' := by
  obtain ⟨⟨M, ok, h1, h2, h3, h4⟩, h5, h6⟩ := h
  exact (act_del h1 h6.size hi hs).mono fun e w' hA => KJ.act h5 h6 h1 h2 h3 hne hA
theorem kj_write_ {W2 : World} (h : KJ i d kb fK wl W) (hi : i < 1000000) (hs : s.size ≤ maxLen) (hne : s ≠ sK) (a : Int) (hW : Below W.heap.size W W2) {Ab : Option Addr} {cb : Nat} {b : Bytes} (hC : U8.C W2 Ab b.length b) (hA : ∀ ad, Ab = some ad → W.heap.size ≤ ad.block ∧ ad.block < W2.heap.size) :
    Calls Try.prog 16 #[dptr d, .string s, .int .i64 a, .slice Ab b.length cb] W2 fun e w' => ∃ r, e = .returned (.int .i64 r) ∧ KJ (i + 1) d kb fK wl w' ∧ ∀ gg, W.heap.size ≤ gg → gg < W2.heap.size → w'.heap[gg]? = W2.heap[gg]? := by
  have h' := h.of_below hW
  obtain ⟨⟨M, ok, h1, h2, h3, h4⟩, h5, h6⟩ := h
  have h6' := h6.trans (hW.mono h6.size)
  refine (act_write (h1.below hW) h6'.size hi hs a ⟨hC, fun ad e hk => by have := (hA ad e).1; have := h4 _ hk; omega⟩ (fun ad e => (hA ad e).2)).mono fun e w' hA => ?_
  have hF : Fr ok W2 w' := by obtain ⟨_, _, _, _, _, _, _, q⟩ := hA; exact q
  obtain ⟨r, he, hk⟩ := KJ.act (h5.below hW) h6' (h1.below hW) h2 h3 hne hA
  exact ⟨r, he, hk, fun gg h1 h2 => hF.block gg h2 (fun hk => by have := h4 _ hk; omega)⟩
theorem kj_first {W3 : World} {F : List S50} {ok3 : Nat → Prop} (hN : DJ [] 0 d wl.heap.size (newM F []) ok3 W3) (hlt : ∀ k, ok3 k → k < W3.heap.size) (hB : Below wl.heap.size wl W3) (hK : (newM F []).fs (nm sK) = none) (hF : FilesOk F) (h8 : F.length ≤ 8) (n : Nat) :
    Calls Try.prog 16 #[dptr d, .string sK, .int .i64 0, .slice (some ⟨W3.heap.size, 0, none⟩) 85 85] ((W3.drewN n).alloc (.cells (keepB.map (Value.int .u8)).toArray 5 (85, 86))) fun e w' => e = .returned (.int .i64 0) ∧ KJ 1 d W3.heap.size (some ([], keepB)) wl w' := by
  have hb : Below W3.heap.size W3 ((W3.drewN n).alloc (.cells (keepB.map (Value.int .u8)).toArray 5 (85, 86))) := below_alloc (pw_below_drewN (Below.refl _ _) n) _
  have h5 : KeepAt ((W3.drewN n).alloc (.cells (keepB.map (Value.int .u8)).toArray 5 (85, 86))) W3.heap.size := heap_alloc_new (W3.drewN n) _
  have h3 : ¬ ok3 W3.heap.size := fun hk => Nat.lt_irrefl _ (hlt _ hk)
  have h6 := hB.trans (hb.mono hB.size)
  have hc : card (newM F []).fs < 16 := by
    show card (fsOf F) < 16
    rw [card_eq (fsOf_isL hF.rise)]
    simp; omega
  refine (keep_write (hN.below hb) h6.size (by omega) hK hc ⟨h5.C, fun ad e => by obtain rfl := Option.some.inj e; exact h3⟩ (fun ad e => by obtain rfl := Option.some.inj e; exact heap_lt h5)).mono ?_
  rintro e w' ⟨he, M', ok', q1, q2, q3, q4⟩
  exact ⟨he, KJ.step h5 h6 (hN.below hb) h3 q2 q3 q4 q1⟩
/-- a crash of the disk: what it tells, and that the disk is as it was -/
theorem kj_crash (h : KJ i d kb (some (keepB, keepB)) wl W) {A : Option Addr} {n c : Nat} {ps : List Int} (hC : I64.C W A n ps) (hc : n ≤ c) :
    Calls Try.prog 11 #[dptr d, .slice A n c] W fun e w' => ∃ A1 c1 X, e = .returned (.slice A1 (X : List S50).length c1) ∧ (Told X ∧ X.length ≤ c1 ∧ Kd.C k50 w' A1 X.length X) ∧ KJ i d kb (some (keepB, keepB)) wl w' := by
  have h0 := h
  obtain ⟨⟨M, ok, h1, h2, h3, h4⟩, h5, h6⟩ := h
  refine (crash_dj h1 hC hc (C_lt hC)).mono ?_
  rintro e w' ⟨A1, c1, rfl, hS, hB⟩
  obtain ⟨_, hl, hCr⟩ := Kd.S_reads' hS
  exact ⟨A1, c1, _, rfl, ⟨told h1.ok h1.at_ h2 ps, hl, kF_C hCr⟩, h0.of_below hB⟩
theorem crash_five {X : List S50} (h : FilesOk X) {d2 B2 : Nat} {ok2 : Nat → Prop} (hD : DJ [] 0 d2 B2 (newM X []) ok2 W) :
    Calls Try.prog 11 #[dptr d2, .slice (some ⟨W.heap.size, 0, none⟩) 5 5] (W.alloc (.cells #[.int .i64 1, .int .i64 1, .int .i64 1, .int .i64 5, .int .i64 5] 3)) fun e w' => ∃ A7 c7, e = .returned (.slice A7 X.length c7) ∧ (Kd.C k50 w' A7 X.length X ∧ X.length ≤ c7) ∧ Below W.heap.size W w' := by
  have hb : Below W.heap.size W (W.alloc (.cells #[.int .i64 1, .int .i64 1, .int .i64 1, .int .i64 5, .int .i64 5] 3)) := below_alloc (Below.refl _ _) _
  have hc := crash_dj (hD.alloc (.cells #[.int .i64 1, .int .i64 1, .int .i64 1, .int .i64 5, .int .i64 5] 3)) (C_five W (0, 0)) (c := 5) (Nat.le_refl _) (C_lt (C_five W (0, 0)))
  rw [show (newM X []).fs = fsOf X from rfl, crashL_again h] at hc
  refine hc.mono ?_
  rintro e w' ⟨A1, c1, rfl, hS, hB⟩
  obtain ⟨_, hl, hCr⟩ := Kd.S_reads' hS
  exact ⟨A1, c1, rfl, ⟨kF_C hCr, hl⟩, hb.trans (hB.mono hb.size)⟩
theorem any_take {X : List S50} {j : Nat} (hj : j < X.length) : (X.take (j + 1)).any (fun z => decide (z.f0 = sK)) = ((X.take j).any (fun z => decide (z.f0 = sK)) || decide (X[j].f0 = sK)) := by
  rw [List.take_succ_eq_append_getElem hj, List.any_append]
  simp
theorem Told.any {X : List S50} (h : Told X) : (X.take X.length).any (fun z => decide (z.f0 = sK)) = true := by
  rw [List.take_length, List.any_eq_true]
  obtain ⟨z, hz, e⟩ := h.there
  exact ⟨z, hz, by simp [e]⟩
end
end Go.Proofs.Ytgpniaplpibhfaa

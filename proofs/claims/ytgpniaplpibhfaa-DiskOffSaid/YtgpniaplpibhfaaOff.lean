/-
  DiskOff's plain part: a disk whose power is off, what each call leaves of it.
-/
import Derived.Test.YtgpniaplpibhfaaPlain
import Derived.Deep.DeepCutAuto
namespace Go.Proofs.Ytgpniaplpibhfaa
open Go.RowKit Go.Maps Go.Proofs.YtgpniaplpibhfaaW.PrintWords Go.Proofs.YtgpniaplpibhfaaW.PrintLast Go.Proofs.YtgpniaplpibhfaaW.PrintMore
open Go.Proofs.Ytgpniaplpibhfaa.PDiskSafe
set_option linter.unusedVariables false
set_option linter.unusedSimpArgs false

theorem C_one {α : Type} {d : Kd α} {W : World} {g : Nat} {cs : List Value} {ty : TypeId} {fr : Nat × Nat} {x : α} (hg : W.heap[g]? = some (.cells cs.toArray ty fr)) (hK : d.K W x cs) : Kd.C d W (some ⟨g, 0, none⟩) 1 [x] := by
  refine ⟨rfl, by omega, fun _ => ⟨⟨g, 0, none⟩, rfl, fun j p hj => ?_⟩⟩
  obtain ⟨rfl, rfl⟩ : j = 0 ∧ x = p := by
    cases j with
    | zero => simp at hj; exact ⟨rfl, hj⟩
    | succ j => simp at hj
  refine ⟨cs, d.K_len hK, hK, fun i u hu => ?_⟩
  have e : ((⟨g, 0, none⟩ : Addr).add (0 * d.sz + i)) = ⟨g, i, none⟩ := by
    have : 0 * d.sz + i = i := by omega
    rw [this]; cases i <;> simp [Addr.add]
  rw [e, cell_of_row _ _ _ _ ty fr hg]
  simpa using hu

abbrev sB : ByteArray := { data := #[98] }
theorem good_sB : GoodN sB := by
  refine ⟨fun j h0 h1 => ?_, by decide, by decide⟩
  have : j = 0 := by have : sB.size = 1 := rfl; omega
  subst this
  exact .inl (by decide)
def safeB : Bytes := [115, 97, 102, 101]
def fA : S50 := ⟨sA, safeB⟩
def t13 : S39 := ⟨1, 3⟩
theorem ok_fA : FilesOk [fA] := ⟨by simp, fun x h => by simp at h; subst h; exact ⟨good_sA, by simp [fA, safeB]⟩, by simp⟩
theorem ok_t13 : TroublesOk [t13] := ⟨fun x h => by simp at h; subst h; simp [t13], fun x h => by simp at h; subst h; rfl⟩

theorem nmA : nm sA = [97] := rfl
theorem isL_A (v : Bytes × Bytes) : IsL (setF (fsOf [fA]) (nm sA) (some v)) [nm sA] := by
  refine ⟨by simp, fun y => ?_⟩
  unfold setF
  by_cases e : y = nm sA
  · simp [e]
  · have : ¬ nm fA.f0 = y := fun h => e h.symm
    simp [e, fsOf, this]
theorem isL_A0 : IsL (newM [fA] [t13]).fs [nm sA] := fsOf_isL ok_fA.rise
theorem look_A : (newM [fA] [t13]).fs (nm sA) = some (safeB, safeB) := by
  show fsOf [fA] (nm sA) = _
  unfold fsOf
  simp [fA]
theorem fit_A0 : Fit (newM [fA] [t13]) where
  len := fun x f h => by
    have h' : fsOf [fA] x = some f := h
    unfold fsOf at h'
    obtain ⟨z, hz, rfl⟩ := Option.map_eq_some_iff.1 h'
    have := List.mem_of_find?_eq_some hz
    simp at this
    subst this
    exact ⟨by simp [fA, safeB], by simp [fA, safeB]⟩
  st0 := Int.le_refl _
  st1 := by decide
  cd := by rw [card_eq isL_A0]; simp

/-- what lies on the disk behind the first stroke -/
def fsX (b : Bytes) : Files := setF (fsOf [fA]) (nm sA) (some (safeB, writeB safeB 0 b))
structure Dead (b : Bytes) (k : Nat) (M : DM) : Prop where
  off : M.off = true
  fs : M.fs = fsX b
  st0 : 0 ≤ M.st
  st1 : M.st ≤ k
theorem Dead.fit {b : Bytes} {k : Nat} {M : DM} (h : Dead b k M) (hb : b.length ≤ 5000) (hk : k < 1000000) : Fit M where
  len := fun x f hx => by
    rw [h.fs] at hx
    unfold fsX setF at hx
    by_cases e : x = nm sA
    · rw [if_pos e] at hx
      obtain rfl := Option.some.inj hx
      exact ⟨by simp [safeB], by rw [writeB_length]; simp [safeB]; omega⟩
    · rw [if_neg e, fsOf_none (fun z hz => by simp at hz; subst hz; exact fun h => e h.symm)] at hx
      cases hx
  st0 := h.st0
  st1 := by have := h.st1; omega
  cd := by rw [h.fs]; show card (setF _ _ _) ≤ 16; rw [card_eq (isL_A _)]; simp
theorem strokeR_off {M : DM} (h : M.off = true) (e0 : Int) (fs1 fs2 : Files) : strokeR M e0 fs1 fs2 = (9, { M with st := M.st + 1 }) := by unfold strokeR; rw [if_pos h]
theorem writeM_off {M : DM} (h : M.off = true) (x : Name) (a : Nat) (b : Bytes) : writeM M x a b = (9, { M with st := M.st + 1 }) := by
  unfold writeM; split
  · exact strokeR_off h _ _ _
  · split <;> exact strokeR_off h _ _ _
theorem truncM_off {M : DM} (h : M.off = true) (x : Name) (a : Nat) : truncM M x a = (9, { M with st := M.st + 1 }) := by
  unfold truncM; split <;> exact strokeR_off h _ _ _
theorem syncM_off {M : DM} (h : M.off = true) (x : Name) : syncM M x = (9, { M with st := M.st + 1 }) := by
  unfold syncM; split <;> exact strokeR_off h _ _ _
theorem delM_off {M : DM} (h : M.off = true) (x : Name) : delM M x = (9, { M with st := M.st + 1 }) := strokeR_off h _ _ _
theorem Dead.step {b : Bytes} {k : Nat} {M : DM} (h : Dead b k M) : Dead b (k + 1) { M with st := M.st + 1 } := ⟨h.off, h.fs, by have := h.st0; show 0 ≤ M.st + 1; omega, by have := h.st1; show M.st + 1 ≤ _; omega⟩
theorem first_write (b : Bytes) : writeM (newM [fA] [t13]) (nm sA) 0 b = (9, { newM [fA] [t13] with st := 1, fs := fsX b, off := true }) := by
  unfold writeM
  rw [look_A]
  show strokeR _ _ _ _ = _
  unfold strokeR
  rw [if_neg (by decide), if_neg (by decide), if_neg (by decide), if_pos (by decide)]
  rfl

/-- the disk d is off, its blocks are none of w1's, the bytes b lie apart -/
structure OJ (w1 : World) (d : Nat) (Ab : Option Addr) (nb : Nat) (b : Bytes) (k : Nat) (W : World) : Prop where
  ex : ∃ M ok, DiskAt W d M ok ∧ Dead b k M ∧ Src W ok Ab nb b ∧ (∀ ad, Ab = some ad → ad.block < W.heap.size) ∧ ∀ j, ok j → w1.heap.size ≤ j
  blen : b.length ≤ 5000
  pos : 0 < nb
  len : nb = b.length
  below : Below w1.heap.size w1 W
section
variable {w1 W : World} {d : Nat} {Ab : Option Addr} {nb cb : Nat} {b : Bytes} {k : Nat}
theorem OJ.drewN (h : OJ w1 d Ab nb b k W) (n : Nat) : OJ w1 d Ab nb b k (W.drewN n) := by
  obtain ⟨⟨M, ok, h1, h2, h3, h4, h5⟩, hb, hp, hl, hbe⟩ := h
  exact ⟨⟨M, ok, h1.drewN n, h2, ⟨Kd.C_drewN h3.1 n, h3.2⟩, h4, h5⟩, hb, hp, hl, pw_below_drewN hbe n⟩
theorem OJ.left {M' : DM} {w' : World} {ok : Nat → Prop} (h : OJ w1 d Ab nb b k W) (h3 : Src W ok Ab nb b) (h4 : ∀ ad, Ab = some ad → ad.block < W.heap.size) (h5 : ∀ j, ok j → w1.heap.size ≤ j) (hM : Dead b (k + 1) M') (hL : Left W d M' ok w') : OJ w1 d Ab nb b (k + 1) w' := by
  obtain ⟨ok', q1, q2, q3⟩ := hL
  have hs := h.below.size
  exact ⟨⟨M', ok', q1, hM, h3.fr' h4 q3 q2, fun ad e => Nat.lt_of_lt_of_le (h4 ad e) q3.size, fun j hj => (q2 j hj).elim (h5 j) (fun hle => by omega)⟩, h.blen, h.pos, h.len, h.below.trans (q3.below h5 hs)⟩
theorem off_sync (h : OJ w1 d Ab nb b k W) (hk : k < 1000000) : Calls Try.prog 14 #[dptr d, .string sA] W fun e w' => e = .returned (.int .i64 9) ∧ OJ w1 d Ab nb b (k + 1) w' := by
  obtain ⟨M, ok, h1, h2, h3, h4, h5⟩ := h.ex
  have := sync_any h1 (h2.fit h.blen hk) good_sA
  rw [syncM_off h2.off] at this
  exact this.mono fun e w' ⟨he, hL⟩ => ⟨he, h.left h3 h4 h5 h2.step hL⟩
theorem off_del (h : OJ w1 d Ab nb b k W) (hk : k < 1000000) : Calls Try.prog 15 #[dptr d, .string sA] W fun e w' => e = .returned (.int .i64 9) ∧ OJ w1 d Ab nb b (k + 1) w' := by
  obtain ⟨M, ok, h1, h2, h3, h4, h5⟩ := h.ex
  have := del_any h1 (h2.fit h.blen hk) good_sA
  rw [delM_off h2.off] at this
  exact this.mono fun e w' ⟨he, hL⟩ => ⟨he, h.left h3 h4 h5 h2.step hL⟩
theorem off_trunc (h : OJ w1 d Ab nb b k W) (hk : k < 1000000) : Calls Try.prog 13 #[dptr d, .string sA, .int .i64 0] W fun e w' => e = .returned (.int .i64 9) ∧ OJ w1 d Ab nb b (k + 1) w' := by
  obtain ⟨M, ok, h1, h2, h3, h4, h5⟩ := h.ex
  have := trunc_any h1 (h2.fit h.blen hk) good_sA (a := 0) (by omega)
  rw [truncM_off h2.off] at this
  exact this.mono fun e w' ⟨he, hL⟩ => ⟨he, h.left h3 h4 h5 h2.step hL⟩
theorem off_write (h : OJ w1 d Ab nb b k W) (hk : k < 1000000) : Calls Try.prog 16 #[dptr d, .string sB, .int .i64 0, .slice Ab nb cb] W fun e w' => e = .returned (.int .i64 9) ∧ OJ w1 d Ab nb b (k + 1) w' := by
  obtain ⟨M, ok, h1, h2, h3, h4, h5⟩ := h.ex
  have hl := h.len
  have hb := h.blen
  have := write_any h1 (h2.fit h.blen hk) good_sB (a := 0) (cb := cb) h.pos (by omega) h3 h4
  rw [writeM_off h2.off] at this
  exact this.mono fun e w' ⟨he, hL⟩ => ⟨he, h.left h3 h4 h5 h2.step hL⟩
theorem off_read (h : OJ w1 d Ab nb b k W) : Calls Try.prog 23 #[dptr d, .string sA, .int .i64 0, .int .i64 5] W fun e w' => e = .returned (.tuple #[.slice none 0 0, .int .i64 9]) ∧ ∃ n, w' = W.drewN n := by
  obtain ⟨M, ok, h1, h2, h3, h4, h5⟩ := h.ex
  exact read_off h1 good_sA 0 5 (by omega) (by omega) (by omega) (by omega) h2.off
theorem off_size (h : OJ w1 d Ab nb b k W) : Calls Try.prog 24 #[dptr d, .string sA] W fun e w' => e = .returned (.tuple #[.int .i64 0, .int .i64 9]) ∧ ∃ n, w' = W.drewN n := by
  obtain ⟨M, ok, h1, h2, h3, h4, h5⟩ := h.ex
  exact size_off h1 good_sA h2.off
theorem off_list (h : OJ w1 d Ab nb b k W) : Calls Try.prog 22 #[dptr d] W fun e w' => e = .returned (.tuple #[.slice none 0 0, .int .i64 9]) ∧ W = w' := by
  obtain ⟨M, ok, h1, h2, h3, h4, h5⟩ := h.ex
  exact list_off h1 h2.off
theorem I64_nil (W : World) : I64.C W none 0 [] := ⟨rfl, Nat.zero_le _, fun h => absurd h (Nat.lt_irrefl _)⟩
theorem strL_nm (s : ByteArray) : strL (nm s) = s := by simp [nm, strL]
theorem off_crash (h : OJ w1 d Ab nb b k W) : Calls Try.prog 11 #[dptr d, .slice none 0 0] W fun e w' => ∃ A c, e = .returned (.slice A 1 c) ∧ (Kd.C k50 w' A 1 [fA] ∧ 1 ≤ c) ∧ Below w1.heap.size w1 w' := by
  obtain ⟨M, ok, h1, h2, h3, h4, h5⟩ := h.ex
  have hf := h2.fit h.blen (k := k)
  have hL : IsL M.fs [nm sA] := by rw [h2.fs]; exact isL_A _
  have hlen : ∀ x f, M.fs x = some f → f.1.length ≤ 4194304 ∧ f.2.length ≤ 4194304 := fun x f hx => by
    have h2' : Dead b 0 { M with st := 0 } := ⟨h2.off, h2.fs, Int.le_refl _, Int.le_refl _⟩
    exact (h2'.fit h.blen (by omega)).len x f hx
  refine (crash_any h1 hlen hL (by simp) (by simp [nmA]) (I64_nil W) (Nat.le_refl _) (by simp)).mono ?_
  rintro e w' ⟨v, rfl, hS, hB⟩
  have hval : crashF M.fs [nm sA] [] = [fA] := by
    have hx : M.fs (nm sA) = some (safeB, writeB safeB 0 b) := by rw [h2.fs]; simp [fsX, setF]
    show [(⟨strL (nm sA), (foundF ((M.fs (nm sA)).getD ([], [])) []).1⟩ : S50)] = _
    rw [hx, Option.getD_some, (foundF_nil _).1, strL_nm]
    rfl
  rw [hval] at hS
  obtain ⟨A, c, hv, hle, hC⟩ := Kd.S_reads hS
  exact ⟨A, c, by rw [hv]; rfl, ⟨kF_C hC, hle⟩, h.below.trans (hB.mono h.below.size)⟩

/-- the disk ahead of the first stroke -/
structure PJ (w1 : World) (d : Nat) (Ab : Option Addr) (nb : Nat) (b : Bytes) (W : World) : Prop where
  ex : ∃ ok, DiskAt W d (newM [fA] [t13]) ok ∧ Src W ok Ab nb b ∧ (∀ ad, Ab = some ad → ad.block < W.heap.size) ∧ ∀ j, ok j → w1.heap.size ≤ j
  blen : b.length ≤ 5000
  pos : 0 < nb
  len : nb = b.length
  below : Below w1.heap.size w1 W
theorem PJ.drewN (h : PJ w1 d Ab nb b W) (n : Nat) : PJ w1 d Ab nb b (W.drewN n) := by
  obtain ⟨⟨ok, h1, h3, h4, h5⟩, hb, hp, hl, hbe⟩ := h
  exact ⟨⟨ok, h1.drewN n, ⟨Kd.C_drewN h3.1 n, h3.2⟩, h4, h5⟩, hb, hp, hl, pw_below_drewN hbe n⟩
theorem PJ.made {ok : Nat → Prop} (hD : DiskAt W d (newM [fA] [t13]) ok) (hok : ∀ j, ok j → w1.heap.size ≤ j) (hB : Below w1.heap.size w1 W) (n : Nat) (fr : Nat × Nat) : PJ w1 d (some ⟨W.heap.size, 0, none⟩) 1 [120] ((W.drewN n).alloc (.cells #[.int .u8 120] 5 fr)) where
  ex := ⟨_, (hD.tight.drewN n).alloc _, ⟨C_lit (W.drewN n) [120] fr (by simp), fun ad e hk => by obtain rfl := Option.some.inj e; exact absurd hk.2 (Nat.lt_irrefl _)⟩, fun ad e => by obtain rfl := Option.some.inj e; show W.heap.size < (W.heap.push _).size; simp, fun j hj => hok j hj.1⟩
  blen := by simp
  pos := by omega
  len := rfl
  below := below_alloc (pw_below_drewN hB n) _
theorem PJ.write (h : PJ w1 d Ab nb b W) : Calls Try.prog 16 #[dptr d, .string sA, .int .i64 0, .slice Ab nb cb] W fun e w' => e = .returned (.int .i64 9) ∧ OJ w1 d Ab nb b 1 w' := by
  obtain ⟨ok, h1, h3, h4, h5⟩ := h.ex
  have hl := h.len
  have hb := h.blen
  have := write_any h1 fit_A0 good_sA (a := 0) (cb := cb) h.pos (by omega) h3 h4
  rw [first_write] at this
  refine this.mono fun e w' ⟨he, hL⟩ => ⟨he, ?_⟩
  obtain ⟨ok', q1, q2, q3⟩ := hL
  have hs := h.below.size
  exact ⟨⟨_, ok', q1, ⟨rfl, rfl, (by decide : (0 : Int) ≤ 1), Int.le_refl _⟩, h3.fr' h4 q3 q2, fun ad e => Nat.lt_of_lt_of_le (h4 ad e) q3.size, fun j hj => (q2 j hj).elim (h5 j) (fun hle => by omega)⟩, h.blen, h.pos, h.len, h.below.trans (q3.below h5 hs)⟩
theorem PJ.copy {A4 : Option Addr} {c4 : Nat} {b' : Bytes} (h : PJ w1 d Ab nb b W) (hC : U8.C W A4 b'.length b') (hc : b'.length ≤ c4) (h0 : 0 < b'.length) (h1 : b'.length ≤ 5000) :
    Calls Try.prog 17 #[.slice A4 b'.length c4] W fun e w' => ∃ A c, e = .returned (.slice A b'.length c) ∧ PJ w1 d A b'.length b' w' := by
  refine (cadastreref0_CopyBytes.calls (b'.length + 1) A4 c4 b' b' W hC hc (copybytes_f b' (by omega) (by omega))).mono ?_
  rintro e w' ⟨v, rfl, hR, hB⟩
  obtain ⟨A, c, hv, hle, hCr⟩ := Kd.R_reads hR
  have hbase := Kd.R_base hR
  obtain ⟨ok, q1, q3, q4, q5⟩ := h.ex
  subst hv
  refine ⟨A, c, rfl, ⟨⟨_, q1.tight.below hB, ⟨hCr, fun ad e hk => ?_⟩, fun ad e => ?_, fun j hj => q5 j hj.1⟩, h1, h0, rfl, h.below.trans (hB.mono h.below.size)⟩⟩
  · have := hbase ad.block (by rw [e]; rfl)
    have := hk.2
    omega
  · exact Kd.R_lt hR ad.block (by rw [e]; rfl)

theorem new_A {W1 : World} (fr : Nat × Nat) : Calls Try.prog 9 #[.slice (some ⟨W1.heap.size + 1, 0, none⟩) 1 1, .slice (some ⟨W1.heap.size + 1 + 1, 0, none⟩) 1 1]
    (((W1.alloc (.cells #[.int .u8 115, .int .u8 97, .int .u8 102, .int .u8 101] 5 fr)).alloc (.cells #[.string { data := #[97] }, .slice (some ⟨W1.heap.size, 0, none⟩) 4 4] 50)).alloc (.cells #[.int .i64 1, .int .i64 3] 39))
    fun e w' => ∃ d ok, e = .returned (.tuple #[dptr d, .int .i64 0]) ∧ DiskAt w' d (newM [fA] [t13]) ok ∧ (∀ j, ok j → W1.heap.size ≤ j) ∧ Below W1.heap.size W1 w' := by
  have z1 : (W1.alloc (.cells #[.int .u8 115, .int .u8 97, .int .u8 102, .int .u8 101] 5 fr)).heap.size = W1.heap.size + 1 := by simp
  have z2 : ((W1.alloc (.cells #[.int .u8 115, .int .u8 97, .int .u8 102, .int .u8 101] 5 fr)).alloc (.cells #[.string { data := #[97] }, .slice (some ⟨W1.heap.size, 0, none⟩) 4 4] 50)).heap.size = W1.heap.size + 1 + 1 := by simp
  have hb0 : U8.C (W1.alloc (.cells #[.int .u8 115, .int .u8 97, .int .u8 102, .int .u8 101] 5 fr)) (some ⟨W1.heap.size, 0, none⟩) 4 safeB := C_lit W1 safeB fr (by simp [safeB])
  have hb1 := Kd.C_alloc hb0 (.cells #[.string { data := #[97] }, .slice (some ⟨W1.heap.size, 0, none⟩) 4 4] 50)
  have hl : Kd.C k50 ((W1.alloc (.cells #[.int .u8 115, .int .u8 97, .int .u8 102, .int .u8 101] 5 fr)).alloc (.cells #[.string { data := #[97] }, .slice (some ⟨W1.heap.size, 0, none⟩) 4 4] 50)) (some ⟨W1.heap.size + 1, 0, none⟩) 1 [fA] := by
    rw [← z1]
    refine C_one (heap_alloc_new _ _) (k50_mk _ fA (by decide) ?_)
    exact hb1
  have hl2 := Kd.C_alloc hl (.cells #[.int .i64 1, .int .i64 3] 39)
  have ht : Kd.C k39 (((W1.alloc (.cells #[.int .u8 115, .int .u8 97, .int .u8 102, .int .u8 101] 5 fr)).alloc (.cells #[.string { data := #[97] }, .slice (some ⟨W1.heap.size, 0, none⟩) 4 4] 50)).alloc (.cells #[.int .i64 1, .int .i64 3] 39)) (some ⟨W1.heap.size + 1 + 1, 0, none⟩) 1 [t13] := by
    rw [← z2]
    exact C_one (heap_alloc_new _ _) (k39_mk _ t13)
  refine (new_ok (l := [fA]) (t := [t13]) hl2 (by decide) ht (by decide) ok_fA ok_t13 (by decide)).mono ?_
  rintro e w' ⟨rfl, hD, hB⟩
  have hb3 : Below W1.heap.size W1 (((W1.alloc (.cells #[.int .u8 115, .int .u8 97, .int .u8 102, .int .u8 101] 5 fr)).alloc (.cells #[.string { data := #[97] }, .slice (some ⟨W1.heap.size, 0, none⟩) 4 4] 50)).alloc (.cells #[.int .i64 1, .int .i64 3] 39)) := below_alloc (below_alloc (below_alloc (Below.refl _ _) _) _) _
  exact ⟨_, _, rfl, hD, fun j hj => Nat.le_trans hb3.size hj, hb3.trans (hB.mono hb3.size)⟩

theorem eq_A {W1 : World} {A : Option Addr} {c : Nat} (hC : Kd.C k50 W1 A 1 [fA]) (hc : 1 ≤ c) (fr : Nat × Nat) : Calls Try.prog 18 #[.slice A 1 c, .slice (some ⟨W1.heap.size + 1, 0, none⟩) 1 1]
    ((W1.alloc (.cells #[.int .u8 115, .int .u8 97, .int .u8 102, .int .u8 101] 5 fr)).alloc (.cells #[.string { data := #[97] }, .slice (some ⟨W1.heap.size, 0, none⟩) 4 4] 50))
    fun e w' => e = .returned (.bool true) ∧ Below W1.heap.size W1 w' := by
  have z1 : (W1.alloc (.cells #[.int .u8 115, .int .u8 97, .int .u8 102, .int .u8 101] 5 fr)).heap.size = W1.heap.size + 1 := by simp
  have hb0 : U8.C (W1.alloc (.cells #[.int .u8 115, .int .u8 97, .int .u8 102, .int .u8 101] 5 fr)) (some ⟨W1.heap.size, 0, none⟩) 4 safeB := C_lit W1 safeB fr (by simp [safeB])
  have hb1 := Kd.C_alloc hb0 (.cells #[.string { data := #[97] }, .slice (some ⟨W1.heap.size, 0, none⟩) 4 4] 50)
  have hl : Kd.C k50 ((W1.alloc (.cells #[.int .u8 115, .int .u8 97, .int .u8 102, .int .u8 101] 5 fr)).alloc (.cells #[.string { data := #[97] }, .slice (some ⟨W1.heap.size, 0, none⟩) 4 4] 50)) (some ⟨W1.heap.size + 1, 0, none⟩) 1 [fA] := by
    rw [← z1]
    refine C_one (heap_alloc_new _ _) (k50_mk _ fA (by decide) ?_)
    exact hb1
  have hb3 : Below W1.heap.size W1 ((W1.alloc (.cells #[.int .u8 115, .int .u8 97, .int .u8 102, .int .u8 101] 5 fr)).alloc (.cells #[.string { data := #[97] }, .slice (some ⟨W1.heap.size, 0, none⟩) 4 4] 50)) := below_alloc (below_alloc (Below.refl _ _) _) _
  exact (cadastreref0_EqFiles.calls _ A c [fA] _ 1 [fA] true _ (Kd.C_alloc (Kd.C_alloc hC _) _) hc hl (by decide) (eqfiles_self [fA] (N := 4) (by omega) (by simp [fA, safeB]) (by decide))).mono fun e w' ⟨he, hb⟩ => ⟨he, hb3.trans (hb.mono hb3.size)⟩
end
end Go.Proofs.Ytgpniaplpibhfaa

/-
  The walk of DiskOff.
-/
namespace Go.Proofs.Ytgpniaplpibhfaa
open Go.RowKit Go.Maps Go.Proofs.YtgpniaplpibhfaaW.PrintWords Go.Proofs.YtgpniaplpibhfaaW.PrintLast Go.Proofs.YtgpniaplpibhfaaW.PrintMore
open Go.Proofs.Ytgpniaplpibhfaa.PDiskSafe
set_option linter.unusedVariables false
set_option linter.unusedSimpArgs false

set_option maxRecDepth 100000 in
set_option maxHeartbeats 1000000 in
theorem off_any {w : World} {A0 : Option Addr} {c0 : Nat} {F : List S50} {A1 : Option Addr} {c1 : Nat} {T : List S39} {A2 : Option Addr} {c2 : Nat} {S : List S33} (h : In w A0 c0 F A1 c1 T A2 c2 S) :
    Calls Try.prog 5 #[.agg #[.slice A0 F.length c0, .slice A1 T.length c1, .slice A2 S.length c2]] w fun e w' => e = .returned (.bool true) ∧ Below w.heap.size w w' := by
  have HI := Aside0.mk (h.below (below_alloc (Below.refl _ _) (.cells #[.slice A0 F.length c0, .slice A1 T.length c1, .slice A2 S.length c2] 26)))
  clear h
  obtain ⟨nS, hnS⟩ : ∃ n, n = S.length := ⟨_, rfl⟩
  have HNS := Aside0.mk hnS
  have HB0 : Aside0 (Below w.heap.size w (w.alloc (.cells #[.slice A0 F.length c0, .slice A1 T.length c1, .slice A2 S.length c2] 26))) := ⟨below_alloc (Below.refl _ _) _⟩
  go_enter Try.func5, Try.ntmps5
  go_wp2_with fail
  refine (HI.out.heavy).mono ?_
  rintro e W1 ⟨r, rfl, hl, hb⟩
  cases r with
  | true =>
    have HB1 := Aside0.mk hb
    clear hl hb
    go_wp2
    go_ret
    exact ⟨rfl, HB0.out.trans (HB1.out.mono HB0.out.size)⟩
  | false =>
    have HL := Aside0.mk (hl rfl)
    have HB1 := Aside0.mk hb
    obtain ⟨hc, hf⟩ := bcell hb
    clear hl hb hf
    have hconv0 : ∀ (C : Array Value) (n c : Nat), (convert 30 30 (.slice (some ⟨W1.heap.size, 0, none⟩) n c)).run Try.prog (W1.alloc (.cells C 5)) = .ok (.slice (some ⟨W1.heap.size, 0, none⟩) n c) (W1.alloc (.cells C 5 (C.size, C.size + 1))) := fun C n c => run_conv30 W1 C n c
    go_upto_region 6 with (first
      | (go_at_call 9
         refine (new_A _).mono ?_
         rintro e W2 ⟨d, ok, rfl, hD, hok, hB⟩
         have HN := Aside0.mk (And.intro hD (And.intro hok hB))
         clear hD hok hB hc hconv0)
      | (go_at_call 10; refine (num_any _ _).mono ?_; rintro e w' ⟨rfl, n, rfl⟩))
    have hconv2 : ∀ (nq : Nat) (C : Array Value) (n c : Nat), (convert 30 30 (.slice (some ⟨W2.heap.size, 0, none⟩) n c)).run Try.prog ((W2.drewN nq).alloc (.cells C 5)) = .ok (.slice (some ⟨W2.heap.size, 0, none⟩) n c) ((W2.drewN nq).alloc (.cells C 5 (C.size, C.size + 1))) := fun nq C n c => run_conv30 (W2.drewN nq) C n c
    go_cut [5] (fun v5 wc => ∃ A c, v5 = .slice A 1 c ∧ Aside0 (PJ (w.alloc (.cells #[.slice A0 F.length c0, .slice A1 T.length c1, .slice A2 S.length c2] 26)) d A 1 [120] wc))
    case first =>
      go_wp2
      go_meet
      obtain ⟨hD, hok, hB⟩ := HN.out
      have hb1 := HB1.out
      refine ⟨_, _, rfl, ⟨PJ.made hD (fun j hj => Nat.le_trans hb1.size (hok j hj)) (hb1.trans (hB.mono hb1.size)) _ _⟩⟩
    case rest =>
    clear hconv2 HN
    obtain ⟨A5, k5, rfl, HP⟩ := hcut
    obtain ⟨W7, hW7⟩ : ∃ W7 : World, W7 = wc := ⟨_, rfl⟩
    subst hW7
    have ha : W7.cell? ⟨w.heap.size, 2, none⟩ = some (.slice A2 S.length c2) := (HP.out.below.cell (p := ⟨w.heap.size, 2, none⟩) (by simp)).trans (cell_of_row _ _ 2 _ 26 (0, 0) (heap_alloc_new w _))
    go_upto_region 7 with fail
    go_cut [46] (fun v46 wc => v46 = .bool (decide (0 < S.length) && decide (0 < (rd_T33 S 0).f4.length)) ∧ wc = W7)
    case first =>
      by_cases p1 : 0 < S.length
      · have hin := HI.out.below (HP.out.below)
        obtain ⟨ad, A4, c4, A5', c5', e, g0, g1, g2, g3, g4, g5, hl4, hi4, _⟩ := at_T33 hin.h2 0 (by omega) (by omega)
        cases e
        have e0 : ad.add (Int.toNat 0 * 6) = ad := by simp [Addr.add]
        rw [e0] at g4
        clear hin g0 g1 g2 g3 g5 hl4 hi4 e0
        by_cases p2 : 0 < (rd_T33 S 0).f4.length
        · go_wp2
          go_meet
          exact ⟨by simp [p1, p2], rfl⟩
        · have p2' : decide (0 < (rd_T33 S 0).f4.length) = false := decide_eq_false p2
          go_wp2
          go_meet
          exact ⟨by simp [p1, p2], rfl⟩
      · have p1' : decide (0 < S.length) = false := decide_eq_false p1
        go_wp2
        go_meet
        exact ⟨by simp [p1], rfl⟩
    case rest =>
    obtain ⟨rfl, hwc⟩ := hcut
    subst hwc
    go_upto_if 46 with fail
    go_cut [5] (fun v5 wc => ∃ A n c b, v5 = .slice A n c ∧ Aside0 (PJ (w.alloc (.cells #[.slice A0 F.length c0, .slice A1 T.length c1, .slice A2 S.length c2] 26)) d A n b wc))
    case first =>
      by_cases p1 : 0 < S.length
      · have hin := HI.out.below (HP.out.below)
        obtain ⟨ad, A4, c4, A5', c5', e, g0, g1, g2, g3, g4, g5, hl4, hi4, hl5, hi5⟩ := at_T33 hin.h2 0 (by omega) (by omega)
        cases e
        have e0 : ad.add (Int.toNat 0 * 6) = ad := by simp [Addr.add]
        rw [e0] at g4
        clear g0 g1 g2 g3 g5 e0
        by_cases p2 : 0 < (rd_T33 S 0).f4.length
        · have hlight := (HL.out.acts 0 p1 (by omega)).1
          have HC := Aside0.mk (PJ.copy HP.out hi4 hl4 p2 hlight)
          have HT : (decide (0 < S.length) && decide (0 < (rd_T33 S 0).f4.length)) = true := by simp [p1, p2]
          clear hin hl4 hi4 hlight
          rw [HT]
          go_wp2_with (go_at_call 17; refine HC.out.mono ?_; rintro e w' ⟨A, c, rfl, hP⟩; have HP2 := Aside0.mk hP; clear hP)
          go_meet
          exact ⟨_, _, _, _, rfl, HP2⟩
        · have HT : (decide (0 < S.length) && decide (0 < (rd_T33 S 0).f4.length)) = false := by simp [p2]
          clear hin hl4 hi4
          rw [HT]
          go_wp2
          go_meet
          exact ⟨_, _, _, _, rfl, HP⟩
      · have HT : (decide (0 < S.length) && decide (0 < (rd_T33 S 0).f4.length)) = false := by simp [p1]
        rw [HT]
        go_wp2
        go_meet
        exact ⟨_, _, _, _, rfl, HP⟩
    case rest =>
    obtain ⟨Ab, nb, cb, b, rfl, HQ⟩ := hcut
    clear ha HP
    go_wp2_with (first
      | (go_at_call 16
         refine (HQ.out.write).mono ?_
         rintro e W9 ⟨rfl, hO⟩
         have HO := Aside0.mk hO
         clear hO)
      | (go_at_call 10; refine (num_any _ _).mono ?_; rintro e w' ⟨rfl, n, rfl⟩))
    obtain ⟨wl, hwl⟩ : ∃ wl : World, wl = w.alloc (.cells #[.slice A0 F.length c0, .slice A1 T.length c1, .slice A2 S.length c2] 26) := ⟨_, rfl⟩
    have HWL := Aside0.mk hwl
    rw [← hwl] at HO
    clear hwl
    go_loopg [6] 31 (fun kq v6 w' => ∃ x : Int, v6 = .int .i64 x ∧ Aside0 (∃ i : Nat, x = i ∧ i + kq = 31 ∧ OJ wl d Ab nb b (1 + 4 * i) w'))
    case atStart => exact ⟨0, rfl, ⟨0, rfl, rfl, HO.out.drewN _⟩⟩
    case round =>
      obtain ⟨x, rfl, HI2⟩ := hrel
      obtain ⟨i, hxi, hik, hO⟩ := HI2.out
      have hwl := HWL.out
      have ha : wr.cell? ⟨w.heap.size, 2, none⟩ = some (.slice A2 S.length c2) := (hO.below.cell (p := ⟨w.heap.size, 2, none⟩) (by rw [hwl]; simp)).trans (by rw [hwl]; exact cell_of_row _ _ 2 _ 26 (0, 0) (heap_alloc_new w _))
      have HO := Aside0.mk hO
      clear hwl hO
      by_cases hgo : i < S.length ∧ i < 30
      · have t1 : decide (x < (S.length : Int)) = true := by simp; omega
        have t2 : decide (x < 30) = true := by simp; omega
        obtain ⟨x1, hx1⟩ : ∃ y, IntKind.i64.wrap (x + 1) = y := ⟨_, rfl⟩
        have HX1 : Aside0 (x1 = x + 1) := ⟨by rw [← hx1, IntKind.wrap_i64]; omega⟩
        have HK : Aside0 (x = i ∧ i + gk = 31 ∧ i < 30) := ⟨⟨hxi, hik, hgo.2⟩⟩
        cases gk with
        | zero => have := HK.out; omega
        | succ k1 =>
        obtain ⟨m, hm⟩ : ∃ m, m = 1 + 4 * i := ⟨_, rfl⟩
        rw [← hm] at HO
        have HM : Aside0 (m = 1 + 4 * i ∧ m < 999990) := ⟨⟨hm, by omega⟩⟩
        clear hm hxi hik hgo HI2
        go_wp2_with (first
          | (go_at_call 23; refine (off_read (HO.out.drewN _)).mono ?_; rintro e w' ⟨rfl, n, rfl⟩)
          | (go_at_call 23; refine (off_read HO.out).mono ?_; rintro e w' ⟨rfl, n, rfl⟩)
          | (go_at_call 24; refine (off_size (HO.out.drewN _)).mono ?_; rintro e w' ⟨rfl, n, rfl⟩)
          | (go_at_call 22; refine (off_list (HO.out.drewN _)).mono ?_; rintro e w' ⟨rfl, rfl⟩)
          | (go_at_call 10; refine (num_any _ _).mono ?_; rintro e w' ⟨rfl, n, rfl⟩)
          | (go_at_call 14
             refine (off_sync (HO.out.drewN _) (by have := HM.out; omega)).mono ?_
             rintro e wa ⟨rfl, hO⟩
             have HOa := Aside0.mk hO
             clear hO)
          | (go_at_call 15
             refine (off_del (HOa.out.drewN _) (by have := HM.out; omega)).mono ?_
             rintro e wb ⟨rfl, hO⟩
             have HOb := Aside0.mk hO
             clear hO)
          | (go_at_call 13
             refine (off_trunc (HOb.out.drewN _) (by have := HM.out; omega)).mono ?_
             rintro e wc ⟨rfl, hO⟩
             have HOc := Aside0.mk hO
             clear hO)
          | (go_at_call 16
             refine (off_write (HOc.out.drewN _) (by have := HM.out; omega)).mono ?_
             rintro e wd ⟨rfl, hO⟩
             have HOd := Aside0.mk hO
             clear hO))
        go_roundg k1
        case measure => omega
        case rel =>
          obtain ⟨h1, h2, h3⟩ := HK.out
          obtain ⟨h4, _⟩ := HM.out
          refine ⟨x1, rfl, ⟨i + 1, by rw [HX1.out]; omega, by omega, ?_⟩⟩
          have := HOd.out
          rw [show 1 + 4 * (i + 1) = m + 1 + 1 + 1 + 1 from by omega]
          exact this.drewN _
      · have t1 : decide (x < (S.length : Int)) = false ∨ decide (x < (S.length : Int)) = true ∧ decide (x < 30) = false := by
          by_cases h : i < S.length
          · exact .inr ⟨by simp; omega, by simp; omega⟩
          · exact .inl (by simp; omega)
        have HK : Aside0 (x = i ∧ i + gk = 31) := ⟨⟨hxi, hik⟩⟩
        clear hxi hik hgo HI2
        rcases t1 with t1 | ⟨t1, t2⟩
        all_goals
          go_wp2_with (first
            | (go_at_call 11
               refine (off_crash HO.out).mono ?_
               rintro e W19 ⟨A, c, rfl, hC, hB⟩
               have HC := Aside0.mk (And.intro hC hB)
               have hconv : ∀ (C : Array Value) (n c : Nat), (convert 30 30 (.slice (some ⟨W19.heap.size, 0, none⟩) n c)).run Try.prog (W19.alloc (.cells C 5)) = .ok (.slice (some ⟨W19.heap.size, 0, none⟩) n c) (W19.alloc (.cells C 5 (C.size, C.size + 1))) := fun C n c => run_conv30 W19 C n c
               clear hC hB)
            | (go_at_call 18
               refine (eq_A HC.out.1.1 HC.out.1.2 _).mono ?_
               rintro e W20 ⟨rfl, hB⟩
               have HE := Aside0.mk hB
               clear hB)
            | (go_at_call 19
               refine (wakes_any _).mono ?_
               rintro e W21 ⟨rfl, hB⟩
               have HW := Aside0.mk hB
               clear hB))
          go_ret
          have b1 := HC.out.2
          have b2 := HE.out
          have b3 := HW.out
          have b0 := HB0.out
          rw [← HWL.out] at b0
          have b12 := b1.trans (b2.mono b1.size)
          have b13 := b12.trans (b3.mono b12.size)
          exact ⟨rfl, b0.trans (b13.mono b0.size)⟩
end Go.Proofs.Ytgpniaplpibhfaa

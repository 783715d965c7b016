/- Parts of a proof. -/
import Derived.Test.YtmdpgjdepflbmaaGreatCPPagesModelx5
import Derived.Test.YtmdpgjdepflbmaaGreatCPPagesModelx6
import Derived.Test.YtmdpgjdepflbmaaGreatCPPagesModelx7
import Derived.Test.YtmdpgjdepflbmaaGreatCPPagesModelx8
import Derived.Test.YtmdpgjdepflbmaaGreatCPPagerFoldsx1
import Derived.Test.YtmdpgjdepflbmaaGreatCPPagerFoldsx4
import Derived.Test.YtmdpgjdepflbmaaGreatCPPagerFoldsx5
import Derived.Test.YtmdpgjdepflbmaaGreatCPPagerFoldsx6
import Derived.Test.YtmdpgjdepflbmaaGreatCA
import Derived.Test.YtmdpgjdepflbmaaGreatCH
import Derived.Test.YtmdpgjdepflbmaaGreatCB
namespace Go.Proofs.YtmdpgjdepflbmaaGreat.PP
set_option linter.unusedVariables false
abbrev Bytes := List Int

/-! pages as lists of bytes -/
/-- a page of noughts -/
def noughts : Bytes := List.replicate 512 0
theorem noughts_length : noughts.length = 512 := List.length_replicate
theorem noughts_eq (n : Nat) (h : n = 512) : List.replicate n (0 : Int) = noughts := by subst h; rfl
attribute [irreducible] noughts
/-- page n of the bytes c; noughts where there is none -/
def pageAt (c : Bytes) (n : Nat) : Bytes := if (n + 1) * 512 ≤ c.length then (c.drop (n * 512)).take 512 else noughts
abbrev PM := Nat → Option Bytes
/-- each page has its length -/
def Full (f : PM) : Prop := ∀ n b, f n = some b → b.length = 512
def overlay (c : Bytes) (k : Nat) (f : PM) : Bytes := (List.range k).flatMap (fun n => (f n).getD (pageAt c n))

theorem pageAt_length (c : Bytes) (n : Nat) : (pageAt c n).length = 512 := by
  unfold pageAt
  split
  · rw [List.length_take, List.length_drop]; omega
  · exact noughts_length
theorem flat_length {α : Type} (g : α → Bytes) (h : ∀ x, (g x).length = 512) (l : List α) : (l.flatMap g).length = l.length * 512 := by
  induction l with
  | nil => simp
  | cons a l ih => rw [List.flatMap_cons, List.length_append, h a, ih, List.length_cons]; omega
theorem flat_drop {α : Type} (g : α → Bytes) (h : ∀ x, (g x).length = 512) (l : List α) : ∀ (n : Nat), (l.flatMap g).drop (n * 512) = (l.drop n).flatMap g := by
  induction l with
  | nil => intro n; simp
  | cons a l ih =>
    intro n
    cases n with
    | zero => rw [Nat.zero_mul, List.drop_zero, List.drop_zero]
    | succ n =>
      rw [List.flatMap_cons, show (n + 1) * 512 = 512 + n * 512 from by omega, ← List.drop_drop, List.drop_append_of_le_length (by rw [h]; omega), show (g a).drop 512 = [] from List.drop_eq_nil_of_le (by rw [h]; omega), List.nil_append, ih n, List.drop_succ_cons]
theorem flat_page {α : Type} (g : α → Bytes) (h : ∀ x, (g x).length = 512) (l : List α) (n : Nat) (hn : n < l.length) : ((l.flatMap g).drop (n * 512)).take 512 = g l[n] := by
  rw [flat_drop g h, List.drop_eq_getElem_cons hn, List.flatMap_cons, List.take_append_of_le_length (by rw [h]; omega), List.take_of_length_le (by rw [h]; omega)]
theorem getD_full {f : PM} (hf : Full f) (c : Bytes) (n : Nat) : ((f n).getD (pageAt c n)).length = 512 := by
  cases h : f n with
  | none => exact pageAt_length c n
  | some b => exact hf n b h
theorem overlay_length {f : PM} (hf : Full f) (c : Bytes) (k : Nat) : (overlay c k f).length = k * 512 := by
  unfold overlay
  rw [flat_length _ (getD_full hf c)]; simp
theorem pageAt_overlay {f : PM} (hf : Full f) (c : Bytes) (k n : Nat) (hn : n < k) : pageAt (overlay c k f) n = (f n).getD (pageAt c n) := by
  unfold pageAt
  rw [if_pos (by rw [overlay_length hf]; omega)]
  unfold overlay
  rw [flat_page _ (getD_full hf c) _ _ (by simpa using hn), List.getElem_range]
  rfl
theorem pageAt_past (c : Bytes) (n : Nat) (h : c.length < (n + 1) * 512) : pageAt c n = noughts := by
  unfold pageAt; rw [if_neg (by omega)]
/-- bytes are their pages -/
theorem by_pages {c d : Bytes} {k : Nat} (hc : c.length = k * 512) (hd : d.length = k * 512) (h : ∀ n, n < k → pageAt c n = pageAt d n) : c = d := by
  induction k generalizing c d with
  | zero => rw [List.length_eq_zero_iff.1 (by omega : c.length = 0), List.length_eq_zero_iff.1 (by omega : d.length = 0)]
  | succ k ih =>
    have h0 := h 0 (by omega)
    unfold pageAt at h0
    rw [if_pos (by omega), if_pos (by omega)] at h0
    simp only [Nat.zero_mul, List.drop_zero] at h0
    have h1 : c.drop 512 = d.drop 512 := by
      refine ih (by rw [List.length_drop]; omega) (by rw [List.length_drop]; omega) (fun n hn => ?_)
      have := h (n + 1) (by omega)
      unfold pageAt at this ⊢
      rw [if_pos (by omega), if_pos (by omega)] at this
      rw [if_pos (by rw [List.length_drop]; omega), if_pos (by rw [List.length_drop]; omega), List.drop_drop, List.drop_drop, show 512 + n * 512 = (n + 1) * 512 from by omega]
      exact this
    rw [← List.take_append_drop 512 c, ← List.take_append_drop 512 d, h0, h1]

/-! writing a page into bytes, as a disk does -/
def padTo (l : Bytes) (n : Nat) : Bytes := l ++ List.replicate (n - l.length) 0
def splice (L : Bytes) (off : Nat) (cs : Bytes) : Bytes := L.take off ++ (cs ++ L.drop (off + cs.length))
def writeB (l : Bytes) (a : Nat) (b : Bytes) : Bytes := splice (padTo l (a + b.length)) a b
theorem padTo_length (l : Bytes) (n : Nat) : (padTo l n).length = max l.length n := by simp [padTo]; omega
theorem writeB_length (l : Bytes) (a : Nat) (b : Bytes) : (writeB l a b).length = max l.length (a + b.length) := by
  unfold writeB splice
  simp only [List.length_append, List.length_take, List.length_drop, padTo_length]
  omega
theorem pageAt_padTo (l : Bytes) (k m n : Nat) (hl : l.length = k * 512) : pageAt (padTo l (m * 512)) n = pageAt l n := by
  by_cases h1 : n < k
  · unfold pageAt
    rw [if_pos (by rw [padTo_length]; omega), if_pos (by omega)]
    unfold padTo
    rw [List.drop_append_of_le_length (by omega), List.take_append_of_le_length (by rw [List.length_drop]; omega)]
  · rw [pageAt_past l n (by omega)]
    by_cases h2 : n < m
    · unfold pageAt
      rw [if_pos (by rw [padTo_length]; omega)]
      unfold padTo
      rw [List.drop_append, List.drop_eq_nil_of_le (by omega), List.nil_append, List.drop_replicate, List.take_replicate]
      exact noughts_eq _ (by omega)
    · exact pageAt_past _ _ (by rw [padTo_length]; omega)
theorem splice_before (q p : Bytes) (a b s : Nat) (h : b + s ≤ a) (ha : a ≤ q.length) : ((splice q a p).drop b).take s = (q.drop b).take s := by
  unfold splice
  rw [List.drop_append_of_le_length (by rw [List.length_take]; omega), List.take_append_of_le_length (by rw [List.length_drop, List.length_take]; omega), List.drop_take, List.take_take, Nat.min_eq_left (by omega)]
theorem splice_after (q p : Bytes) (a b s : Nat) (h : a + p.length ≤ b) (ha : a ≤ q.length) : ((splice q a p).drop b).take s = (q.drop b).take s := by
  unfold splice
  rw [List.drop_append, List.drop_eq_nil_of_le (by rw [List.length_take]; omega), List.nil_append, List.drop_append, List.drop_eq_nil_of_le (by rw [List.length_take]; omega), List.nil_append, List.drop_drop, List.length_take]
  congr 2
  omega
theorem splice_at (q p : Bytes) (a : Nat) (ha : a ≤ q.length) : ((splice q a p).drop a).take p.length = p := by
  unfold splice
  rw [List.drop_append_of_le_length (by rw [List.length_take]; omega), List.drop_eq_nil_of_le (by rw [List.length_take]; omega), List.nil_append, List.take_append_of_le_length (by omega), List.take_of_length_le (by omega)]
theorem pageAt_write (l p : Bytes) (k n m : Nat) (hl : l.length = k * 512) (hp : p.length = 512) : pageAt (writeB l (n * 512) p) m = if m = n then p else pageAt l m := by
  have hw := writeB_length l (n * 512) p
  have e1 : n * 512 + p.length = (n + 1) * 512 := by omega
  by_cases e : m = n
  · rw [if_pos e]
    subst e
    unfold pageAt
    rw [if_pos (by omega)]
    unfold writeB
    have := splice_at (padTo l (m * 512 + p.length)) p (m * 512) (by rw [padTo_length]; omega)
    rwa [hp] at this ⊢
  · rw [if_neg e, ← pageAt_padTo l k (n + 1) m hl]
    have hpl := padTo_length l ((n + 1) * 512)
    by_cases h1 : (m + 1) * 512 ≤ (padTo l ((n + 1) * 512)).length
    · unfold pageAt
      rw [if_pos (by omega), if_pos h1]
      unfold writeB
      rw [e1]
      rcases Nat.lt_or_gt_of_ne e with h2 | h2
      · have a1 : m * 512 + 512 ≤ n * 512 := by clear hpl hw h1 e1; omega
        have a2 : n * 512 ≤ (padTo l ((n + 1) * 512)).length := by rw [hpl]; exact Nat.le_trans (Nat.mul_le_mul_right 512 (Nat.le_succ n)) (Nat.le_max_right _ _)
        exact splice_before _ p _ _ _ a1 a2
      · have a1 : n * 512 + p.length ≤ m * 512 := by rw [e1]; exact Nat.mul_le_mul_right 512 h2
        have a2 : n * 512 ≤ (padTo l ((n + 1) * 512)).length := by rw [hpl]; exact Nat.le_trans (Nat.mul_le_mul_right 512 (Nat.le_succ n)) (Nat.le_max_right _ _)
        exact splice_after _ p _ _ _ a1 a2
    · rw [pageAt_past (padTo l ((n + 1) * 512)) m (by omega), pageAt_past _ m (by omega)]

/-- pages written one behind the other -/
def writesB (l : Bytes) (f : PM) (L : List Nat) : Bytes := L.foldl (fun b n => writeB b (n * 512) ((f n).getD [])) l
def top (k : Nat) (L : List Nat) : Nat := L.foldl (fun k n => max k (n + 1)) k
theorem writesB_spec {f : PM} (hf : Full f) : ∀ (L : List Nat) (l : Bytes) (k : Nat), l.length = k * 512 → (∀ n ∈ L, (f n).isSome = true) →
    (writesB l f L).length = top k L * 512 ∧ ∀ m, pageAt (writesB l f L) m = if m ∈ L then (f m).getD [] else pageAt l m
  | [], l, k, hl, _ => ⟨hl, fun m => by simp [writesB]⟩
  | n :: L, l, k, hl, hs => by
    obtain ⟨b, hb⟩ := Option.isSome_iff_exists.1 (hs n List.mem_cons_self)
    have hbl := hf n b hb
    have hlen : (writeB l (n * 512) b).length = max k (n + 1) * 512 := by
      rw [writeB_length, hl, hbl]
      rcases Nat.le_total k (n + 1) with h | h
      · rw [Nat.max_eq_right h]; omega
      · rw [Nat.max_eq_left h]; omega
    obtain ⟨h1, h2⟩ := writesB_spec hf L (writeB l (n * 512) b) (max k (n + 1)) hlen (fun m hm => hs m (List.mem_cons_of_mem _ hm))
    have e : writesB l f (n :: L) = writesB (writeB l (n * 512) b) f L := by simp [writesB, hb]
    rw [e]
    refine ⟨h1, fun m => ?_⟩
    rw [h2 m, pageAt_write l b k n m hl hbl]
    by_cases hm : m ∈ L
    · simp [hm]
    · by_cases e2 : m = n
      · subst e2; simp [hm, hb]
      · simp [hm, e2]
theorem le_top (L : List Nat) : ∀ k, k ≤ top k L := by
  induction L with
  | nil => intro k; exact Nat.le_refl _
  | cons n L ih => intro k; exact Nat.le_trans (Nat.le_max_left _ _) (ih _)
theorem mem_top (L : List Nat) : ∀ k, ∀ n ∈ L, n + 1 ≤ top k L := by
  induction L with
  | nil => intro k n hn; simp at hn
  | cons a L ih =>
    intro k n hn
    rcases List.mem_cons.1 hn with rfl | hn
    · exact Nat.le_trans (Nat.le_max_right _ _) (le_top L _)
    · exact ih _ n hn
theorem top_le (L : List Nat) (m : Nat) : ∀ k, k ≤ m → (∀ n ∈ L, n + 1 ≤ m) → top k L ≤ m := by
  induction L with
  | nil => intro k h _; exact h
  | cons a L ih => intro k h hL; exact ih _ (Nat.max_le.2 ⟨h, hL a List.mem_cons_self⟩) (fun n hn => hL n (List.mem_cons_of_mem _ hn))
/-- writing all pages that are not as they were gives the bytes with these pages over them -/
theorem writesB_overlay {f : PM} (hf : Full f) {L : List Nat} (hL : ∀ n, n ∈ L ↔ (f n).isSome = true) {c : Bytes} {k K : Nat} (hc : c.length = k * 512) (hk : k ≤ K) (hlt : ∀ n ∈ L, n < K) (hlast : k < K → K - 1 ∈ L) : writesB c f L = overlay c K f := by
  obtain ⟨h1, h2⟩ := writesB_spec hf L c k hc (fun n hn => (hL n).1 hn)
  have ht : top k L = K := by
    apply Nat.le_antisymm
    · exact top_le L K k hk (fun n hn => hlt n hn)
    · by_cases h : k < K
      · have := mem_top L k _ (hlast h); omega
      · have := le_top L k; omega
  rw [ht] at h1
  refine by_pages h1 (overlay_length hf c K) (fun n hn => ?_)
  rw [h2 n, pageAt_overlay hf c K n hn]
  by_cases hm : n ∈ L
  · obtain ⟨b, hb⟩ := Option.isSome_iff_exists.1 ((hL n).1 hm)
    rw [if_pos hm, hb]; rfl
  · rw [if_neg hm]
    have : f n = none := by
      cases hfn : f n with
      | none => rfl
      | some b => exact absurd ((hL n).2 (by rw [hfn]; rfl)) hm
    rw [this]; rfl

/-! blocks over blocks -/
/-- what a transaction commits -/
def news (c : Bytes) (k : Nat) (own : PM) : PM := fun n => match own n with
  | none => none
  | some b => if k ≤ n ∨ b ≠ pageAt c n then some b else none
theorem news_some {c : Bytes} {k : Nat} {own : PM} {n : Nat} {b : Bytes} (h : own n = some b) : news c k own n = if k ≤ n ∨ b ≠ pageAt c n then some b else none := by
  unfold news; rw [h]
theorem news_none {c : Bytes} {k : Nat} {own : PM} {n : Nat} (h : own n = none) : news c k own n = none := by
  unfold news; rw [h]
theorem news_own {c : Bytes} {k : Nat} {own : PM} {n : Nat} {b : Bytes} (h : news c k own n = some b) : own n = some b := by
  cases ho : own n with
  | none => rw [news_none ho] at h; cases h
  | some p =>
    rw [news_some ho] at h
    split at h
    · exact h
    · cases h
theorem news_full {c : Bytes} {k : Nat} {own : PM} (h : Full own) : Full (news c k own) := fun n b hb => h n b (news_own hb)
theorem overlay_news {own : PM} (hf : Full own) (c : Bytes) (k K : Nat) : overlay c K (news c k own) = overlay c K own := by
  refine by_pages (overlay_length (news_full hf) c K) (overlay_length hf c K) (fun n hn => ?_)
  rw [pageAt_overlay (news_full hf) c K n hn, pageAt_overlay hf c K n hn]
  cases h : own n with
  | none => rw [news_none h]
  | some b =>
    rw [news_some h]
    split
    · rfl
    · rename_i hh
      show pageAt c n = b
      by_cases h2 : b = pageAt c n
      · exact h2.symm
      · exact absurd (.inr h2) hh

/-! blocks as bytes -/
end Go.Proofs.YtmdpgjdepflbmaaGreat.PP
namespace Go.Proofs.YtmdpgjdepflbmaaGreat
open Go.RowKit Go.Maps Go.Proofs.YtmdpgjdepflbmaaGreatW.PrintWords Go.Proofs.YtmdpgjdepflbmaaGreatW.PrintLast Go.Proofs.YtmdpgjdepflbmaaGreatW.PrintMore
open Go.Proofs.YtmdpgjdepflbmaaGreat.PPagerFolds
set_option linter.unusedVariables false
set_option linter.unusedSimpArgs false

def put4 (a : Int) : Bytes := [(a / 16777216) % 256, (a / 65536) % 256, (a / 256) % 256, a % 256]
theorem put4_length (a : Int) : (put4 a).length = 4 := rfl
theorem put_new {w0 w : World} {v : Value} {l : Bytes} (a : Int) (hB : Below w0.heap.size w0 w) (hR : Kd.R (Kd.int .u8) 5 w w0.heap.size (fun k => w0.heap.size ≤ k) v l) (hl : l.length + 4 < 140737488355328) :
    Calls Tryz.prog 120 #[v, .int .i64 a] w fun e w' => ∃ v', e = .returned v' ∧ Kd.R (Kd.int .u8) 5 w' w0.heap.size (fun k => w0.heap.size ≤ k) v' (l ++ put4 a) ∧ Below w0.heap.size w0 w' := by
  have hf : pager_put.f l a = some (l ++ put4 a) := by
    unfold pager_put.f
    rw [Option.bind_some, if_pos (by simpa using hl)]
    rfl
  refine (pager_put.calls _ v l a _ w0 w hB hR hf).mono ?_
  rintro e w' ⟨v', rfl, h1, h2, _⟩
  have := hB.size
  exact ⟨v', rfl, Kd.R_mono h1 (fun k hk => hk.elim id (fun h => by omega)), h2⟩

theorem put_kept {w0 w : World} {v : Value} {l : Bytes} {P0 : Nat → Prop} (a : Int) (hB : Below w0.heap.size w0 w) (hR : Kd.R (Kd.int .u8) 5 w w0.heap.size P0 v l) (hl : l.length + 4 < 140737488355328) :
    Calls Tryz.prog 120 #[v, .int .i64 a] w fun e w' => ∃ v', e = .returned v' ∧ Kd.R (Kd.int .u8) 5 w' w0.heap.size (fun k => P0 k ∨ w.heap.size ≤ k) v' (l ++ put4 a) ∧ Below w0.heap.size w0 w' ∧ Kept w w' P0 := by
  have hf : pager_put.f l a = some (l ++ put4 a) := by
    unfold pager_put.f
    rw [Option.bind_some, if_pos (by simpa using hl)]
    rfl
  exact pager_put.calls P0 v l a _ w0 w hB hR hf
theorem put_row {w0 w : World} {v : Value} {l : Bytes} (m : Nat) (a : Int) (hB : Below w0.heap.size w0 w) (hR : Kd.R (Kd.int .u8) 5 w w0.heap.size (fun k => w0.heap.size ≤ k) v l) (hm : l.length + 4 = m) (hl : m < 140737488355328) :
    Calls Tryz.prog 120 #[v, .int .i64 a] w fun e w' => ∃ A c, e = .returned (.slice A m c) ∧ Kd.R (Kd.int .u8) 5 w' w0.heap.size (fun k => w0.heap.size ≤ k) (.slice A m c) (l ++ put4 a) ∧ Below w0.heap.size w0 w' := by
  refine (put_new a hB hR (by omega)).mono ?_
  rintro e w' ⟨v', rfl, h1, h2⟩
  obtain ⟨A, c, rfl⟩ := Kd.R_slice h1
  rw [List.length_append, put4_length, hm] at h1 ⊢
  exact ⟨A, c, rfl, h1, h2⟩
theorem R_one (w : World) (base : Nat) (ok : Nat → Prop) (hb : base ≤ w.heap.size) (ho : ok w.heap.size) : Kd.R (Kd.int .u8) 5 (w.alloc (.cells #[.int .u8 0] 5)) base ok (.slice (some ⟨w.heap.size, 0, none⟩) 1 1) [0] :=
  ⟨fun k hk => by simp [Value.ownBlock] at hk; rw [← hk]; exact ho, [.int .u8 0], ⟨rfl, .inr ⟨w.heap.size, 1, #[.int .u8 0], rfl, hb, heap_alloc_new w _, Nat.le_refl _, by decide, rfl, rfl⟩⟩, Reps.one rfl (Reps.none _ _)⟩

theorem sorted_pages {w : World} {b sz : Nat} {f : Int → Option Value} (h : SMap Tryz.prog 3 w b f sz) (hz : sz ≤ 100000) {L : List Int} (hL : IsInts f L) :
    Calls Tryz.prog 121 #[.func (.func 134) #[] #[.pointer (some ⟨w.heap.size, 0, none⟩)]] (w.alloc (.cells #[.map (some b)] 110)) fun e w' => ∃ v, e = .returned v ∧ Kd.R (Kd.int .i64) 3 w' (w.heap.size + 1) (fun k => w.heap.size + 1 ≤ k) v L ∧ Below w.heap.size w w' := by
  have hsz := h.size_keys Tryz.underlying3 hL
  have h0 := h
  obtain ⟨⟨n, D, ho, hz', hfD⟩, hw⟩ := h
  have hsort := fun ss => h0.sorted Tryz.underlying3 hL ho (fun x hx => (hfD x hx).1) (ss := ss)
  refine (callsIn_wide.1 (Tryz.slices_Sorted_I b n D sliE w ho (by rw [hz']; unfold maxLen; omega) (by rw [hz']; omega))).mono ?_
  rintro e w' ⟨v, ss, rfl, hS, hrow, hnil, hb⟩
  have hsize : (w.alloc (.cells #[.map (some b)] 110)).heap.size = w.heap.size + 1 := by simp
  rw [hsort ss hS] at hrow
  have hlen : ss.length = L.length := by rw [← hsort ss hS, List.length_mergeSort]
  rw [hlen, hsize, show L.map encZ = encs (Value.int .i64) L from rfl] at hrow
  rw [hsize] at hb
  refine ⟨v, rfl, Kd.R_of_own hrow (fun k hk => own_base hrow k hk), ?_⟩
  exact ((Below.refl w.heap.size w).alloc (Nat.le_refl _) _).trans (hb.mono (by omega))
end Go.Proofs.YtmdpgjdepflbmaaGreat
namespace Go.Proofs.YtmdpgjdepflbmaaGreat
open Go.RowKit Go.Maps Go.Proofs.YtmdpgjdepflbmaaGreatW.PrintWords Go.Proofs.YtmdpgjdepflbmaaGreatW.PrintLast Go.Proofs.YtmdpgjdepflbmaaGreatW.PrintMore
open Go.Proofs.YtmdpgjdepflbmaaGreat.PPagerFolds
set_option linter.unusedVariables false
set_option linter.unusedSimpArgs false

/-- three names alone; no trouble; not too many strokes so far (c) -/
structure Quiet (M : DM) (c : Int) : Prop where
  off : M.off = false
  tr : ∀ n, M.tr n = 0
  st0 : 0 ≤ M.st
  st1 : M.st ≤ c
  three : ∀ x, (M.fs x).isSome = true → x = nm sB ∨ x = nm sJ ∨ x = nm sL
  len : ∀ x f, M.fs x = some f → f.1.length ≤ 4194304 ∧ f.2.length ≤ 4194304
theorem strokeR_quiet {M : DM} (ho : M.off = false) (ht : ∀ n, M.tr n = 0) (e0 : Int) (fs1 fs2 : Files) : strokeR M e0 fs1 fs2 = if e0 = 0 then (0, { M with st := M.st + 1, fs := fs2 }) else (e0, { M with st := M.st + 1, fs := fs1 }) := by
  unfold strokeR
  rw [if_neg (by rw [ho]; decide), if_neg (by rw [ht]; decide), if_neg (by rw [ht]; decide), if_neg (by rw [ht]; decide)]
theorem len3 {α : Type} (a b c : α) : ∀ (L : List α), L.Nodup → (∀ x ∈ L, x = a ∨ x = b ∨ x = c) → L.length ≤ 3
  | [], _, _ => by simp
  | [_], _, _ => by simp
  | [_, _], _, _ => by simp
  | [_, _, _], _, _ => by simp
  | x :: y :: z :: t :: r, h, hm => by
    exfalso
    have hx := hm x (by simp)
    have hy := hm y (by simp)
    have hz := hm z (by simp)
    have ht := hm t (by simp)
    simp only [List.nodup_cons, List.mem_cons, not_or] at h
    obtain ⟨⟨h1, h2, h3, _⟩, ⟨h4, h5, _⟩, ⟨h6, _⟩, _⟩ := h
    rcases hx with rfl | rfl | rfl <;> rcases hy with rfl | rfl | rfl <;> first | exact absurd rfl h1 | (rcases hz with rfl | rfl | rfl <;> first | exact absurd rfl h2 | exact absurd rfl h4 | (rcases ht with rfl | rfl | rfl <;> first | exact absurd rfl h3 | exact absurd rfl h5 | exact absurd rfl h6))
theorem Quiet.card3 {M : DM} {c : Int} (h : Quiet M c) {L : List Name} (hL : IsL M.fs L) : L.length ≤ 3 :=
  len3 _ _ _ L (hL.1.imp (fun {a b} hab e => by subst e; exact List.lt_irrefl _ hab)) (fun x hx => h.three x ((hL.2 x).1 hx))
theorem Quiet.fit {w : World} {d : Nat} {M : DM} {ok : Nat → Prop} {c : Int} (h : Quiet M c) (hc : c < 1000000) (hD : DiskAt w d M ok) : Fit M := by
  obtain ⟨L, hL⟩ := hD.isL
  exact ⟨h.len, h.st0, by have := h.st1; omega, by rw [card_eq hL]; have := h.card3 hL; omega⟩
theorem Quiet.more {M : DM} {c c' : Int} (h : Quiet M c) (hc : c ≤ c') : Quiet M c' := ⟨h.off, h.tr, h.st0, by have := h.st1; omega, h.three, h.len⟩
theorem Quiet.set {M : DM} {c : Int} (h : Quiet M c) {x : Name} (hx : x = nm sB ∨ x = nm sJ ∨ x = nm sL) (v : Option (Bytes × Bytes)) (hv : ∀ f, v = some f → f.1.length ≤ 4194304 ∧ f.2.length ≤ 4194304) : Quiet { M with st := M.st + 1, fs := setF M.fs x v } (c + 1) :=
  ⟨h.off, h.tr, by have := h.st0; show 0 ≤ M.st + 1; omega, by have := h.st1; show M.st + 1 ≤ c + 1; omega, fun y hy => by
    by_cases e : y = x
    · rw [e]; exact hx
    · exact h.three y (by simpa [setF, e] using hy), fun y f hy => by
    by_cases e : y = x
    · exact hv f (by simpa [setF, e] using hy)
    · exact h.len y f (by simpa [setF, e] using hy)⟩

/-- what a write leaves -/
def wr1 (M : DM) (x : Name) (a : Nat) (b : Bytes) : DM := { M with st := M.st + 1, fs := setF M.fs x (some (((M.fs x).getD ([], [])).1, writeB ((M.fs x).getD ([], [])).2 a b)) }
def sy1 (M : DM) (x : Name) : DM := { M with st := M.st + 1, fs := setF M.fs x (some (((M.fs x).getD ([], [])).2, ((M.fs x).getD ([], [])).2)) }
def de1 (M : DM) (x : Name) : DM := { M with st := M.st + 1, fs := setF M.fs x none }
theorem writeB_len (l : Bytes) (a : Nat) (b : Bytes) : (writeB l a b).length = max l.length (a + b.length) := by
  unfold writeB splice
  simp only [List.length_append, List.length_take, List.length_drop, padTo_length]
  omega
theorem Quiet.wr1 {M : DM} {c : Int} (h : Quiet M c) {x : Name} (hx : x = nm sB ∨ x = nm sJ ∨ x = nm sL) {a : Nat} {b : Bytes} (ha : a + b.length ≤ 4194304) : Quiet (Go.Proofs.YtmdpgjdepflbmaaGreat.wr1 M x a b) (c + 1) := by
  refine h.set hx _ (fun f hf => ?_)
  obtain rfl := Option.some.inj hf
  cases e : M.fs x with
  | none => exact ⟨by simp, by simp only [Option.getD_none, writeB_len]; simp; omega⟩
  | some g => have := h.len x g e; exact ⟨this.1, by simp only [Option.getD_some, writeB_len]; omega⟩
theorem Quiet.sy1 {M : DM} {c : Int} (h : Quiet M c) {x : Name} (hx : x = nm sB ∨ x = nm sJ ∨ x = nm sL) : Quiet (Go.Proofs.YtmdpgjdepflbmaaGreat.sy1 M x) (c + 1) := by
  refine h.set hx _ (fun f hf => ?_)
  obtain rfl := Option.some.inj hf
  cases e : M.fs x with
  | none => simp
  | some g => have := h.len x g e; exact ⟨this.2, this.2⟩
theorem Quiet.de1 {M : DM} {c : Int} (h : Quiet M c) {x : Name} (hx : x = nm sB ∨ x = nm sJ ∨ x = nm sL) : Quiet (Go.Proofs.YtmdpgjdepflbmaaGreat.de1 M x) (c + 1) := h.set hx _ (fun f hf => by cases hf)

section
variable {w : World} {d : Nat} {M : DM} {ok : Nat → Prop} {c : Int} {s : ByteArray}
theorem q_write (h : DiskAt w d M ok) (hq : Quiet M c) (hc : c < 1000000) {a nb cb : Nat} {Ab : Option Addr} {b : Bytes} (hg : GoodN s) (hnb : 0 < nb) (ha : a + nb ≤ 4194304) (hsrc : Src w ok Ab nb b) (hsl : ∀ ad, Ab = some ad → ad.block < w.heap.size) :
    Calls Tryz.prog 116 #[dptr d, .string s, .int .i64 (a : Int), .slice Ab nb cb] w fun e w' => e = .returned (.int .i64 0) ∧ Left w d (wr1 M (nm s) a b) ok w' := by
  have hr : writeM M (nm s) a b = (0, wr1 M (nm s) a b) := by
    unfold writeM wr1
    cases e : M.fs (nm s) with
    | some f => simp only [strokeR_quiet hq.off hq.tr, if_true, Option.getD_some]
    | none =>
      obtain ⟨L, hL⟩ := h.isL
      simp only [Option.getD_none]
      rw [if_pos (by rw [card_eq hL]; have := hq.card3 hL; omega)]
      simp only [strokeR_quiet hq.off hq.tr, if_true]
  have := write_any (cb := cb) h (hq.fit hc h) hg hnb ha hsrc hsl
  rw [hr] at this
  exact this
theorem q_sync (h : DiskAt w d M ok) (hq : Quiet M c) (hc : c < 1000000) (hg : GoodN s) (hx : (M.fs (nm s)).isSome = true) :
    Calls Tryz.prog 88 #[dptr d, .string s] w fun e w' => e = .returned (.int .i64 0) ∧ Left w d (sy1 M (nm s)) ok w' := by
  obtain ⟨f, hf⟩ := Option.isSome_iff_exists.1 hx
  have hr : syncM M (nm s) = (0, sy1 M (nm s)) := by
    unfold syncM sy1
    rw [hf]
    simp only [strokeR_quiet hq.off hq.tr, if_true, Option.getD_some]
  have := sync_any h (hq.fit hc h) hg
  rw [hr] at this
  exact this
theorem q_del (h : DiskAt w d M ok) (hq : Quiet M c) (hc : c < 1000000) (hg : GoodN s) (hx : (M.fs (nm s)).isSome = true) :
    Calls Tryz.prog 94 #[dptr d, .string s] w fun e w' => e = .returned (.int .i64 0) ∧ Left w d (de1 M (nm s)) ok w' := by
  have hr : delM M (nm s) = (0, de1 M (nm s)) := by
    unfold delM de1
    rw [if_pos hx]
    simp only [strokeR_quiet hq.off hq.tr, if_true]
  have := del_any h (hq.fit hc h) hg
  rw [hr] at this
  exact this
end
end Go.Proofs.YtmdpgjdepflbmaaGreat
namespace Go.Proofs.YtmdpgjdepflbmaaGreat
open Go.RowKit Go.Maps
set_option linter.unusedVariables false

/-- block b is a map, block r ranges over it; which keys are still to come, how many -/
def SRg (P : Program) (K : TypeId) (w : World) (b r : Nat) (f : Int → Option Value) (sz : Nat) (left : Int → Bool) (cnt : Nat) : Prop :=
  (∃ n D lf, w.ranges P K sliE b r n D lf cnt ∧ Maps.size D = sz ∧ (∀ x : Int, (Lit.int .i64 x).wf = true → has D (.int .i64 x) = (f x).isSome ∧ D.atKey (.int .i64 x) z0 = dat ((f x).getD nilS)) ∧ ∀ x : Int, (Lit.int .i64 x).wf = true → lf (.int .i64 x) = left x) ∧
  ∀ x v, f x = some v → (Lit.int .i64 x).wf = true ∧ (sliE v).isSome = true
section
variable {P : Program} {K E T : TypeId} {w w' : World} {b r sz cnt : Nat} {f : Int → Option Value} {left : Int → Bool}
theorem SRg.lt (h : SRg P K w b r f sz left cnt) : r < w.heap.size := by
  obtain ⟨⟨n, D, lf, hr, _⟩, _⟩ := h
  exact hr.lt
theorem SRg.kept {row : Option Nat} (h : SRg P K w b r f sz left cnt) (hg : w.grownBy w' row) (hb' : some b ≠ row) (hr' : some r ≠ row) : SRg P K w' b r f sz left cnt := by
  obtain ⟨⟨n, D, lf, hr, hz, hf, hl⟩, hw⟩ := h
  exact ⟨⟨n, D, lf, hr.kept hg hb' hr', hz, hf, hl⟩, hw⟩
theorem SRg.left_eq (h : SRg P K w b r f sz left cnt) : w.rangeLeft b r = cnt := by
  obtain ⟨⟨n, D, lf, hr, _⟩, _⟩ := h
  exact hr.left_eq
end
section
variable {P : Program} {K E T : TypeId} (w : World) {b r sz cnt : Nat} {f : Int → Option Value} {left : Int → Bool} {ops : Array Oper} {rest : List Oper} {o : Oper} {a : Act} {Q : Exit → Act → World → Prop}
theorem wpList_range_S (hg : o.guard = none) (m : Operand) (t : TypeId) (hop : o.op = Op.range t m) (hK : P.underlying K = some (.int .i64)) (hT : P.underlying t = some (.map K E)) (hm : a.eval m = .map (some b)) (h : SMap P K w b f sz)
    (hGo : ∀ w', SRg P K w' b w.heap.size f sz (fun x => (f x).isSome) sz → w.grownBy w' none → w'.heap.size = w.heap.size + 1 → wpList P ops Q rest (a.put o.dst (.pointer (some ⟨w.heap.size, 0, none⟩))) w') :
    wpList P ops Q (o :: rest) a w := by
  obtain ⟨⟨n, D, ho, hz, hf⟩, hw⟩ := h
  refine wpList_range_own w hg m t hop K E (int_keyed hK) hT sliE b n D hm ho (fun w' h1 h2 h3 => hGo w' ⟨⟨n, D, _, hz ▸ h1, hz, hf, fun x hx => (hf x hx).1⟩, hw⟩ h2 h3)
theorem wpList_next_S (hg : o.guard = none) (it : Operand) (hop : o.op = Op.next it false) (hK : P.underlying K = some (.int .i64)) (hit : a.eval it = .pointer (some ⟨r, 0, none⟩)) (h : SRg P K w b r f sz left cnt)
    (hDone : cnt = 0 → (∀ x v, f x = some v → left x = false) → wpList P ops Q rest (a.put o.dst (.tuple #[.bool false])) w)
    (hMore : ∀ (x : Int) (v : Value) (w' : World) (cnt' : Nat), f x = some v → left x = true → SRg P K w' b r f sz (fun y => left y && !decide (y = x)) cnt' → cnt' < cnt → w.grownBy w' (some r) → w'.heap.size = w.heap.size → (Instr.entry (.pointer (some ⟨r, 0, none⟩))).run P w' = .ok (.tuple #[.int .i64 x, v]) w' → wpList P ops Q rest (a.put o.dst (.tuple #[.bool true, .int .i64 x, v])) w') :
    wpList P ops Q (o :: rest) a w := by
  obtain ⟨⟨n, D, lf, hr, hz, hf, hl⟩, hw⟩ := h
  refine wpList_next_ranges w hg it hop K (int_keyed hK) sliE (Value.int .i64) (fun v : Value => v) (fun key kl hkey => by obtain ⟨x, rfl, _⟩ := Maps.keyOf_int_inv hK hkey; exact ⟨x, rfl⟩) (fun v y hv => ⟨v, rfl⟩) b r n D lf cnt hit hr (fun h0 hl0 => hDone h0 (fun x v hx => by rw [← hl x (hw x v hx).1]; exact hl0 _)) (fun x v kl y w' cnt' hkey hlk hv hat hrg hlt hgr hsz hen => ?_)
  obtain ⟨x', ex, rfl, hwx⟩ := Maps.keyOf_int_inv hK hkey
  cases ex
  have hD := hf x hwx
  have hy := (sliE_shape hv).1
  have hv' : sliE v = some (y.1, []) := by rw [hv]; exact congrArg some (Prod.ext rfl hy)
  obtain ⟨u, hu⟩ : ∃ u, f x = some u := by
    have hh : has D (.int .i64 x) = true := has_true_of_atKey hat
    rw [hD.1] at hh
    exact Option.isSome_iff_exists.1 hh
  have hvu : v = u := by
    have h1 := hat z0
    rw [hD.2, hu] at h1
    exact sliE_inj hv' (by rw [← h1]; exact sliE_dat (hw x u hu).2)
  subst hvu
  refine hMore x v w' cnt' hu (by rw [← hl x hwx]; exact hlk) ⟨⟨n, D, _, hrg, hz, hf, fun z hz' => ?_⟩, hw⟩ hlt hgr hsz hen
  show (lf (.int .i64 z) && !(Lit.int .i64 z).sameKey (.int .i64 x)) = _
  rw [hl z hz']
  congr 1
  simp [Lit.sameKey]
end
end Go.Proofs.YtmdpgjdepflbmaaGreat
namespace Go.Proofs.YtmdpgjdepflbmaaGreat
open Go.RowKit Go.Maps Go.Proofs.YtmdpgjdepflbmaaGreatW.PrintWords Go.Proofs.YtmdpgjdepflbmaaGreatW.PrintLast Go.Proofs.YtmdpgjdepflbmaaGreatW.PrintMore
open Go.Proofs.YtmdpgjdepflbmaaGreat.PPagerFolds
set_option linter.unusedVariables false
set_option linter.unusedSimpArgs false

theorem Left.undrew {w w' : World} {d : Nat} {M : DM} {ok : Nat → Prop} (h : Left w.drew d M ok w') : Left w d M ok w' := by
  obtain ⟨ok', h1, h2, h3⟩ := h
  exact ⟨ok', h1, h2, h3.undrew⟩
theorem Src.drew {w : World} {ok : Nat → Prop} {A : Option Addr} {n : Nat} {b : Bytes} (h : Src w ok A n b) : Src w.drew ok A n b := ⟨C_drewN h.1 1, h.2⟩

section
variable {w : World} {d p : Nat} {M : DM} {ok : Nat → Prop} {c : Int} {s : ByteArray} {bp bn ba bb : Nat}
set_option maxRecDepth 100000 in
theorem lay1_any (h : DiskAt w d M ok) (hq : Quiet M c) (hc : c < 1000000) {a nb cb : Nat} {Ab : Option Addr} {b : Bytes} (hg : GoodN s) (hnb : 0 < nb) (ha : a + nb ≤ 4194304) (hsrc : Src w ok Ab nb b) (hsl : ∀ ad, Ab = some ad → ad.block < w.heap.size)
    (hp : w.cell? ⟨p, 0, none⟩ = some (dptr d)) (h1 : w.cell? ⟨bp, 0, none⟩ = some (dp p)) (h2 : w.cell? ⟨bn, 0, none⟩ = some (.string s)) (h3 : w.cell? ⟨ba, 0, none⟩ = some (.int .i64 a)) (h4 : w.cell? ⟨bb, 0, none⟩ = some (.slice Ab nb cb)) :
    Calls Tryz.prog 115 #[bptr bp, bptr bn, bptr ba, bptr bb] w fun e w' => e = .returned (.int .i64 0) ∧ Left w d (wr1 M (nm s) a b) ok w' := by
  have HW := Aside0.mk (q_write (w := w.drew) (cb := cb) h.drew hq hc hg hnb ha hsrc.drew hsl)
  clear h hq hc hg hnb ha hsrc hsl
  go_enter Tryz.func115, Tryz.ntmps115
  go_wp2
  go_still_tail 7, (by kernel_rfl)
  go_wp2_with (go_at_call 116; refine (HW.out).mono ?_; rintro e w1 ⟨rfl, hL⟩; have H1 := Aside0.mk hL; clear hL)
  go_ret
  exact ⟨rfl, H1.out.undrew⟩
set_option maxRecDepth 100000 in
theorem lay2_any (h : DiskAt w d M ok) (hq : Quiet M c) (hc : c < 1000000) (hg : GoodN s) (hx : (M.fs (nm s)).isSome = true)
    (hp : w.cell? ⟨p, 0, none⟩ = some (dptr d)) (h1 : w.cell? ⟨bp, 0, none⟩ = some (dp p)) (h2 : w.cell? ⟨bn, 0, none⟩ = some (.string s)) :
    Calls Tryz.prog 117 #[bptr bp, bptr bn] w fun e w' => e = .returned (.int .i64 0) ∧ Left w d (sy1 M (nm s)) ok w' := by
  have HW := Aside0.mk (q_sync (w := w.drew) h.drew hq hc hg hx)
  clear h hq hc hg hx
  go_enter Tryz.func117, Tryz.ntmps117
  go_wp2
  go_still_tail 5, (by kernel_rfl)
  go_wp2_with (go_at_call 88; refine (HW.out).mono ?_; rintro e w1 ⟨rfl, hL⟩; have H1 := Aside0.mk hL; clear hL)
  go_ret
  exact ⟨rfl, H1.out.undrew⟩
set_option maxRecDepth 100000 in
theorem lay4_any (h : DiskAt w d M ok) (hq : Quiet M c) (hc : c < 1000000) (hg : GoodN s) (hx : (M.fs (nm s)).isSome = true)
    (hp : w.cell? ⟨p, 0, none⟩ = some (dptr d)) (h1 : w.cell? ⟨bp, 0, none⟩ = some (dp p)) (h2 : w.cell? ⟨bn, 0, none⟩ = some (.string s)) :
    Calls Tryz.prog 119 #[bptr bp, bptr bn] w fun e w' => e = .returned (.int .i64 0) ∧ Left w d (sy1 M (nm s)) ok w' := by
  have HW := Aside0.mk (q_sync (w := w.drew) h.drew hq hc hg hx)
  clear h hq hc hg hx
  go_enter Tryz.func119, Tryz.ntmps119
  go_wp2
  go_still_tail 5, (by kernel_rfl)
  go_wp2_with (go_at_call 88; refine (HW.out).mono ?_; rintro e w1 ⟨rfl, hL⟩; have H1 := Aside0.mk hL; clear hL)
  go_ret
  exact ⟨rfl, H1.out.undrew⟩
theorem one_B (w : World) (x : Int) : U8.C (w.alloc (.cells #[.int .u8 x] 5)) (some ⟨w.heap.size, 0, none⟩) 1 [x] := by
  have h : U8.R 5 (w.alloc (.cells #[.int .u8 x] 5)) 0 (fun _ => True) (.slice (some ⟨w.heap.size, 0, none⟩) 1 1) [x] :=
    ⟨fun _ _ => trivial, [.int .u8 x], ⟨rfl, .inr ⟨w.heap.size, 1, #[.int .u8 x], rfl, Nat.zero_le _, heap_alloc_new w _, Nat.le_refl _, by decide, rfl, rfl⟩⟩, Reps.one rfl (Reps.none _ _)⟩
  obtain ⟨A, c, e, hl, hC⟩ := Kd.R_reads h
  injection e with e1 e2 e3
  subst e1
  exact hC
set_option maxRecDepth 100000 in
theorem lay3_any (h : DiskAt w d M ok) (hk : ∀ k, ok k → k < w.heap.size) (hq : Quiet M c) (hc : c < 1000000) {a : Nat} (hg : GoodN s) (ha : a + 1 ≤ 4194304)
    (hp : w.cell? ⟨p, 0, none⟩ = some (dptr d)) (h1 : w.cell? ⟨bp, 0, none⟩ = some (dp p)) (h2 : w.cell? ⟨bn, 0, none⟩ = some (.string s)) (h3 : w.cell? ⟨ba, 0, none⟩ = some (.int .i64 a)) (kp : ¬ ok p) (k1 : ¬ ok bp) (k2 : ¬ ok bn) (k3 : ¬ ok ba) :
    Calls Tryz.prog 118 #[bptr bp, bptr bn, bptr ba] w fun e w' => e = .returned (.int .i64 0) ∧ Left w d (wr1 M (nm s) a [1]) ok w' := by
  have HW := Aside0.mk (fun W (hW : Below w.heap.size w W) => q_write (w := W.alloc (.cells #[.int .u8 1] 5)) (cb := 1) (Ab := some ⟨W.heap.size, 0, none⟩) (b := [1]) ((h.below hW).alloc _) hq hc hg (by omega) ha ⟨one_B W 1, fun ad e hk' => by cases e; exact Nat.lt_irrefl _ (Nat.lt_of_lt_of_le (hk _ hk') hW.size)⟩ (fun ad e => by cases e; simp))
  have HF := Aside0.mk (fun W w1 (hW : Below w.heap.size w W) (hL : Left (W.alloc (.cells #[.int .u8 1] 5)) d (wr1 M (nm s) a [1]) ok w1) => by
    obtain ⟨ok', g1, g2, g3⟩ := hL
    have hs := hW.size
    have key : ∀ b v, w.cell? ⟨b, 0, none⟩ = some v → ¬ ok b → w1.cell? ⟨b, 0, none⟩ = some v := fun b v hv hb => by
      have hl : b < w.heap.size := World.block_lt_of_cell? _ _ hv
      rw [World.cell?_of_block (w := W.alloc (.cells #[.int .u8 1] 5)) (a := ⟨b, 0, none⟩) (g3.block b (Nat.lt_of_lt_of_le hl (Nat.le_trans hs (by simp))) hb), World.cell?_of_block (w := W) (a := ⟨b, 0, none⟩) (Below.heap_alloc W _ b (Nat.lt_of_lt_of_le hl hs))]
      exact (hW.cell (p := ⟨b, 0, none⟩) hl).trans hv
    exact And.intro (key p _ hp kp) (And.intro (key bp _ h1 k1) (And.intro (key bn _ h2 k2) (key ba _ h3 k3))))
  clear h hq hc hg ha hk
  go_enter Tryz.func118, Tryz.ntmps118
  go_wp2
  go_region_held3 (fun w' => w'.cell? ⟨p, 0, none⟩ = some (dptr d) ∧ w'.cell? ⟨bp, 0, none⟩ = some (dp p) ∧ w'.cell? ⟨bn, 0, none⟩ = some (.string s) ∧ w'.cell? ⟨ba, 0, none⟩ = some (.int .i64 a)) (first | go_keep | assumption)
    ((go_at_call 116; refine (HW.out _ (by first | exact pw_below_drewN (Below.refl _ _) _ | exact below_drew (Below.refl _ _) | exact Below.refl _ _)).mono ?_; rintro e w1 ⟨rfl, hL⟩; obtain ⟨x1, x2, x3, x4⟩ := HF.out _ _ (by first | exact pw_below_drewN (Below.refl _ _) _ | exact below_drew (Below.refl _ _) | exact Below.refl _ _) hL; have H1 := Aside0.mk hL; clear hL))
  go_wp2
  go_ret
  refine ⟨rfl, ?_⟩
  obtain ⟨ok', g1, g2, g3⟩ := H1.out
  exact ⟨ok', g1, fun k hk => (g2 k hk).imp id (fun h => by simp at h; omega), ((Fr.refl ok w).drew.alloc _).trans g3 (fun k hk => .inl hk)⟩
end

/-- what lay leaves of the disk -/
def ly1 (M : DM) (x : Name) (a : Nat) (b : Bytes) : DM := sy1 (wr1 (sy1 (wr1 M x a b) x) x a [1]) x
def lyI (M : DM) (x : Name) (a : Nat) (b : Bytes) : Nat → DM
  | 0 => M
  | 1 => wr1 M x a b
  | 2 => sy1 (wr1 M x a b) x
  | 3 => wr1 (sy1 (wr1 M x a b) x) x a [1]
  | _ => ly1 M x a b
theorem some_wr {M : DM} {x : Name} {a : Nat} {b : Bytes} : ((wr1 M x a b).fs x).isSome = true := by simp [wr1, setF]
/-- what holds at the head of lay's loop -/
structure LyB (w W : World) (ok1 : Nat → Prop) (p d k0 k1 k2 k3 k4 : Nat) (s : ByteArray) (a nb cb : Nat) (Ab : Option Addr) (b : Bytes) : Prop where
  b0 : W.heap[k0]? = some (.cells #[dp p] 34 (0, 0))
  b1 : W.heap[k1]? = some (.cells #[.string s] 9 (0, 0))
  b2 : W.heap[k2]? = some (.cells #[.int .i64 a] 3 (0, 0))
  b3 : W.heap[k3]? = some (.cells #[.slice Ab nb cb] 48 (0, 0))
  b4 : W.heap[k4]? = some (.cells #[.func (.func 115) #[] #[.pointer (some ⟨k0, 0, none⟩), .pointer (some ⟨k1, 0, none⟩), .pointer (some ⟨k2, 0, none⟩), .pointer (some ⟨k3, 0, none⟩)], .func (.func 117) #[] #[.pointer (some ⟨k0, 0, none⟩), .pointer (some ⟨k1, 0, none⟩)], .func (.func 118) #[] #[.pointer (some ⟨k0, 0, none⟩), .pointer (some ⟨k1, 0, none⟩), .pointer (some ⟨k2, 0, none⟩)], .func (.func 119) #[] #[.pointer (some ⟨k0, 0, none⟩), .pointer (some ⟨k1, 0, none⟩)]] 46 (0, 0))
  nk : ∀ k, k0 ≤ k → ¬ ok1 k
  k : k0 ≤ k1 ∧ k0 ≤ k2 ∧ k0 ≤ k3 ∧ k0 ≤ k4
  np : ¬ ok1 p
  hp : W.cell? ⟨p, 0, none⟩ = some (dptr d)
  src : Src W ok1 Ab nb b
  sl : ∀ ad, Ab = some ad → ad.block < W.heap.size
theorem LyB.cells {w W wr : World} {ok1 : Nat → Prop} {p d k0 k1 k2 k3 k4 : Nat} {s : ByteArray} {a nb cb : Nat} {Ab : Option Addr} {b : Bytes} (h : LyB w W ok1 p d k0 k1 k2 k3 k4 s a nb cb Ab b) (hF : Fr ok1 W wr) :
    wr.cell? ⟨p, 0, none⟩ = some (dptr d) ∧ wr.cell? ⟨k0, 0, none⟩ = some (dp p) ∧ wr.cell? ⟨k1, 0, none⟩ = some (.string s) ∧ wr.cell? ⟨k2, 0, none⟩ = some (.int .i64 a) ∧ wr.cell? ⟨k3, 0, none⟩ = some (.slice Ab nb cb) ∧ wr.heap[k4]? = W.heap[k4]? := by
  have g0 := (hF.block k0 (heap_lt h.b0) (h.nk _ (Nat.le_refl _))).trans h.b0
  have g1 := (hF.block k1 (heap_lt h.b1) (h.nk _ h.k.1)).trans h.b1
  have g2 := (hF.block k2 (heap_lt h.b2) (h.nk _ h.k.2.1)).trans h.b2
  have g3 := (hF.block k3 (heap_lt h.b3) (h.nk _ h.k.2.2.1)).trans h.b3
  exact ⟨(World.cell?_of_block (w := W) (a := ⟨p, 0, none⟩) (hF.block p (World.block_lt_of_cell? _ _ h.hp) h.np)).trans h.hp, cell_of_row wr k0 0 _ _ (0, 0) g0, cell_of_row wr k1 0 _ _ (0, 0) g1, cell_of_row wr k2 0 _ _ (0, 0) g2, cell_of_row wr k3 0 _ _ (0, 0) g3, hF.block k4 (heap_lt h.b4) (h.nk _ h.k.2.2.2)⟩
set_option maxHeartbeats 1000000 in
set_option maxRecDepth 100000 in
theorem lay_any {w : World} {d p : Nat} {M : DM} {ok : Nat → Prop} {c : Int} {s : ByteArray} (h : DiskAt w d M ok) (hq : Quiet M c) (hc : c + 10 < 1000000) (hx : nm s = nm sB ∨ nm s = nm sJ ∨ nm s = nm sL) (hg : GoodN s) (hp : w.cell? ⟨p, 0, none⟩ = some (dptr d)) (hpk : ¬ ok p) {a nb cb : Nat} {Ab : Option Addr} {b : Bytes} (hsrc : Src w ok Ab nb b) (hsl : ∀ ad, Ab = some ad → ad.block < w.heap.size) (hnb : 0 < nb) (ha : a + nb ≤ 4194304) :
    Calls Tryz.prog 91 #[dp p, .string s, .int .i64 (a : Int), .slice Ab nb cb] w fun e w' => e = .returned (.int .i64 0) ∧ Left w d (ly1 M (nm s) a b) ok w' := by
  have hbl : b.length = nb := hsrc.1.1
  obtain ⟨k0, hk0⟩ : ∃ k, k = w.heap.size := ⟨_, rfl⟩
  obtain ⟨k1, hk1⟩ : ∃ k, k = k0 + 1 := ⟨_, rfl⟩
  obtain ⟨k2, hk2⟩ : ∃ k, k = k1 + 1 := ⟨_, rfl⟩
  obtain ⟨k3, hk3⟩ : ∃ k, k = k2 + 1 := ⟨_, rfl⟩
  obtain ⟨k4, hk4⟩ : ∃ k, k = k3 + 1 := ⟨_, rfl⟩
  obtain ⟨W, hW⟩ : ∃ W, W = ((((w.alloc (.cells #[dp p] 34)).alloc (.cells #[.string s] 9)).alloc (.cells #[.int .i64 a] 3)).alloc (.cells #[.slice Ab nb cb] 48)).alloc (.cells #[.func (.func 115) #[] #[.pointer (some ⟨k0, 0, none⟩), .pointer (some ⟨k1, 0, none⟩), .pointer (some ⟨k2, 0, none⟩), .pointer (some ⟨k3, 0, none⟩)], .func (.func 117) #[] #[.pointer (some ⟨k0, 0, none⟩), .pointer (some ⟨k1, 0, none⟩)], .func (.func 118) #[] #[.pointer (some ⟨k0, 0, none⟩), .pointer (some ⟨k1, 0, none⟩), .pointer (some ⟨k2, 0, none⟩)], .func (.func 119) #[] #[.pointer (some ⟨k0, 0, none⟩), .pointer (some ⟨k1, 0, none⟩)]] 46) := ⟨_, rfl⟩
  obtain ⟨ok1, hok1⟩ : ∃ ok1 : Nat → Prop, ok1 = fun k => ok k ∧ k < w.heap.size := ⟨_, rfl⟩
  have hbW : Below w.heap.size w W := by
    rw [hW]
    exact (((((Below.refl _ _).alloc (Nat.le_refl _) _).alloc (by simp) _).alloc (by simp; omega) _).alloc (by simp; omega) _).alloc (by simp; omega) _
  have hsW : W.heap.size = w.heap.size + 5 := by rw [hW]; simp
  have hD : DiskAt W d M ok1 := by rw [hok1]; exact h.tight.move (fun k hk _ => hbW.block k hk.2)
  have hpl : p < w.heap.size := World.block_lt_of_cell? _ _ hp
  have HB : LyB w W ok1 p d k0 k1 k2 k3 k4 s a nb cb Ab b := by
    refine ⟨?_, ?_, ?_, ?_, ?_, fun k hk hk' => ?_, by omega, fun hk => ?_, (hbW.cell (p := ⟨p, 0, none⟩) hpl).trans hp, ⟨Kd.C_below hsrc.1 hbW, fun ad e hk => hsrc.2 ad e (by rw [hok1] at hk; exact hk.1)⟩, fun ad e => by have := hsl ad e; omega⟩
    · rw [hW]; exact lies (lies (lies (lies (fresh w.heap _ hk0) _) _) _) _
    · rw [hW]; exact lies (lies (lies (fresh _ _ (by simp; omega)) _) _) _
    · rw [hW]; exact lies (lies (fresh _ _ (by simp; omega)) _) _
    · rw [hW]; exact lies (fresh _ _ (by simp; omega)) _
    · rw [hW]; exact fresh _ _ (by simp; omega)
    · rw [hok1] at hk'; have := hk'.2; omega
    · rw [hok1] at hk; exact hpk hk.1
  have q1 := hq.wr1 (x := nm s) hx (a := a) (b := b) (by rw [hbl]; exact ha)
  have q2 := q1.sy1 hx
  have q3 := q2.wr1 (x := nm s) hx (a := a) (b := [1]) (by simp; omega)
  have H0 : Aside0 (Left W d (lyI M (nm s) a b 0) ok1 W) := ⟨Left.same hD⟩
  have HB := Aside0.mk HB
  have HQ := Aside0.mk (And.intro hq (And.intro q1 (And.intro q2 q3)))
  have HK := Aside0.mk (And.intro hok1 (And.intro hbW hsW))
  have HG := Aside0.mk (And.intro hg (And.intro hnb (And.intro ha (And.intro hc hx))))
  clear h hq hc hx hg hp hpk hsrc hsl hnb ha hbl hD hok1 hbW hsW q1 q2 q3 hpl
  go_enter Tryz.func91, Tryz.ntmps91
  go_wp2
  rw [← hk0, ← hk1, ← hk2, ← hk3, ← hk4, ← hW]
  clear hk0 hk1 hk2 hk3 hk4 hW
  go_loopw [18] (fun v18 wr => (v18 = .int .i64 0 ∧ Aside0 (Left W d (lyI M (nm s) a b 0) ok1 wr)) ∨ (v18 = .int .i64 1 ∧ Aside0 (Left W d (lyI M (nm s) a b 1) ok1 wr)) ∨ (v18 = .int .i64 2 ∧ Aside0 (Left W d (lyI M (nm s) a b 2) ok1 wr)) ∨ (v18 = .int .i64 3 ∧ Aside0 (Left W d (lyI M (nm s) a b 3) ok1 wr)) ∨ (v18 = .int .i64 4 ∧ Aside0 (Left W d (lyI M (nm s) a b 4) ok1 wr))) (fun v18 _ => 4 - (intOf v18).toNat)
  case atStart => exact .inl ⟨rfl, H0⟩
  case round =>
    clear H0
    have HT := Aside0.mk (fun {Mx : DM} (h : Left W d Mx ok1 wr) => by
      obtain ⟨okx, hD, hkx, hF⟩ := h
      have hs := hF.size
      exact (And.intro (⟨okx, hD.tight, hkx, hF⟩ : ∃ okx, DiskAt wr d Mx (fun k => okx k ∧ k < wr.heap.size) ∧ (∀ k, okx k → ok1 k ∨ W.heap.size ≤ k) ∧ Fr ok1 W wr) (And.intro (HB.out.cells hF) hF)))
    rcases hrel with ⟨rfl, HI⟩ | ⟨rfl, HI⟩ | ⟨rfl, HI⟩ | ⟨rfl, HI⟩ | ⟨rfl, HI⟩
    · obtain ⟨⟨okx, hD, hkx, hF⟩, ⟨c0, d0, d1, d2, d3, hb4⟩, _⟩ := HT.out HI.out
      have e4 := cell_of_row wr k4 0 _ _ (0, 0) (hb4.trans HB.out.b4)
      have HC := Aside0.mk (lay1_any (cb := cb) hD HQ.out.1 (by have := HG.out.2.2.2.1; omega) HG.out.1 HG.out.2.1 HG.out.2.2.1 (Src.fr' HB.out.src HB.out.sl hF (fun k hk => hkx k hk.1)) (fun ad e => Nat.lt_of_lt_of_le (HB.out.sl ad e) hF.size) c0 d0 d1 d2 d3)
      have HX := Aside0.mk (And.intro hkx hF)
      clear hD hkx hF c0 d0 d1 d2 d3 hb4 HT
      go_wp2_with (go_at_call 115; refine HC.out.mono ?_; rintro e w2 ⟨rfl, hL⟩; have H2 := Aside0.mk hL; clear hL)
      go_roundw
      case rel => exact .inr (.inl ⟨rfl, ⟨Left.trans (M := M) (fun k hk => HX.out.1 k hk.1) HX.out.2 H2.out⟩⟩)
      case measure => simp [intOf]
    · obtain ⟨⟨okx, hD, hkx, hF⟩, ⟨c0, d0, d1, d2, d3, hb4⟩, _⟩ := HT.out HI.out
      have e4 := cell_of_row wr k4 1 _ _ (0, 0) (hb4.trans HB.out.b4)
      have HC := Aside0.mk (lay2_any hD HQ.out.2.1 (by have := HG.out.2.2.2.1; omega) HG.out.1 some_wr c0 d0 d1)
      have HX := Aside0.mk (And.intro hkx hF)
      clear hD hkx hF c0 d0 d1 d2 d3 hb4 HT
      go_wp2_with (go_at_call 117; refine HC.out.mono ?_; rintro e w2 ⟨rfl, hL⟩; have H2 := Aside0.mk hL; clear hL)
      go_roundw
      case rel => exact .inr (.inr (.inl ⟨rfl, ⟨Left.trans (M := M) (fun k hk => HX.out.1 k hk.1) HX.out.2 H2.out⟩⟩))
      case measure => simp [intOf]
    · obtain ⟨⟨okx, hD, hkx, hF⟩, ⟨c0, d0, d1, d2, d3, hb4⟩, _⟩ := HT.out HI.out
      have e4 := cell_of_row wr k4 2 _ _ (0, 0) (hb4.trans HB.out.b4)
      have hnk : ∀ k, ¬ ok1 k → k < W.heap.size → ¬ (okx k ∧ k < wr.heap.size) := fun k hk hl h => (hkx k h.1).elim hk (fun h' => by omega)
      have HC := Aside0.mk (lay3_any hD (fun k hk => hk.2) HQ.out.2.2.1 (by have := HG.out.2.2.2.1; omega) HG.out.1 (by have := HG.out.2.2.1; have := HG.out.2.1; omega) c0 d0 d1 d2 (hnk p HB.out.np (World.block_lt_of_cell? _ _ HB.out.hp)) (hnk k0 (HB.out.nk _ (Nat.le_refl _)) (heap_lt HB.out.b0)) (hnk k1 (HB.out.nk _ HB.out.k.1) (heap_lt HB.out.b1)) (hnk k2 (HB.out.nk _ HB.out.k.2.1) (heap_lt HB.out.b2)))
      have HX := Aside0.mk (And.intro hkx hF)
      clear hD hkx hF c0 d0 d1 d2 d3 hb4 HT hnk
      go_wp2_with (go_at_call 118; refine HC.out.mono ?_; rintro e w2 ⟨rfl, hL⟩; have H2 := Aside0.mk hL; clear hL)
      go_roundw
      case rel => exact .inr (.inr (.inr (.inl ⟨rfl, ⟨Left.trans (M := M) (fun k hk => HX.out.1 k hk.1) HX.out.2 H2.out⟩⟩)))
      case measure => simp [intOf]
    · obtain ⟨⟨okx, hD, hkx, hF⟩, ⟨c0, d0, d1, d2, d3, hb4⟩, _⟩ := HT.out HI.out
      have e4 := cell_of_row wr k4 3 _ _ (0, 0) (hb4.trans HB.out.b4)
      have HC := Aside0.mk (lay4_any hD HQ.out.2.2.2 (by have := HG.out.2.2.2.1; omega) HG.out.1 some_wr c0 d0 d1)
      have HX := Aside0.mk (And.intro hkx hF)
      clear hD hkx hF c0 d0 d1 d2 d3 hb4 HT
      go_wp2_with (go_at_call 119; refine HC.out.mono ?_; rintro e w2 ⟨rfl, hL⟩; have H2 := Aside0.mk hL; clear hL)
      go_roundw
      case rel => exact .inr (.inr (.inr (.inr ⟨rfl, ⟨Left.trans (M := M) (fun k hk => HX.out.1 k hk.1) HX.out.2 H2.out⟩⟩)))
      case measure => simp [intOf]
    · clear HT
      go_wp2
      go_ret
      have hL := HI.out
      rw [HK.out.1] at hL
      exact ⟨rfl, Left.loose (W := W) (Fr.of_below HK.out.2.1) hL⟩
end Go.Proofs.YtmdpgjdepflbmaaGreat

/-
  Maps of the call's own as plain functions: a map from strings to pointers, a map from numbers to numbers.
-/
import Derived.Test.YtmdpgjdepflbmaaGreatCKeys
import Derived.Test.YtmdpgjdepflbmaaGreatRows
import Derived.Maps.OwnSet
import Derived.Maps.OwnOps
import Derived.StringKeys
import Derived.Maps.RangeWalk
import Derived.Lib.SlKeysI
import Derived.Test.YtmdpgjdepflbmaaGreatCPPagesModelx5
import Derived.Test.YtmdpgjdepflbmaaGreatCPPagesModelx6
import Derived.Test.YtmdpgjdepflbmaaGreatCPPagesModelx7
import Derived.Test.YtmdpgjdepflbmaaGreatCPPagesModelx8
import Derived.Test.YtmdpgjdepflbmaaGreatCPPagerFoldsx1
import Derived.Test.YtmdpgjdepflbmaaGreatCPPagerFoldsx4
import Derived.Test.YtmdpgjdepflbmaaGreatCPPagerFoldsx5
import Derived.Test.YtmdpgjdepflbmaaGreatCPPagerFoldsx6
import Derived.Laws.CopyOwn
import Derived.WalkSpells
import Derived.WalkLawsBesides
import Derived.Deep.QuietTactic
import Derived.BigQuiet
import Derived.OwnWalk
namespace Go.Proofs.YtmdpgjdepflbmaaGreat
open Go.RowKit Go.Maps
open Go.WideMaps (keyOf_string_mk)
set_option linter.unusedVariables false

/-- a pointer to the head of a block reads as the block's number; nil as -1 -/
def ptrE (v : Value) : Option (DataW Unit × List MemPlace) :=
  match v with
  | .pointer none => some (.lit (.int .i64 (-1)), [])
  | .pointer (some ⟨g, 0, none⟩) => some (.lit (.int .i64 g), [])
  | _ => none
theorem ptrE_none : ptrE (.pointer none) = some (.lit (.int .i64 (-1)), []) := rfl
theorem ptrE_some (g : Nat) : ptrE (.pointer (some ⟨g, 0, none⟩)) = some (.lit (.int .i64 g), []) := rfl

def ptrV : Option Nat → Value
  | none => .pointer none
  | some g => .pointer (some ⟨g, 0, none⟩)
def ptrN : Option Nat → Int
  | none => -1
  | some g => g
theorem ptrE_inv {v : Value} {o : Option Nat} {ps : List MemPlace} (h : ptrE v = some (.lit (.int .i64 (ptrN o)), ps)) : v = ptrV o := by
  unfold ptrE at h
  split at h
  · cases o with
    | none => rfl
    | some g => simp [ptrN] at h
  · cases o with
    | none => simp [ptrN] at h
    | some g => simp [ptrN] at h; obtain ⟨h1, _⟩ := h; have h2 := Int.ofNat_inj.1 h1; subst h2; rfl
  · cases h

/-- block b is a map from strings to blocks -/
def PMap (P : Program) (K : TypeId) (w : World) (b : Nat) (f : List UInt8 → Option Nat) (sz : Nat) : Prop :=
  ∃ n D, w.ownsMap P K ptrE b n D ∧ Maps.size D = sz ∧ ∀ x : List UInt8, has D (.string x) = (f x).isSome ∧ D.atKey (.string x) (.lit (.int .i64 (-1))) = .lit (.int .i64 (ptrN (f x)))

section
variable {P : Program} {K E T : TypeId} {w w' : World} {b sz : Nat} {f : List UInt8 → Option Nat}

theorem PMap.made (P : Program) (K : TypeId) (w : World) : PMap P K (w.alloc (.map #[] 0)) w.heap.size (fun _ => none) 0 :=
  ⟨0, .map [], World.ownsMap_made _ _ _ _, rfl, fun x => ⟨rfl, rfl⟩⟩

theorem ownsMap_at {k : TypeId} {R : Value → Option (DataW Unit × List MemPlace)} {n : Nat} {D : DataW Unit} (h : w.ownsMap P k R b n D) (hb : w'.heap[b]? = w.heap[b]?) : w'.ownsMap P k R b n D := by
  obtain ⟨es, clock, h1, F, hs, hD⟩ := h
  exact ⟨es, clock, hb.trans h1, F, hs, hD⟩
theorem PMap.move (h : PMap P K w b f sz) (hb : w'.heap[b]? = w.heap[b]?) : PMap P K w' b f sz := by
  obtain ⟨n, D, ho, hz, hf⟩ := h
  exact ⟨n, D, ownsMap_at ho hb, hz, hf⟩
theorem PMap.lt (h : PMap P K w b f sz) : b < w.heap.size := by
  obtain ⟨n, D, ho, _⟩ := h
  exact ho.lt

theorem PMap.look (h : PMap P K w b f sz) (hK : P.underlying K = some .string) (hT : P.underlying T = some (.map K E)) (hz : ∀ w : World, (zeroValue E).run P w = .ok (.pointer none) w) {s : ByteArray} (hs : s.size ≤ maxLen) :
    (Instr.lookup T (.map (some b)) (.string s) false).run P w = .ok (ptrV (f s.data.toList)) w := by
  obtain ⟨n, D, ho, _, hf⟩ := h
  obtain ⟨v, ps, hrun, hR⟩ := ho.lookup (string_keyed hK) hT (hz w) ptrE_none (keyOf_string_mk hK hs)
  rw [(hf _).2] at hR
  rw [hrun, ptrE_inv hR]
theorem PMap.len (h : PMap P K w b f sz) (hT : P.underlying T = some (.map K E)) (ty : TypeId) : (Builtin.len_ #[T] ty #[.map (some b)]).run P w = .ok (.int .i64 sz) w := by
  obtain ⟨n, D, ho, hz, _⟩ := h
  rw [ho.len hT ty, hz]

/-- as tight as it goes -/
theorem ownsMap_tight {k : TypeId} {R : Value → Option (DataW Unit × List MemPlace)} {n : Nat} {D : DataW Unit} (h : w.ownsMap P k R b n D) : w.ownsMap P k R b (Maps.size D) D := by
  obtain ⟨es, clock, h1, F, hs, rfl⟩ := h
  exact ⟨es, clock, h1, F, by simp [Maps.size, length_sorted], rfl⟩

/-- a store -/
theorem PMap.store (h : PMap P K w b f sz) (hK : P.underlying K = some .string) (hT : P.underlying T = some (.map K E)) {s : ByteArray} (hs : s.size ≤ maxLen) (hn : sz < maxLen) (g : Nat) :
    ∃ w1, (Instr.mapUpdate T (.map (some b)) (.string s) (.pointer (some ⟨g, 0, none⟩))).run P w = .ok () w1 ∧
      PMap P K w1 b (fun x => if x = s.data.toList then some g else f x) (if (f s.data.toList).isSome then sz else sz + 1) ∧ w.mapTurned w1 b := by
  obtain ⟨n, D, ho, hz, hf⟩ := h
  obtain ⟨w1, hrun, ho1, ht⟩ := (ownsMap_tight ho).store (string_keyed hK) hT (by rw [hz]; exact hn) (keyOf_string_mk hK hs) (ptrE_some g)
  refine ⟨w1, hrun, ⟨_, _, ho1, ?_, fun x => ?_⟩, ht⟩
  · rw [size_put (ho.tidy (string_keyed hK)), (hf _).1, hz]
  · by_cases e : x = s.data.toList
    · subst e
      simp only [if_true]
      exact ⟨has_put_same ho.isMap (by simp [WideAt.IsKeyLit]) _, atKey_put_same ho.isMap (by simp [WideAt.IsKeyLit]) _ _⟩
    · simp only [if_neg e]
      have e' : Lit.string x ≠ Lit.string s.data.toList := fun h => e (by injection h)
      rw [has_put_other e', atKey_put_other e']
      exact hf x

/-- a deletion -/
theorem PMap.drop (h : PMap P K w b f sz) (hK : P.underlying K = some .string) (hT : P.underlying T = some (.map K E)) {s : ByteArray} (hs : s.size ≤ maxLen) (ty : TypeId) :
    ∃ w1, (Builtin.delete_ #[T, K] ty #[.map (some b), .string s]).run P w = .ok (.tuple #[]) w1 ∧
      PMap P K w1 b (fun x => if x = s.data.toList then none else f x) (if (f s.data.toList).isSome then sz - 1 else sz) ∧ w.mapTurned w1 b := by
  obtain ⟨n, D, ho, hz, hf⟩ := h
  obtain ⟨w1, hrun, ho1, ht⟩ := ho.drop (string_keyed hK) hT (keyOf_string_mk hK hs) ty
  refine ⟨w1, hrun, ⟨_, _, ho1, ?_, fun x => ?_⟩, ht⟩
  · have h1 := size_del (k := .string s.data.toList) (ho.tidy (string_keyed hK))
    rw [(hf _).1, hz] at h1
    split
    · next e => rw [e] at h1; simp at h1; omega
    · next e => rw [if_neg e] at h1; omega
  · by_cases e : x = s.data.toList
    · subst e
      simp only [if_true]
      exact ⟨has_del_same, atKey_del_same _⟩
    · simp only [if_neg e]
      have e' : Lit.string x ≠ Lit.string s.data.toList := fun h => e (by injection h)
      rw [has_del_other e', atKey_del_other e']
      exact hf x

/-- the keys of a map, rising -/
def IsNames (f : List UInt8 → Option Nat) (L : List (List UInt8)) : Prop := L.Pairwise (· < ·) ∧ ∀ x, x ∈ L ↔ (f x).isSome = true

theorem IsNames.nodup {L : List (List UInt8)} (h : IsNames f L) : L.Nodup := h.1.imp (fun {a b} hab e => by subst e; exact List.lt_irrefl _ hab)

theorem sorted_eq {L : List (List UInt8)} (h : L.Pairwise (· < ·)) : L.mergeSort leB = L := by
  refine List.mergeSort_of_pairwise (h.imp fun {a b} hab => ?_)
  simp only [leB, decide_eq_true_eq]
  exact List.le_of_lt hab

theorem strKeys_nodup {es : List (Lit × DataW Unit)} (hp : es.Pairwise (fun p q => p.1 ≠ q.1)) (hk : ∀ p ∈ es, ∃ x, p.1 = .string x) : (strKeys (.map es)).Nodup := by
  show (es.map fun p => strOf p.1).Nodup
  refine List.pairwise_map.2 (hp.imp_of_mem fun {p q} hp' hq' hne e => hne ?_)
  obtain ⟨a, ha⟩ := hk p hp'
  obtain ⟨b, hb⟩ := hk q hq'
  rw [ha, hb] at e ⊢
  exact congrArg _ e

/-- a map's keys -/
theorem owns_keys {n : Nat} {D : DataW Unit} (ho : w.ownsMap P K ptrE b n D) (hK : P.underlying K = some .string) (hf : ∀ x : List UInt8, has D (.string x) = (f x).isSome) :
    (strKeys D).Nodup ∧ ∀ x, x ∈ strKeys D ↔ (f x).isSome = true := by
  obtain ⟨es, hD, hpw, _⟩ := ho.entries (string_keyed hK)
  obtain ⟨es', hD', hko⟩ := ho.keysOf
  obtain rfl : es = es' := by rw [hD] at hD'; simpa using hD'
  subst hD
  have hk : ∀ p ∈ es, ∃ x, p.1 = .string x := fun p hp => by obtain ⟨v, hv⟩ := hko p hp; obtain ⟨x, _, hx, _⟩ := Maps.keyOf_str hK hv; exact ⟨x, hx⟩
  refine ⟨strKeys_nodup hpw hk, fun x => ?_⟩
  rw [← hf x, has_eq, List.any_eq_true]
  show x ∈ es.map (fun p => strOf p.1) ↔ _
  rw [List.mem_map]
  constructor
  · rintro ⟨p, hp, rfl⟩
    obtain ⟨a, ha⟩ := hk p hp
    exact ⟨p, hp, by rw [ha]; simp [Lit.sameKey, strOf]⟩
  · rintro ⟨p, hp, hs⟩
    obtain ⟨a, ha⟩ := hk p hp
    rw [ha] at hs
    exact ⟨p, hp, by rw [ha]; simpa [Lit.sameKey, strOf] using hs⟩

theorem PMap.names (h : PMap P K w b f sz) (hK : P.underlying K = some .string) : ∃ L, IsNames f L := by
  obtain ⟨n, D, ho, _, hf⟩ := h
  obtain ⟨hn, hm⟩ := owns_keys ho hK (fun x => (hf x).1)
  have tr : ∀ a b c : List UInt8, leB a b = true → leB b c = true → leB a c = true := fun a b c h1 h2 => by simp only [leB, decide_eq_true_eq] at *; exact List.le_trans h1 h2
  have tot : ∀ a b : List UInt8, (leB a b || leB b a) = true := fun a b => by simp only [leB, Bool.or_eq_true, decide_eq_true_eq]; exact List.le_total a b
  refine ⟨(strKeys D).mergeSort leB, ?_, fun x => by rw [(List.mergeSort_perm _ _).mem_iff, hm]⟩
  have h1 := List.pairwise_mergeSort tr tot (strKeys D)
  have h2 : ((strKeys D).mergeSort leB).Nodup := (List.mergeSort_perm _ _).nodup_iff.2 hn
  refine (h1.and h2).imp fun {a b} hab => ?_
  obtain ⟨hle, hne⟩ := hab
  simp only [leB, decide_eq_true_eq] at hle
  rcases List.le_iff_lt_or_eq.1 hle with h | h
  · exact h
  · exact absurd h hne

theorem PMap.size_names (h : PMap P K w b f sz) (hK : P.underlying K = some .string) {L : List (List UInt8)} (hL : IsNames f L) : L.length = sz := by
  obtain ⟨n, D, ho, hz, hf⟩ := h
  obtain ⟨hn, hm⟩ := owns_keys ho hK (fun x => (hf x).1)
  have hp : L.Perm (strKeys D) := (List.perm_ext_iff_of_nodup hL.nodup hn).2 fun x => by rw [hL.2, hm]
  rw [hp.length_eq, ← hz]
  obtain ⟨es, hD, _⟩ := ho.keysOf
  subst hD
  simp [strKeys, Maps.size]

theorem PMap.sorted (h : PMap P K w b f sz) (hK : P.underlying K = some .string) {L : List (List UInt8)} (hL : IsNames f L) {n : Nat} {D : DataW Unit} (ho : w.ownsMap P K ptrE b n D) (hf : ∀ x : List UInt8, has D (.string x) = (f x).isSome)
    {ss : List (List UInt8)} (hp : ss.Perm (strKeys D)) : ss.mergeSort (fun x y => decide (x ≤ y)) = L := by
  obtain ⟨hn, hm⟩ := owns_keys ho hK hf
  have hp2 : ss.Perm L := hp.trans ((List.perm_ext_iff_of_nodup hn hL.nodup).2 fun x => by rw [hL.2, hm])
  have := mergeSort_of_perm hp2
  rw [sorted_eq hL.1] at this
  exact this
end
end Go.Proofs.YtmdpgjdepflbmaaGreat
namespace Go.Proofs.YtmdpgjdepflbmaaGreat
open Go.RowKit Go.Maps
set_option linter.unusedVariables false

/-- a slice reads as the numbers that it is made of -/
def sliE (v : Value) : Option (DataW Unit × List MemPlace) :=
  match v with
  | .slice none n c => some (.agg [.lit (.int .i64 n), .lit (.int .i64 c)], [])
  | .slice (some ⟨b, o, none⟩) n c => some (.agg [.lit (.int .i64 b), .lit (.int .i64 o), .lit (.int .i64 n), .lit (.int .i64 c)], [])
  | _ => none
abbrev nilS : Value := .slice none 0 0
def z0 : DataW Unit := .agg [.lit (.int .i64 0), .lit (.int .i64 0)]
theorem sliE_nil : sliE nilS = some (z0, []) := rfl
theorem sliE_shape {v : Value} {y : DataW Unit × List MemPlace} (h : sliE v = some y) : y.2 = [] ∧ ((∃ n c, v = .slice none n c) ∨ ∃ b o n c, v = .slice (some ⟨b, o, none⟩) n c) := by
  unfold sliE at h
  split at h
  · obtain rfl := Option.some.inj h; exact ⟨rfl, .inl ⟨_, _, rfl⟩⟩
  · obtain rfl := Option.some.inj h; exact ⟨rfl, .inr ⟨_, _, _, _, rfl⟩⟩
  · cases h
theorem sliE_inj {v v' : Value} {y : DataW Unit} {p p' : List MemPlace} (h : sliE v = some (y, p)) (h' : sliE v' = some (y, p')) : v = v' := by
  rcases (sliE_shape h).2 with ⟨n, c, rfl⟩ | ⟨b, o, n, c, rfl⟩
  · rcases (sliE_shape h').2 with ⟨n', c', rfl⟩ | ⟨b', o', n', c', rfl⟩
    · simp only [sliE, Option.some.injEq, Prod.mk.injEq] at h h'
      have := h.1.trans h'.1.symm
      simp at this
      obtain ⟨h1, h2⟩ := this
      have e1 : n = n' := by omega
      have e2 : c = c' := by omega
      rw [e1, e2]
    · simp only [sliE, Option.some.injEq, Prod.mk.injEq] at h h'
      have := h.1.trans h'.1.symm
      simp at this
  · rcases (sliE_shape h').2 with ⟨n', c', rfl⟩ | ⟨b', o', n', c', rfl⟩
    · simp only [sliE, Option.some.injEq, Prod.mk.injEq] at h h'
      have := h.1.trans h'.1.symm
      simp at this
    · simp only [sliE, Option.some.injEq, Prod.mk.injEq] at h h'
      have := h.1.trans h'.1.symm
      simp at this
      obtain ⟨h1, h2, h3, h4⟩ := this
      have e1 : b = b' := by omega
      have e2 : o = o' := by omega
      have e3 : n = n' := by omega
      have e4 : c = c' := by omega
      rw [e1, e2, e3, e4]
/-- what a slice reads as -/
def dat (v : Value) : DataW Unit := ((sliE v).map (·.1)).getD z0
theorem sliE_dat {v : Value} (h : (sliE v).isSome = true) : sliE v = some (dat v, []) := by
  obtain ⟨y, hy⟩ := Option.isSome_iff_exists.1 h
  have := (sliE_shape hy).1
  unfold dat
  rw [hy]
  cases y; simp_all

/-- block b is a map from numbers to slices -/
def SMap (P : Program) (K : TypeId) (w : World) (b : Nat) (f : Int → Option Value) (sz : Nat) : Prop :=
  (∃ n D, w.ownsMap P K sliE b n D ∧ Maps.size D = sz ∧ ∀ x : Int, (Lit.int .i64 x).wf = true → has D (.int .i64 x) = (f x).isSome ∧ D.atKey (.int .i64 x) z0 = dat ((f x).getD nilS)) ∧
  ∀ x v, f x = some v → (Lit.int .i64 x).wf = true ∧ (sliE v).isSome = true
section
variable {P : Program} {K E T : TypeId} {w w' : World} {b sz : Nat} {f : Int → Option Value}
theorem SMap.made (P : Program) (K : TypeId) (w : World) : SMap P K (w.alloc (.map #[] 0)) w.heap.size (fun _ => none) 0 :=
  ⟨⟨0, .map [], World.ownsMap_made _ _ _ _, rfl, fun x _ => ⟨rfl, rfl⟩⟩, fun _ _ h => by cases h⟩
theorem SMap.move (h : SMap P K w b f sz) (hb : w'.heap[b]? = w.heap[b]?) : SMap P K w' b f sz := by
  obtain ⟨⟨n, D, ho, hz, hf⟩, hw⟩ := h
  exact ⟨⟨n, D, ownsMap_at ho hb, hz, hf⟩, hw⟩
theorem SMap.lt (h : SMap P K w b f sz) : b < w.heap.size := by
  obtain ⟨⟨n, D, ho, _⟩, _⟩ := h
  exact ho.lt
theorem SMap.isS (h : SMap P K w b f sz) (x : Int) : (sliE ((f x).getD nilS)).isSome = true := by
  cases hx : f x with
  | none => rfl
  | some v => exact (h.2 x v hx).2
theorem SMap.look (h : SMap P K w b f sz) (hK : P.underlying K = some (.int .i64)) (hT : P.underlying T = some (.map K E)) (hz : ∀ w : World, (zeroValue E).run P w = .ok nilS w) {x : Int} (hx : (Lit.int .i64 x).wf = true) :
    (Instr.lookup T (.map (some b)) (.int .i64 x) false).run P w = .ok ((f x).getD nilS) w := by
  have hs := h.isS x
  obtain ⟨⟨n, D, ho, _, hf⟩, _⟩ := h
  obtain ⟨v, ps, hrun, hR⟩ := ho.lookup (int_keyed hK) hT (hz w) sliE_nil (keyOf_int_mk hK hx)
  rw [(hf _ hx).2] at hR
  rw [hrun, sliE_inj hR (sliE_dat hs)]
theorem SMap.look_ok (h : SMap P K w b f sz) (hK : P.underlying K = some (.int .i64)) (hT : P.underlying T = some (.map K E)) (hz : ∀ w : World, (zeroValue E).run P w = .ok nilS w) {x : Int} (hx : (Lit.int .i64 x).wf = true) :
    (Instr.lookup T (.map (some b)) (.int .i64 x) true).run P w = .ok (.tuple #[(f x).getD nilS, .bool (f x).isSome]) w := by
  have hs := h.isS x
  obtain ⟨⟨n, D, ho, _, hf⟩, _⟩ := h
  obtain ⟨v, ps, hrun, hR⟩ := ho.look_ok (int_keyed hK) hT (hz w) sliE_nil (keyOf_int_mk hK hx)
  rw [(hf _ hx).2] at hR
  rw [hrun, sliE_inj hR (sliE_dat hs), (hf _ hx).1]
theorem SMap.len (h : SMap P K w b f sz) (hT : P.underlying T = some (.map K E)) (ty : TypeId) : (Builtin.len_ #[T] ty #[.map (some b)]).run P w = .ok (.int .i64 sz) w := by
  obtain ⟨⟨n, D, ho, hz, hf⟩, _⟩ := h
  rw [ho.len hT ty, hz]
/-- a store -/
theorem SMap.store (h : SMap P K w b f sz) (hK : P.underlying K = some (.int .i64)) (hT : P.underlying T = some (.map K E)) {x : Int} (hx : (Lit.int .i64 x).wf = true) (hn : sz < maxLen) {v : Value} (hv : (sliE v).isSome = true) :
    ∃ w1, (Instr.mapUpdate T (.map (some b)) (.int .i64 x) v).run P w = .ok () w1 ∧
      SMap P K w1 b (fun y => if y = x then some v else f y) (if (f x).isSome then sz else sz + 1) ∧ w.mapTurned w1 b := by
  obtain ⟨⟨n, D, ho, hz, hf⟩, hw⟩ := h
  obtain ⟨w1, hrun, ho1, ht⟩ := (ownsMap_tight ho).store (int_keyed hK) hT (by rw [hz]; exact hn) (keyOf_int_mk hK hx) (sliE_dat hv)
  refine ⟨w1, hrun, ⟨⟨_, _, ho1, ?_, fun y hy => ?_⟩, fun y u hu => ?_⟩, ht⟩
  · rw [size_put (ho.tidy (int_keyed hK)), (hf _ hx).1, hz]
  · by_cases e : y = x
    · subst e
      simp only [if_true]
      exact ⟨has_put_same ho.isMap (by simp [WideAt.IsKeyLit]) _, atKey_put_same ho.isMap (by simp [WideAt.IsKeyLit]) _ _⟩
    · simp only [if_neg e]
      have e' : Lit.int .i64 y ≠ Lit.int .i64 x := fun h => e (by injection h)
      rw [has_put_other e', atKey_put_other e']
      exact hf y hy
  · by_cases e : y = x
    · subst e
      simp only [if_true] at hu
      obtain rfl := Option.some.inj hu
      exact ⟨hx, hv⟩
    · simp only [if_neg e] at hu
      exact hw y u hu
/-- the keys, rising -/
def IsInts (f : Int → Option Value) (L : List Int) : Prop := L.Pairwise (· < ·) ∧ ∀ x, x ∈ L ↔ (f x).isSome = true
theorem IsInts.nodup {L : List Int} (h : IsInts f L) : L.Nodup := h.1.imp (fun {a b} hab e => by subst e; exact Int.lt_irrefl _ hab)
theorem sortedI_eq {L : List Int} (h : L.Pairwise (· < ·)) : L.mergeSort leI = L := by
  refine List.mergeSort_of_pairwise (h.imp fun {a b} hab => ?_)
  simp only [leI, decide_eq_true_eq]
  exact Int.le_of_lt hab
theorem has_wf {n : Nat} {D : DataW Unit} (ho : w.ownsMap P K sliE b n D) (hK : P.underlying K = some (.int .i64)) {x : Int} (hx : has D (.int .i64 x) = true) : (Lit.int .i64 x).wf = true := by
  obtain ⟨es, hD, hko⟩ := ho.keysOf
  subst hD
  rw [has_eq, List.any_eq_true] at hx
  obtain ⟨p, hp, hs⟩ := hx
  obtain ⟨v, hv⟩ := hko p hp
  obtain ⟨a, _, ha, hw⟩ := Maps.keyOf_i64 hK hv
  rw [ha] at hs
  have : a = x := by simpa [Lit.sameKey] using hs
  rw [← this]; exact hw
/-- whatever holds the keys once is a permutation of them -/
theorem SMap.perm (h : SMap P K w b f sz) (hK : P.underlying K = some (.int .i64)) {n : Nat} {D : DataW Unit} (ho : w.ownsMap P K sliE b n D) (hf : ∀ x : Int, (Lit.int .i64 x).wf = true → has D (.int .i64 x) = (f x).isSome) {L : List Int} (hL : IsInts f L) : L.Perm (intKeys D) := by
  obtain ⟨es, hD, hpw, _⟩ := ho.entries (int_keyed hK)
  obtain ⟨es', hD', hko⟩ := ho.keysOf
  obtain rfl : es = es' := by rw [hD] at hD'; simpa using hD'
  have hD2 := hD
  subst hD
  have hk : ∀ p ∈ es, ∃ x, p.1 = .int .i64 x := fun p hp => by obtain ⟨v, hv⟩ := hko p hp; obtain ⟨x, _, hx, _⟩ := Maps.keyOf_i64 hK hv; exact ⟨x, hx⟩
  refine perm_intKeys hpw hk hL.nodup (fun x => ?_)
  rw [hL.2]
  constructor
  · intro hx
    obtain ⟨v, hv⟩ := Option.isSome_iff_exists.1 hx
    rw [hf x (h.2 x v hv).1]; exact hx
  · intro hx
    rw [← hf x (has_wf ho hK hx)]; exact hx
theorem SMap.keys (h : SMap P K w b f sz) (hK : P.underlying K = some (.int .i64)) : ∃ L, IsInts f L := by
  obtain ⟨⟨n, D, ho, _, hf⟩, hw⟩ := h
  obtain ⟨es, hD, hpw, _⟩ := ho.entries (int_keyed hK)
  obtain ⟨es', hD', hko⟩ := ho.keysOf
  obtain rfl : es = es' := by rw [hD] at hD'; simpa using hD'
  have hk : ∀ p ∈ es, ∃ x, p.1 = .int .i64 x := fun p hp => by obtain ⟨v, hv⟩ := hko p hp; obtain ⟨x, _, hx, _⟩ := Maps.keyOf_i64 hK hv; exact ⟨x, hx⟩
  have hnd : (intKeys D).Nodup := by
    rw [hD]
    show (es.map fun p => Go.intOf p.1).Nodup
    refine List.pairwise_map.2 (hpw.imp_of_mem fun {p q} hp' hq' hne e => hne ?_)
    obtain ⟨a, ha⟩ := hk p hp'
    obtain ⟨b, hb⟩ := hk q hq'
    rw [ha, hb] at e ⊢
    exact congrArg _ e
  have hm : ∀ x, x ∈ intKeys D ↔ has D (.int .i64 x) = true := fun x => by
    rw [hD, has_eq, List.any_eq_true]
    show x ∈ (es.map fun p => Go.intOf p.1) ↔ _
    rw [List.mem_map]
    constructor
    · rintro ⟨p, hp', rfl⟩
      obtain ⟨a, ha⟩ := hk p hp'
      exact ⟨p, hp', by rw [ha]; simp [Lit.sameKey, Go.intOf]⟩
    · rintro ⟨p, hp', hs⟩
      obtain ⟨a, ha⟩ := hk p hp'
      rw [ha] at hs
      exact ⟨p, hp', by rw [ha]; simpa [Lit.sameKey, Go.intOf] using hs⟩
  have tr : ∀ a b c : Int, leI a b = true → leI b c = true → leI a c = true := fun a b c h1 h2 => by simp only [leI, decide_eq_true_eq] at *; omega
  have tot : ∀ a b : Int, (leI a b || leI b a) = true := fun a b => by simp only [leI, Bool.or_eq_true, decide_eq_true_eq]; omega
  refine ⟨(intKeys D).mergeSort leI, ?_, fun x => ?_⟩
  · have h1 := List.pairwise_mergeSort tr tot (intKeys D)
    have h2 : ((intKeys D).mergeSort leI).Nodup := (List.mergeSort_perm _ _).nodup_iff.2 hnd
    refine (h1.and h2).imp fun {a b} hab => ?_
    obtain ⟨hle, hne⟩ := hab
    simp only [leI, decide_eq_true_eq] at hle
    omega
  · rw [(List.mergeSort_perm _ _).mem_iff, hm]
    constructor
    · intro hx; rw [← (hf x (has_wf ho hK hx)).1]; exact hx
    · intro hx
      obtain ⟨v, hv⟩ := Option.isSome_iff_exists.1 hx
      rw [(hf x (hw x v hv).1).1]; exact hx
theorem SMap.size_keys (h : SMap P K w b f sz) (hK : P.underlying K = some (.int .i64)) {L : List Int} (hL : IsInts f L) : L.length = sz := by
  have h0 := h
  obtain ⟨⟨n, D, ho, hz, hf⟩, hw⟩ := h
  rw [(h0.perm hK ho (fun x hx => (hf x hx).1) hL).length_eq, ← hz]
  obtain ⟨es, hD, _⟩ := ho.keysOf
  subst hD
  simp [intKeys, Maps.size]
theorem SMap.sorted (h : SMap P K w b f sz) (hK : P.underlying K = some (.int .i64)) {L : List Int} (hL : IsInts f L) {n : Nat} {D : DataW Unit} (ho : w.ownsMap P K sliE b n D) (hf : ∀ x : Int, (Lit.int .i64 x).wf = true → has D (.int .i64 x) = (f x).isSome)
    {ss : List Int} (hp : ss.Perm (intKeys D)) : ss.mergeSort (fun x y => decide (x ≤ y)) = L := by
  have hp2 : ss.Perm L := hp.trans (h.perm hK ho hf hL).symm
  have := mergeSort_of_perm_i hp2
  rwa [sortedI_eq hL.1] at this
end
end Go.Proofs.YtmdpgjdepflbmaaGreat
namespace Go.Proofs.YtmdpgjdepflbmaaGreat
open Go.RowKit Go.Maps Go.Proofs.YtmdpgjdepflbmaaGreatW.PrintWords Go.Proofs.YtmdpgjdepflbmaaGreatW.PrintLast Go.Proofs.YtmdpgjdepflbmaaGreatW.PrintMore
open Go.Proofs.YtmdpgjdepflbmaaGreat.PPagerFolds
set_option linter.unusedVariables false
/-! #### struct type 50 -/
structure S50 where
  f0 : ByteArray
  f1 : (List Int)
def z50 : S50 := ⟨(⟨#[]⟩ : ByteArray), ([] : List Int)⟩
def k50 : Kd S50 := Kd.iso (Kd.pair Kd.string (Kd.slice 5 (Kd.int .u8))) (fun x : S50 => (x.f0, x.f1))
theorem k50_open {w : World} {x : S50} {cs : List Value} (h : k50.K w x cs) : ∃ A1 c1, cs = [.string x.f0, .slice A1 x.f1.length c1] ∧ x.f1.length ≤ c1 ∧ (Kd.int .u8).C w A1 x.f1.length x.f1 := by
  obtain ⟨_, _, rfl, rfl, ⟨A1, c1, rfl, l1, g1⟩⟩ := h
  exact ⟨A1, c1, rfl, l1, g1⟩
def rd_T50 (xs : List S50) (i : Int) : S50 := xs.getD i.toNat z50
theorem at_T50 {w : World} {A : Option Addr} {n : Nat} {xs : List S50} (h : Kd.C k50 w A n xs) (i : Int) (h0 : 0 ≤ i) (h1 : i < n) : ∃ ad A1 c1, A = some ad ∧ w.cell? (ad.add (i.toNat * 2)) = some (.string (rd_T50 xs i).f0) ∧ w.cell? ⟨(ad.add (i.toNat * 2)).block, (ad.add (i.toNat * 2)).off + 1, none⟩ = some (.slice A1 (rd_T50 xs i).f1.length c1) ∧ (rd_T50 xs i).f1.length ≤ c1 ∧ (Kd.int .u8).C w A1 (rd_T50 xs i).f1.length (rd_T50 xs i).f1 := by
  obtain ⟨ad, c, e, _, hK, hc0⟩ := Kd.C_get h z50 i h0 h1
  have hc : ∀ j u, c[j]? = some u → w.cell? (ad.add (i.toNat * 2 + j)) = some u := hc0
  obtain ⟨A1, c1, rfl, l1, g1⟩ := k50_open hK
  exact ⟨ad, A1, c1, e, hc 0 _ rfl, by rw [← add_field _ _ 1 (by omega)]; exact hc 1 _ rfl, l1, g1⟩

/-! #### struct type 39 -/
structure S39 where
  f0 : Int
  f1 : Int
def z39 : S39 := ⟨(0 : Int), (0 : Int)⟩
def k39 : Kd S39 := Kd.iso (Kd.pair (Kd.int .i64) (Kd.int .i64)) (fun x : S39 => (x.f0, x.f1))
theorem k39_open {w : World} {x : S39} {cs : List Value} (h : k39.K w x cs) : cs = [.int .i64 x.f0, .int .i64 x.f1] := by
  obtain ⟨_, _, rfl, rfl, rfl⟩ := h
  exact rfl
theorem k39_mk (w : World) (x : S39)  : k39.K w x [.int .i64 x.f0, .int .i64 x.f1] := ⟨[.int .i64 x.f0], [.int .i64 x.f1], rfl, rfl, rfl⟩
def rd_T39 (xs : List S39) (i : Int) : S39 := xs.getD i.toNat z39
theorem at_T39 {w : World} {A : Option Addr} {n : Nat} {xs : List S39} (h : Kd.C k39 w A n xs) (i : Int) (h0 : 0 ≤ i) (h1 : i < n) : ∃ ad , A = some ad ∧ w.cell? (ad.add (i.toNat * 2)) = some (.int .i64 (rd_T39 xs i).f0) ∧ w.cell? ⟨(ad.add (i.toNat * 2)).block, (ad.add (i.toNat * 2)).off + 1, none⟩ = some (.int .i64 (rd_T39 xs i).f1) := by
  obtain ⟨ad, c, e, _, hK, hc0⟩ := Kd.C_get h z39 i h0 h1
  have hc : ∀ j u, c[j]? = some u → w.cell? (ad.add (i.toNat * 2 + j)) = some u := hc0
  obtain rfl := k39_open hK
  exact ⟨ad, e, hc 0 _ rfl, by rw [← add_field _ _ 1 (by omega)]; exact hc 1 _ rfl⟩

end Go.Proofs.YtmdpgjdepflbmaaGreat
namespace Go.Proofs.YtmdpgjdepflbmaaGreat
open Go.RowKit Go.Maps Go.Proofs.YtmdpgjdepflbmaaGreatW.PrintWords Go.Proofs.YtmdpgjdepflbmaaGreatW.PrintLast Go.Proofs.YtmdpgjdepflbmaaGreatW.PrintMore
open Go.Proofs.YtmdpgjdepflbmaaGreat.PPagerFolds
set_option linter.unusedVariables false
set_option linter.unusedSimpArgs false

abbrev U8 := Kd.int .u8
abbrev Bytes := List Int

structure RB (w : World) (ok : Nat → Prop) (v : Value) (l : Bytes) : Prop where
  ok_ : ∀ k, v.ownBlock = some k → ok k
  rep : (v = .slice none 0 0 ∧ l = []) ∨ ∃ g cap cur, v = .slice (some ⟨g, 0, none⟩) l.length cap ∧ w.heap[g]? = some (.cells cur 5 (0, 0)) ∧ l.length ≤ cap ∧ cap ≤ maxLen ∧ cap ≤ cur.size ∧ (cur.size = cap ∨ cap = l.length) ∧ cur.toList.take l.length = l.map (Value.int .u8)

section
variable {w w1 : World} {ok ok1 : Nat → Prop} {v : Value} {l : Bytes}
theorem RB.of_R {b : Nat} (h : U8.R 5 w b ok v l) : RB w ok v l := by
  refine ⟨h.1, ?_⟩
  obtain ⟨h1, h2⟩ := Kd.own_of_R h
  rcases h2 with ⟨rfl, h0⟩ | ⟨g, cap, cur, rfl, hbg, hg, hnc, hmax, hcur, htake⟩
  · exact .inl ⟨rfl, List.eq_nil_of_length_eq_zero h0⟩
  · rw [Nat.mul_one] at hcur htake
    exact .inr ⟨g, cap, cur, rfl, hg, hnc, hmax, by omega, .inl hcur, htake⟩
theorem RB.nil (w : World) (ok : Nat → Prop) : RB w ok (.slice none 0 0) [] := ⟨fun k hk => by simp [Value.ownBlock] at hk, .inl ⟨rfl, rfl⟩⟩
theorem RB.block (h : RB w ok v l) {k : Nat} (hk : v.ownBlock = some k) : ∃ cs, w.heap[k]? = some (.cells cs 5 (0, 0)) := by
  rcases h.rep with ⟨rfl, rfl⟩ | ⟨g, cap, cur, rfl, hg, _⟩
  · simp [Value.ownBlock] at hk
  · have : g = k := by simpa [Value.ownBlock] using hk
    subst this
    exact ⟨cur, hg⟩
theorem RB.same (h : RB w ok v l) (hm : ∀ k, v.ownBlock = some k → w1.heap[k]? = w.heap[k]?) (hok : ∀ k, v.ownBlock = some k → ok1 k) : RB w1 ok1 v l := by
  refine ⟨hok, ?_⟩
  rcases h.rep with h | ⟨g, cap, cur, rfl, hg, r⟩
  · exact .inl h
  · exact .inr ⟨g, cap, cur, rfl, (hm g (by simp [Value.ownBlock])).trans hg, r⟩
theorem RB.mono (h : RB w ok v l) (hok : ∀ k, ok k → ok1 k) : RB w ok1 v l := ⟨fun k hk => hok k (h.1 k hk), h.rep⟩
theorem RB.lt (h : RB w ok v l) {k : Nat} (hk : v.ownBlock = some k) : k < w.heap.size := by
  obtain ⟨cs, hc⟩ := h.block hk
  exact (Array.getElem?_eq_some_iff.1 hc).1
theorem RB.bound (h : RB w ok v l) : RB w (fun k => ok k ∧ True ∧ k < w.heap.size ∧ True) v l := ⟨fun k hk => ⟨h.1 k hk, trivial, h.lt hk, trivial⟩, h.rep⟩
theorem RB.step (h : RB w ok v l) (hm : ∀ k, ok k → k < w.heap.size → w1.heap[k]? = w.heap[k]?) : RB w1 ok v l := h.same (fun k hk => hm k (h.1 k hk) (h.lt hk)) h.1
theorem RB.reads (h : RB w ok v l) : ∃ A c, v = .slice A l.length c ∧ l.length ≤ c ∧ U8.C w A l.length l := by
  rcases h.rep with ⟨rfl, rfl⟩ | ⟨g, cap, cur, rfl, hg, h1, h2, h3, _, ht⟩
  · obtain ⟨A, c, h1, h2, h3⟩ := Kd.R_reads (Kd.R_nil U8 5 w 0 (fun _ => True))
    exact ⟨A, c, h1, h2, h3⟩
  · refine ⟨some ⟨g, 0, none⟩, cap, rfl, h1, rfl, by simp only [maxLen] at h2; omega, fun _ => ⟨⟨g, 0, none⟩, rfl, fun j p hj => ⟨[Value.int .u8 p], rfl, rfl, fun i u hu => ?_⟩⟩⟩
    obtain ⟨rfl, rfl⟩ : i = 0 ∧ u = Value.int .u8 p := by
      cases i with
      | zero => simp at hu; exact ⟨rfl, hu.symm⟩
      | succ i => simp at hu
    obtain ⟨hj1, hj2⟩ := List.getElem?_eq_some_iff.1 hj
    have e : ((⟨g, 0, none⟩ : Addr).add (j * U8.sz + 0)) = ⟨g, j, none⟩ := by simp [Addr.add, Kd.int, Kd.scalar]; intro h; exact h.symm
    rw [e, cell_of_row w g j cur 5 (0, 0) hg]
    have h4 := congrArg (fun x => x[j]?) ht
    simp only [List.getElem?_take, hj1, if_true, List.getElem?_map, hj, Option.map_some] at h4
    rw [← h4]; simp
theorem RB.slice (h : RB w ok v l) : ∃ A c, v = .slice A l.length c := by
  obtain ⟨A, c, h1, _⟩ := h.reads
  exact ⟨A, c, h1⟩
/-- it is a whole row, or has no room -/
theorem RB.cases (h : RB w ok v l) : U8.R 5 w 0 ok v l ∨ ∃ g cur, v = .slice (some ⟨g, 0, none⟩) l.length l.length ∧ w.heap[g]? = some (.cells cur 5 (0, 0)) ∧ l.length ≤ maxLen ∧ l.length ≤ cur.size ∧ cur.toList.take l.length = l.map (Value.int .u8) := by
  rcases h.rep with ⟨rfl, rfl⟩ | ⟨g, cap, cur, rfl, hg, h1, h2, h3, h4 | h4, ht⟩
  · exact .inl (Kd.R_nil _ _ _ _ _)
  · refine .inl (Kd.R_of_own ⟨by simp [encs], .inr ⟨g, cap, cur, rfl, Nat.zero_le _, hg, h1, h2, by rw [h4, Nat.mul_one], by rw [Nat.mul_one]; exact ht⟩⟩ h.1)
  · subst h4
    exact .inr ⟨g, cur, rfl, hg, h2, h3, ht⟩
end
end Go.Proofs.YtmdpgjdepflbmaaGreat

/-
  What a disk is in memory: a struct, a map of files, a map of troubles, a struct a file, a row of bytes for its safe and one for its seen bytes.
-/
namespace Go.Proofs.YtmdpgjdepflbmaaGreat
open Go.RowKit Go.Maps Go.Proofs.YtmdpgjdepflbmaaGreatW.PrintWords Go.Proofs.YtmdpgjdepflbmaaGreatW.PrintLast Go.Proofs.YtmdpgjdepflbmaaGreatW.PrintMore
open Go.WideMaps (keyOf_string_mk)
open Go.Proofs.YtmdpgjdepflbmaaGreat.PPagerFolds
set_option linter.unusedVariables false

/-! ### a map from numbers to numbers -/
def NMap (P : Program) (K E : TypeId) (w : World) (b : Nat) (f : Int → Int) : Prop :=
  ∃ n D, w.ownsMap (H := Unit) P K (plainElem P E) b n D ∧ ∀ x : Int, (Lit.int .i64 x).wf = true → D.atKey (.int .i64 x) (.lit (.int .i64 0)) = .lit (.int .i64 (f x))
section
variable {P : Program} {K E T : TypeId} {w w' : World} {b : Nat} {f : Int → Int}
theorem NMap.made (P : Program) (K E : TypeId) (w : World) : NMap P K E (w.alloc (.map #[] 0)) w.heap.size (fun _ => 0) := ⟨0, .map [], World.ownsMap_made _ _ _ _, fun x _ => rfl⟩
theorem NMap.move (h : NMap P K E w b f) (hb : w'.heap[b]? = w.heap[b]?) : NMap P K E w' b f := by
  obtain ⟨n, D, ho, hf⟩ := h
  exact ⟨n, D, ownsMap_at ho hb, hf⟩
theorem NMap.lt (h : NMap P K E w b f) : b < w.heap.size := by
  obtain ⟨n, D, ho, _⟩ := h
  exact ho.lt
theorem NMap.look (h : NMap P K E w b f) (hK : P.underlying K = some (.int .i64)) (hE : P.underlying E = some (.int .i64)) (hT : P.underlying T = some (.map K E)) (hz : ∀ w : World, (zeroValue E).run P w = .ok (.int .i64 0) w) {x : Int} (hx : (Lit.int .i64 x).wf = true) :
    (Instr.lookup T (.map (some b)) (.int .i64 x) false).run P w = .ok (.int .i64 (f x)) w := by
  obtain ⟨n, D, ho, hf⟩ := h
  obtain ⟨c, hrun, hat, _⟩ := ho.lookup_int (int_keyed hK) hT hE (hz w) (keyOf_int_mk hK hx)
  rw [hf x hx] at hat
  injection hat with hat
  injection hat with _ hat
  rw [hrun, hat]
theorem NMap.store (h : NMap P K E w b f) (hK : P.underlying K = some (.int .i64)) (hE : P.underlying E = some (.int .i64)) (hT : P.underlying T = some (.map K E)) {x v : Int} (hx : (Lit.int .i64 x).wf = true) (hv : (Lit.int .i64 v).wf = true) {m : Nat} (hm : ∃ D, w.ownsMap (H := Unit) P K (plainElem P E) b m D) (hn : m < maxLen) :
    ∃ w1, (Instr.mapUpdate T (.map (some b)) (.int .i64 x) (.int .i64 v)).run P w = .ok () w1 ∧ NMap P K E w1 b (fun y => if y = x then v else f y) ∧ (∃ D, w1.ownsMap (H := Unit) P K (plainElem P E) b (m + 1) D) ∧ w.mapTurned w1 b := by
  obtain ⟨n, D, ho, hf⟩ := h
  have ho' : w.ownsMap (H := Unit) P K (plainElem P E) b m D := by
    obtain ⟨D', hm⟩ := hm
    obtain ⟨es, clock, hb, F, hs, rfl⟩ := ho
    obtain ⟨es', clock', hb', F', hs', rfl⟩ := hm
    rw [hb] at hb'
    injection hb' with hb'
    injection hb' with e1 e2
    subst e1
    exact ⟨es, clock, hb, F, hs', rfl⟩
  obtain ⟨w1, hrun, ho1, ht⟩ := ho'.store (int_keyed hK) hT hn (keyOf_int_mk hK hx) (plainElem_int hE hv)
  refine ⟨w1, hrun, ⟨_, _, ho1, fun y hy => ?_⟩, ⟨_, ho1⟩, ht⟩
  by_cases e : y = x
  · subst e
    simp only [if_true]
    exact atKey_put_same ho.isMap (by simp [WideAt.IsKeyLit]) _ _
  · simp only [if_neg e]
    have e' : Lit.int .i64 y ≠ Lit.int .i64 x := fun h => e (by injection h)
    rw [atKey_put_other e']
    exact hf y hy
end

/-! ### the disk -/
abbrev Name := List UInt8
/-- what a disk is: its files (safe, seen), its troubles, its strokes, whether the power is off -/
structure DM where
  fs : Name → Option (Bytes × Bytes)
  tr : Int → Int
  st : Int
  off : Bool


structure DRep (w : World) (d : Nat) (M : DM) (ok : Nat → Prop) (bf bt : Nat) (blk : Name → Option Nat) (sv ev : Name → Value) (sz : Nat) : Prop where
  hd : w.heap[d]? = some (.cells #[.map (some bf), .map (some bt), .int .i64 M.st, .bool M.off] 100 (0, 0))
  hf : PMap Tryz.prog 9 w bf blk sz
  ht : NMap Tryz.prog 3 3 w bt M.tr
  dom : ∀ x, (blk x).isSome = (M.fs x).isSome
  file : ∀ x g f, blk x = some g → M.fs x = some f → w.heap[g]? = some (.cells #[sv x, ev x] 105 (0, 0)) ∧ RB w ok (sv x) f.1 ∧ RB w ok (ev x) f.2
  inj : ∀ x y g, blk x = some g → blk y = some g → x = y
  apart : ∀ x y gx gy k, blk x = some gx → blk y = some gy → (ev x).ownBlock = some k → (sv y).ownBlock ≠ some k ∧ (x ≠ y → (ev y).ownBlock ≠ some k)
  ne : bf ≠ bt
  okd : ok d
  okf : ok bf
  okt : ok bt
  okb : ∀ x g, blk x = some g → ok g

/-- block d of w is a disk M, all of whose blocks are ok -/
def DiskAt (w : World) (d : Nat) (M : DM) (ok : Nat → Prop) : Prop := ∃ bf bt blk sv ev sz, DRep w d M ok bf bt blk sv ev sz

section
variable {w w' : World} {d : Nat} {M : DM} {ok ok' : Nat → Prop} {bf bt : Nat} {blk : Name → Option Nat} {sv ev : Name → Value} {sz : Nat}
theorem DRep.lt (h : DRep w d M ok bf bt blk sv ev sz) : d < w.heap.size := by
  rcases Nat.lt_or_ge d w.heap.size with hlt | hge
  · exact hlt
  · have := h.hd; rw [Array.getElem?_eq_none hge] at this; cases this
theorem heap_lt {w : World} {g : Nat} {o : Obj} (h : w.heap[g]? = some o) : g < w.heap.size := (Array.getElem?_eq_some_iff.1 h).1
theorem DRep.mono (h : DRep w d M ok bf bt blk sv ev sz) (hok : ∀ k, ok k → ok' k) : DRep w d M ok' bf bt blk sv ev sz :=
  ⟨h.hd, h.hf, h.ht, h.dom, fun x g f h1 h2 => ⟨(h.file x g f h1 h2).1, RB.mono (h.file x g f h1 h2).2.1 hok, RB.mono (h.file x g f h1 h2).2.2 hok⟩, h.inj, h.apart, h.ne, hok _ h.okd, hok _ h.okf, hok _ h.okt, fun x g hx => hok _ (h.okb x g hx)⟩
theorem DRep.move (h : DRep w d M ok bf bt blk sv ev sz) (hm : ∀ k, ok k → k < w.heap.size → w'.heap[k]? = w.heap[k]?) : DRep w' d M ok bf bt blk sv ev sz where
  hd := (hm d h.okd h.lt).trans h.hd
  hf := h.hf.move (hm bf h.okf h.hf.lt)
  ht := h.ht.move (hm bt h.okt h.ht.lt)
  dom := h.dom
  file := fun x g f h1 h2 => by
    obtain ⟨a, b, c⟩ := h.file x g f h1 h2
    exact ⟨(hm g (h.okb x g h1) (heap_lt a)).trans a, RB.step b hm, RB.step c hm⟩
  inj := h.inj
  apart := h.apart
  ne := h.ne
  okd := h.okd
  okf := h.okf
  okt := h.okt
  okb := h.okb
theorem DiskAt.mono (h : DiskAt w d M ok) (hok : ∀ k, ok k → ok' k) : DiskAt w d M ok' := by
  obtain ⟨bf, bt, blk, sv, ev, sz, h⟩ := h
  exact ⟨bf, bt, blk, sv, ev, sz, h.mono hok⟩
theorem DiskAt.move (h : DiskAt w d M ok) (hm : ∀ k, ok k → k < w.heap.size → w'.heap[k]? = w.heap[k]?) : DiskAt w' d M ok := by
  obtain ⟨bf, bt, blk, sv, ev, sz, h⟩ := h
  exact ⟨bf, bt, blk, sv, ev, sz, h.move hm⟩
theorem DiskAt.drew (h : DiskAt w d M ok) : DiskAt w.drew d M ok := h.move fun _ _ _ => rfl
theorem DiskAt.drewN (h : DiskAt w d M ok) (n : Nat) : DiskAt (w.drewN n) d M ok := h.move fun _ _ _ => rfl
theorem DiskAt.alloc (h : DiskAt w d M ok) (o : Obj) : DiskAt (w.alloc o) d M ok := h.move fun k _ hk => Below.heap_alloc w o k hk
theorem DiskAt.below (h : DiskAt w d M ok) (hb : Below w.heap.size w w') : DiskAt w' d M ok := h.move fun k _ hk => hb.block k hk

/-- the cells of the struct -/
theorem DRep.cell (h : DRep w d M ok bf bt blk sv ev sz) (i : Nat) : w.cell? ⟨d, i, none⟩ = (#[Value.map (some bf), .map (some bt), .int .i64 M.st, .bool M.off] : Array Value)[i]? := cell_of_row w d i _ 100 (0, 0) h.hd
theorem DRep.frozen (h : DRep w d M ok bf bt blk sv ev sz) (i : Nat) : w.frozen? ⟨d, i, none⟩ = false := by
  have := h.hd
  simp [World.frozen?, this]
end

/-! ### the facts of the types -/
theorem zero66 (w : World) : (zeroValue 102).run Tryz.prog w = .ok (.pointer none) w := by kernel_rfl
theorem zero3 (w : World) : (zeroValue 3).run Tryz.prog w = .ok (.int .i64 0) w := by kernel_rfl

theorem DRep.look {w : World} {d : Nat} {M : DM} {ok : Nat → Prop} {bf bt : Nat} {blk : Name → Option Nat} {sv ev : Name → Value} {sz : Nat} (h : DRep w d M ok bf bt blk sv ev sz) {s : ByteArray} (hs : s.size ≤ maxLen) :
    (Instr.lookup 97 (.map (some bf)) (.string s) false).run Tryz.prog w = .ok (ptrV (blk s.data.toList)) w :=
  h.hf.look Tryz.underlying9 Tryz.underlying97 zero66 hs
end Go.Proofs.YtmdpgjdepflbmaaGreat
namespace Go.Proofs.YtmdpgjdepflbmaaGreat
open Go.RowKit Go.Proofs.YtmdpgjdepflbmaaGreatW.PrintWords Go.Proofs.YtmdpgjdepflbmaaGreatW.PrintLast Go.Proofs.YtmdpgjdepflbmaaGreatW.PrintMore
open Go.Proofs.YtmdpgjdepflbmaaGreat.PPagerFolds
set_option linter.unusedVariables false

def okc (c : Int) : Prop := (97 ≤ c ∧ c ≤ 122) ∨ (48 ≤ c ∧ c ≤ 57) ∨ c = 46 ∨ c = 45
/-- a name -/
def GoodN (s : ByteArray) : Prop := (∀ j : Int, 0 ≤ j → j < s.size → okc (bt s j)) ∧ 1 ≤ s.size ∧ s.size ≤ 32

theorem all_step {s : ByteArray} {i : Int} (P : Prop) (h1 : i < s.size) (hc : okc (bt s i)) :
    ((∀ j : Int, i + 1 ≤ j → j < s.size → okc (bt s j)) ∧ P) ↔ ((∀ j : Int, i ≤ j → j < s.size → okc (bt s j)) ∧ P) := by
  constructor
  · rintro ⟨h, p⟩
    refine ⟨fun j hj hl => ?_, p⟩
    by_cases e : j = i
    · rw [e]; exact hc
    · exact h j (by omega) hl
  · rintro ⟨h, p⟩
    exact ⟨fun j hj hl => h j (by omega) hl, p⟩
theorem all_stop {s : ByteArray} {i : Int} (P : Prop) (h1 : i < s.size) (hc : ¬ okc (bt s i)) : (false = true) ↔ ((∀ j : Int, i ≤ j → j < s.size → okc (bt s j)) ∧ P) :=
  ⟨fun h => (by cases h), fun ⟨h, _⟩ => absurd (h i (Int.le_refl _) h1) hc⟩

theorem wrap_next {i : Int} {n : Nat} (h0 : 0 ≤ i) (h : i < n) (hn : n ≤ 9223372036854775807) : wrap64 (i + 1) = i + 1 := by
  unfold wrap64
  omega

theorem good_l0 (s : ByteArray) (hs : s.size ≤ 9223372036854775807) (d : Nat) : ∀ (k : Nat) (i : Int), 0 ≤ i → i ≤ s.size → (s.size : Int) - i = d → d < k →
    ∃ r, disk_good.l0 k s s.size i = some r ∧ (r = true ↔ (∀ j : Int, i ≤ j → j < s.size → okc (bt s j)) ∧ 1 ≤ s.size ∧ s.size ≤ 32) := by
  induction d with
  | zero =>
    intro k i h0 h1 hd hk
    obtain ⟨k, rfl⟩ : ∃ m, k = m + 1 := ⟨k - 1, by omega⟩
    simp only [disk_good.l0]
    rw [if_neg (by omega)]
    split
    · refine ⟨_, rfl, ?_⟩
      rw [decide_eq_true_iff]
      constructor
      · intro h; exact ⟨fun j hj hl => by omega, by omega, by omega⟩
      · intro h; omega
    · refine ⟨_, rfl, ?_⟩
      constructor
      · intro h; cases h
      · intro h; omega
  | succ d ih =>
    intro k i h0 h1 hd hk
    obtain ⟨k, rfl⟩ : ∃ m, k = m + 1 := ⟨k - 1, by omega⟩
    have hlt : i < (s.size : Int) := by omega
    obtain ⟨r, hr, hiff⟩ := ih k (i + 1) (by omega) (by omega) (by omega) (by omega)
    simp only [disk_good.l0]
    rw [if_pos hlt, if_pos h0, wrap_next h0 hlt hs]
    generalize hc : bt s i = c
    by_cases ok : okc c
    · refine ⟨r, ?_, hiff.trans (all_step _ hlt (by rw [hc]; exact ok))⟩
      unfold okc at ok
      repeat' split
      all_goals first | exact hr | (exfalso; omega)
    · refine ⟨false, ?_, all_stop _ hlt (by rw [hc]; exact ok)⟩
      unfold okc at ok
      repeat' split
      all_goals first | rfl | (exfalso; omega)

theorem good_some (s : ByteArray) (hs : s.size ≤ 9223372036854775807) : ∃ r k, disk_good.f k s = some r ∧ (r = true ↔ GoodN s) := by
  obtain ⟨r, hr, h⟩ := good_l0 s hs s.size (s.size + 1) 0 (by omega) (by omega) (by omega) (by omega)
  exact ⟨r, _, hr, h⟩

/-- what 'good' answers -/
theorem good_yes {s : ByteArray} (h : GoodN s) (w : World) : Calls Tryz.prog 47 #[.string s] w fun e w' => e = .returned (.bool true) ∧ ∃ n, w' = w.drewN n := by
  obtain ⟨r, k, hr, hi⟩ := good_some s (by have := h.2.2; omega)
  rw [hi.2 h] at hr
  exact (disk_good.calls k s true w hr).mono fun e w' ⟨he, hw⟩ => ⟨he, hw.out⟩
theorem good_no {s : ByteArray} (hs : s.size ≤ 9223372036854775807) (h : ¬ GoodN s) (w : World) : Calls Tryz.prog 47 #[.string s] w fun e w' => e = .returned (.bool false) ∧ ∃ n, w' = w.drewN n := by
  obtain ⟨r, k, hr, hi⟩ := good_some s hs
  have : r = false := by cases r <;> simp_all
  subst this
  exact (disk_good.calls k s false w hr).mono fun e w' ⟨he, hw⟩ => ⟨he, hw.out⟩
end Go.Proofs.YtmdpgjdepflbmaaGreat
namespace Go.Proofs.YtmdpgjdepflbmaaGreat
open Go.RowKit Go.Maps Go.Proofs.YtmdpgjdepflbmaaGreatW.PrintWords Go.Proofs.YtmdpgjdepflbmaaGreatW.PrintLast Go.Proofs.YtmdpgjdepflbmaaGreatW.PrintMore
open Go.Proofs.YtmdpgjdepflbmaaGreat.PPagerFolds
set_option linter.unusedVariables false

def roomy : Nat := 140737488355328

theorem R_empty (w : World) (base : Nat) (ok : Nat → Prop) (hb : base ≤ w.heap.size) (ho : ok w.heap.size) : U8.R 5 (w.alloc (.cells #[] 5)) base ok (.slice (some ⟨w.heap.size, 0, none⟩) 0 0) [] :=
  ⟨fun k hk => by simp [Value.ownBlock] at hk; rw [← hk]; exact ho, [], ⟨rfl, .inr ⟨w.heap.size, 0, #[], rfl, hb, heap_alloc_new w _, Nat.le_refl _, Nat.zero_le _, rfl, rfl⟩⟩, Reps.none _ _⟩

theorem clone_any (A : Option Addr) (n c : Nat) (xs : Bytes) (w : World) (hn : n ≤ roomy) (hC : U8.C w A n xs) :
    Calls Tryz.prog 48 #[.slice A n c] w fun e w' => ∃ v, e = .returned v ∧ U8.R 5 w' w.heap.size (fun k => w.heap.size ≤ k) v xs ∧ Below w.heap.size w w' := by
  have HN := Aside0.mk hn
  have HC := Aside0.mk hC
  clear hn
  rcases A with _ | ad
  · have h0 : n = 0 := by
      rcases Nat.eq_zero_or_pos n with h | h
      · exact h
      · obtain ⟨ad, h, _⟩ := hC.2.2 h
        cases h
    subst h0
    obtain rfl : xs = [] := List.eq_nil_of_length_eq_zero hC.1
    clear hC
    have hnil := fun (w : World) => Lib.run_eql_slice_nil w 48 5 none 0 c 0 0 Tryz.underlying48
    go_enter Tryz.func48, Tryz.ntmps48
    go_wp2
    go_ret
    exact ⟨_, rfl, Kd.R_nil _ _ _ _ _, Below.refl _ _⟩
  · clear hC
    have hnil := fun (w : World) => Lib.run_eql_slice_nil w 48 5 (some ad) n c 0 0 Tryz.underlying48
    have HE := Aside0.mk (R_empty w w.heap.size (fun k => w.heap.size ≤ k) (Nat.le_refl _) (Nat.le_refl _))
    have HB := Aside0.mk (((Below.refl w.heap.size w).alloc (Nat.le_refl _) (.cells #[] 5)))
    go_enter Tryz.func48, Tryz.ntmps48
    go_wp2_with (at_builtin; refine Kd.R_append_rows U8 (Rr := U8.K (w.alloc (.cells #[] 5))) (w0 := w) w.heap.size rfl (.tmp 5) (.tmp 6) 48 5 (.int .u8 0) 1 rfl Tryz.underlying48 info5 rfl (by decide) (by decide) (.slice (some ⟨w.heap.size, 0, none⟩) 0 0) [] xs (some ad) n c (fun k => w.heap.size ≤ k) (fun _ => False) rfl rfl HE.out ?aR (fun x cs h => h) (fun k hk => hk.elim) ?aF HB.out ?aS ?aL ?_; (case aR => exact Kd.C_below HC.out HB.out); (case aF => exact fun k hk => Nat.le_trans HB.out.size hk); (case aS => exact HB.out.size); (case aL => have := HN.out; unfold roomy at this; simp; exact this); intro v1 w1 ho hb1 hg hat)
    go_ret
    exact ⟨_, rfl, ho, hb1⟩
end Go.Proofs.YtmdpgjdepflbmaaGreat

/-
  The contracts of a disk's calls that only ask: there, Strokes, Size, names, List, Read.
-/
namespace Go.Proofs.YtmdpgjdepflbmaaGreat
open Go.RowKit Go.Maps Go.Proofs.YtmdpgjdepflbmaaGreatW.PrintWords Go.Proofs.YtmdpgjdepflbmaaGreatW.PrintLast Go.Proofs.YtmdpgjdepflbmaaGreatW.PrintMore
open Go.Proofs.YtmdpgjdepflbmaaGreat.PPagerFolds
set_option linter.unusedVariables false

abbrev dptr (d : Nat) : Value := .pointer (some ⟨d, 0, none⟩)
def nm (s : ByteArray) : Name := s.data.toList

theorem DRep.c0 {w : World} {d : Nat} {M : DM} {ok : Nat → Prop} {bf bt : Nat} {blk : Name → Option Nat} {sv ev : Name → Value} {sz : Nat} (h : DRep w d M ok bf bt blk sv ev sz) : w.cell? ⟨d, 0, none⟩ = some (.map (some bf)) := h.cell 0
theorem DRep.c1 {w : World} {d : Nat} {M : DM} {ok : Nat → Prop} {bf bt : Nat} {blk : Name → Option Nat} {sv ev : Name → Value} {sz : Nat} (h : DRep w d M ok bf bt blk sv ev sz) : w.cell? ⟨d, 1, none⟩ = some (.map (some bt)) := h.cell 1
theorem DRep.c2 {w : World} {d : Nat} {M : DM} {ok : Nat → Prop} {bf bt : Nat} {blk : Name → Option Nat} {sv ev : Name → Value} {sz : Nat} (h : DRep w d M ok bf bt blk sv ev sz) : w.cell? ⟨d, 2, none⟩ = some (.int .i64 M.st) := h.cell 2
theorem DRep.c3 {w : World} {d : Nat} {M : DM} {ok : Nat → Prop} {bf bt : Nat} {blk : Name → Option Nat} {sv ev : Name → Value} {sz : Nat} (h : DRep w d M ok bf bt blk sv ev sz) : w.cell? ⟨d, 3, none⟩ = some (.bool M.off) := h.cell 3

theorem DRep.none_ {w : World} {d : Nat} {M : DM} {ok : Nat → Prop} {bf bt : Nat} {blk : Name → Option Nat} {sv ev : Name → Value} {sz : Nat} (h : DRep w d M ok bf bt blk sv ev sz) {x : Name} (hx : M.fs x = none) : blk x = none := by
  have := h.dom x
  rw [hx] at this
  simpa using this
theorem DRep.some_ {w : World} {d : Nat} {M : DM} {ok : Nat → Prop} {bf bt : Nat} {blk : Name → Option Nat} {sv ev : Name → Value} {sz : Nat} (h : DRep w d M ok bf bt blk sv ev sz) {x : Name} {f : Bytes × Bytes} (hx : M.fs x = some f) : ∃ g, blk x = some g := by
  have := h.dom x
  rw [hx] at this
  exact Option.isSome_iff_exists.1 this

theorem there_no {w : World} {d : Nat} {M : DM} {ok : Nat → Prop} (h : DiskAt w d M ok) {s : ByteArray} (hs : s.size ≤ maxLen) (hx : M.fs (nm s) = none) :
    Calls Tryz.prog 113 #[dptr d, .string s] w fun e w' => e = .returned (.int .i64 2) ∧ w = w' := by
  obtain ⟨bf, bt, blk, sv, ev, sz, h⟩ := h
  have h0 := h.c0
  have hl := h.look hs
  rw [show blk s.data.toList = none from h.none_ hx] at hl
  simp only [ptrV] at hl
  clear h hx hs
  go_enter Tryz.func113, Tryz.ntmps113
  go_wp2
  go_ret
  exact ⟨rfl, rfl⟩
theorem there_yes {w : World} {d : Nat} {M : DM} {ok : Nat → Prop} (h : DiskAt w d M ok) {s : ByteArray} (hs : s.size ≤ maxLen) {f : Bytes × Bytes} (hx : M.fs (nm s) = some f) :
    Calls Tryz.prog 113 #[dptr d, .string s] w fun e w' => e = .returned (.int .i64 0) ∧ w = w' := by
  obtain ⟨bf, bt, blk, sv, ev, sz, h⟩ := h
  have h0 := h.c0
  have hl := h.look hs
  obtain ⟨g, hg⟩ := h.some_ hx
  rw [show blk s.data.toList = some g from hg] at hl
  simp only [ptrV] at hl
  clear h hx hs hg
  go_enter Tryz.func113, Tryz.ntmps113
  go_wp2
  go_ret
  exact ⟨rfl, rfl⟩

/-! ### the names -/
def strL (x : Name) : ByteArray := ⟨x.toArray⟩
theorem names_any {w : World} {d : Nat} {M : DM} {ok : Nat → Prop} (h : DiskAt w d M ok) {L : List Name} (hL : L.Pairwise (· < ·)) (hm : ∀ x, x ∈ L ↔ (M.fs x).isSome = true) (h16 : L.length ≤ 16) :
    Calls Tryz.prog 64 #[dptr d] w fun e w' => ∃ v, e = .returned v ∧ Kd.string.R 9 w' w.heap.size (fun k => w.heap.size ≤ k) v (L.map strL) ∧ Below w.heap.size w w' := by
  obtain ⟨bf, bt, blk, sv, ev, sz, h⟩ := h
  have hN : IsNames blk L := ⟨hL, fun x => by rw [hm, h.dom]⟩
  have hsz := h.hf.size_names Tryz.underlying9 hN
  have hf := h.hf
  obtain ⟨n, D, ho, hz, hfD⟩ := hf
  have hsort := fun ss => h.hf.sorted Tryz.underlying9 hN ho (fun x => (hfD x).1) (ss := ss)
  have h0 := h.c0
  have K := callsIn_wide.1 (Tryz.maps_Keys_S (some bf) w)
  have S := callsIn_wide.1 (Tryz.slices_Sorted_S bf n D ptrE w ho (by rw [hz]; unfold maxLen; omega) (by rw [hz]; omega))
  have HS := Aside0.mk hsort
  have HB := Aside0.mk (((Below.refl w.heap.size w).alloc (Nat.le_refl _) (.cells #[.map (some bf)] 97)))
  have hsize : (w.alloc (.cells #[.map (some bf)] 97)).heap.size = w.heap.size + 1 := by simp
  have HZ := Aside0.mk hsize
  clear h hsort hL hm hN ho hz hfD hsz hsize
  go_enter Tryz.func64, Tryz.ntmps64
  go_wp2_with (first | (go_at_call 98; refine K.mono ?_; rintro e w' ⟨rfl, rfl⟩) | (go_at_call 97; refine S.mono ?_; rintro e w' ⟨v, ss, rfl, hS, hrow, hnil, hb⟩))
  go_ret
  rw [HS.out ss hS] at hrow
  have hlen : ss.length = (L.map strL).length := by rw [List.length_map, ← HS.out ss hS, List.length_mergeSort]
  rw [hlen, show L.map Go.Proofs.encStr = encs Value.string (L.map strL) from by simp [encs, strL, Go.Proofs.encStr]] at hrow
  refine ⟨v, rfl, Kd.R_of_own (own_weaken hrow (by rw [HZ.out]; omega)) (fun k hk => Nat.le_trans (by rw [HZ.out]; omega) (own_base hrow k hk)), HB.out.trans (hb.mono (by rw [HZ.out]; omega))⟩

/-! ### Size -/
theorem size_none {w : World} {d : Nat} {M : DM} {ok : Nat → Prop} (h : DiskAt w d M ok) {s : ByteArray} (hg : GoodN s) (ho : M.off = false) (hx : M.fs (nm s) = none) :
    Calls Tryz.prog 102 #[dptr d, .string s] w fun e w' => e = .returned (.tuple #[.int .i64 0, .int .i64 2]) ∧ ∃ n, w' = w.drewN n := by
  obtain ⟨bf, bt, blk, sv, ev, sz, h⟩ := h
  have h3 := h.c3
  have h0 := h.c0
  rw [ho] at h3
  have hl := fun n => (h.move (w' := w.drewN n) (fun _ _ _ => rfl)).look (s := s) (by have := hg.2.2; unfold maxLen; omega)
  rw [show blk s.data.toList = none from h.none_ hx] at hl
  simp only [ptrV] at hl
  have HG := Aside0.mk (fun W => good_yes hg W)
  clear h hg ho hx
  go_enter Tryz.func102, Tryz.ntmps102
  go_wp2_with (go_at_call 47; refine (HG.out _).mono ?_; rintro e w' ⟨rfl, n, rfl⟩)
  all_goals (go_ret2; exact ⟨rfl, _, rfl⟩)
theorem size_some {w : World} {d : Nat} {M : DM} {ok : Nat → Prop} (h : DiskAt w d M ok) {s : ByteArray} (hg : GoodN s) (ho : M.off = false) {f : Bytes × Bytes} (hx : M.fs (nm s) = some f) :
    Calls Tryz.prog 102 #[dptr d, .string s] w fun e w' => e = .returned (.tuple #[.int .i64 f.2.length, .int .i64 0]) ∧ ∃ n, w' = w.drewN n := by
  obtain ⟨bf, bt, blk, sv, ev, sz, h⟩ := h
  have h3 := h.c3
  have h0 := h.c0
  rw [ho] at h3
  obtain ⟨g, hb⟩ := h.some_ hx
  have hl := fun n => (h.move (w' := w.drewN n) (fun _ _ _ => rfl)).look (s := s) (by have := hg.2.2; unfold maxLen; omega)
  rw [show blk s.data.toList = some g from hb] at hl
  simp only [ptrV] at hl
  obtain ⟨hcells, _, hR⟩ := h.file _ _ _ hb hx
  have hc1 := cell_of_row w g 1 _ 105 (0, 0) hcells
  obtain ⟨A, c, hv, _, _⟩ := hR.reads
  rw [hv] at hc1
  have HG := Aside0.mk (fun W => good_yes hg W)
  replace hc1 : w.cell? ⟨g, 1, none⟩ = some (.slice A f.2.length c) := hc1
  clear h hg ho hx hcells hR hv hb
  generalize f.2.length = len at *
  go_enter Tryz.func102, Tryz.ntmps102
  go_wp2_with (go_at_call 47; refine (HG.out _).mono ?_; rintro e w' ⟨rfl, n, rfl⟩)
  all_goals (go_ret2; exact ⟨rfl, _, rfl⟩)

/-! ### List -/
theorem list_on {w : World} {d : Nat} {M : DM} {ok : Nat → Prop} (h : DiskAt w d M ok) (ho : M.off = false) {L : List Name} (hL : L.Pairwise (· < ·)) (hm : ∀ x, x ∈ L ↔ (M.fs x).isSome = true) (h16 : L.length ≤ 16) :
    Calls Tryz.prog 103 #[dptr d] w fun e w' => ∃ v, e = .returned (.tuple #[v, .int .i64 0]) ∧ Kd.string.R 9 w' w.heap.size (fun k => w.heap.size ≤ k) v (L.map strL) ∧ Below w.heap.size w w' := by
  have HN := Aside0.mk (names_any h hL hm h16)
  obtain ⟨bf, bt, blk, sv, ev, sz, h⟩ := h
  have h3 := h.c3
  rw [ho] at h3
  clear h ho hL hm h16
  go_enter Tryz.func103, Tryz.ntmps103
  go_wp2_with (go_at_call 64; refine HN.out.mono ?_; rintro e w' ⟨v, rfl, hR, hb⟩)
  obtain ⟨A, c, hv⟩ := Kd.R_slice hR
  go_ret2
  exact ⟨v, rfl, hR, hb⟩
end Go.Proofs.YtmdpgjdepflbmaaGreat

/-
  The contract of a disk's Read.
-/
namespace Go.Proofs.YtmdpgjdepflbmaaGreat
open Go.RowKit Go.Maps Go.Proofs.YtmdpgjdepflbmaaGreatW.PrintWords Go.Proofs.YtmdpgjdepflbmaaGreatW.PrintLast Go.Proofs.YtmdpgjdepflbmaaGreatW.PrintMore
open Go.Proofs.YtmdpgjdepflbmaaGreat.PPagerFolds
set_option linter.unusedVariables false

/-- a cut of a row of bytes that is read -/
theorem cutB {w : World} {A : Option Addr} {len c k : Nat} {l : Bytes} (hC : U8.C w A len l) (hc : len ≤ c) (hk : k ≤ len) (j : Int) (hj : j = k) :
    ∃ A' m c', (∀ W : World, (Instr.slice 48 (.slice A len c) (some (.int .i64 j)) none none).run Tryz.prog W = .ok (.slice A' m c') W) ∧ U8.C w A' m (l.drop k) ∧ m ≤ c' ∧ m = len - k := by
  obtain ⟨i5, hi, hz⟩ := Option.map_eq_some_iff.1 info5
  simp only [Prod.mk.injEq] at hz
  subst hj
  obtain rfl : l.length = len := hC.1
  have h1 := cut_from (P := Tryz.prog) 48 5 .i64 Tryz.underlying48 hi 1 hz.2.1 A l.length c (k : Int) (by omega) (by omega)
  rw [Int.toNat_natCast] at h1
  have h2 := Kd.C_drop hC hk hc
  rw [List.length_drop] at h2
  exact ⟨_, _, _, h1, h2, by omega, rfl⟩
theorem cutT {w : World} {A : Option Addr} {len c k : Nat} {l : Bytes} (hC : U8.C w A len l) (hc : len ≤ c) (hk : k ≤ len) (j : Int) (hj : j = k) :
    (∀ W : World, (Instr.slice 48 (.slice A len c) none (some (.int .i64 j)) none).run Tryz.prog W = .ok (.slice A k c) W) ∧ U8.C w A k (l.take k) := by
  obtain ⟨i5, hi, hz⟩ := Option.map_eq_some_iff.1 info5
  subst hj
  obtain rfl : l.length = len := hC.1
  have h1 := cut_to (P := Tryz.prog) 48 5 .i64 Tryz.underlying48 hi A l.length c (k : Int) (by omega) (by omega) hc
  rw [Int.toNat_natCast] at h1
  have h2 := Kd.C_take hC hk
  rw [List.length_take, Nat.min_eq_left hk] at h2
  exact ⟨h1, h2⟩

theorem C_drewN {w : World} {A : Option Addr} {n : Nat} {l : Bytes} (h : U8.C w A n l) (k : Nat) : U8.C (w.drewN k) A n l := Kd.C_below h (by
  have := (Below.refl w.heap.size w)
  exact ⟨rfl, rfl, rfl, Nat.le_refl _, fun _ _ => rfl⟩)

theorem below_undrawn {B : Nat} {w w' : World} {n : Nat} (h : Below B (w.drewN n) w') : Below B w w' := ⟨h.os, h.tape, h.output, h.size, h.block⟩

/-- the walk alone: what the cuts come to is told -/
theorem read_walk {w : World} {d bf g : Nat} {s : ByteArray} {A A' : Option Addr} {len c m c' q : Nat} {xs : Bytes} (a n : Nat) (a1 : a ≤ 4194304) (n1 : n ≤ 4194304)
    (h0 : w.cell? ⟨d, 0, none⟩ = some (.map (some bf))) (h3 : w.cell? ⟨d, 3, none⟩ = some (.bool false)) (hg : GoodN s)
    (hl : ∀ nd, (Instr.lookup 97 (.map (some bf)) (.string s) false).run Tryz.prog (w.drewN nd) = .ok (.pointer (some ⟨g, 0, none⟩)) (w.drewN nd))
    (hc1 : w.cell? ⟨g, 1, none⟩ = some (.slice A len c))
    (hrun : ∀ W : World, (Instr.slice 48 (.slice A len c) (some (.int .i64 (min (a : Int) len))) none none).run Tryz.prog W = .ok (.slice A' m c') W)
    (hrun2 : ∀ W : World, (Instr.slice 48 (.slice A' m c') none (some (.int .i64 (min (n : Int) m))) none).run Tryz.prog W = .ok (.slice A' q c') W)
    (hC2 : U8.C w A' q xs) (hq : q ≤ roomy) :
    Calls Tryz.prog 109 #[dptr d, .string s, .int .i64 a, .int .i64 n] w fun e w' => ∃ v, e = .returned (.tuple #[v, .int .i64 0]) ∧ U8.R 5 w' w.heap.size (fun k => w.heap.size ≤ k) v xs ∧ Below w.heap.size w w' := by
  have HG := Aside0.mk (fun W => good_yes hg W)
  have HCl := Aside0.mk (fun nd => clone_any A' q c' xs (w.drewN nd) hq (C_drewN hC2 nd))
  clear hg hC2 hq
  go_enter Tryz.func109, Tryz.ntmps109
  go_wp2_with (go_at_call 47; refine (HG.out _).mono ?_; rintro e w' ⟨rfl, nd, rfl⟩)
  refine (HCl.out nd).mono ?_
  rintro e w' ⟨v, rfl, hv, hvb⟩
  obtain ⟨A3, c3, rfl⟩ := Kd.R_slice hv
  have HV := Aside0.mk hv
  have HVB := Aside0.mk hvb
  clear hv hvb
  go_wp2
  go_ret2
  exact ⟨_, rfl, HV.out, below_undrawn HVB.out⟩

theorem read_some {w : World} {d : Nat} {M : DM} {ok : Nat → Prop} (h : DiskAt w d M ok) {s : ByteArray} (hg : GoodN s) (a n : Nat) (a1 : a ≤ 4194304) (n1 : n ≤ 4194304) (ho : M.off = false) {f : Bytes × Bytes} (hx : M.fs (nm s) = some f) (hlen : f.2.length ≤ 4194304) :
    Calls Tryz.prog 109 #[dptr d, .string s, .int .i64 a, .int .i64 n] w fun e w' => ∃ v, e = .returned (.tuple #[v, .int .i64 0]) ∧ U8.R 5 w' w.heap.size (fun k => w.heap.size ≤ k) v ((f.2.drop a).take n) ∧ Below w.heap.size w w' := by
  obtain ⟨bf, bt, blk, sv, ev, sz, h⟩ := h
  have h3 := h.c3
  have h0 := h.c0
  rw [ho] at h3
  obtain ⟨g, hb⟩ := h.some_ hx
  have hl := fun n => (h.move (w' := w.drewN n) (fun _ _ _ => rfl)).look (s := s) (by have := hg.2.2; unfold maxLen; omega)
  rw [show blk s.data.toList = some g from hb] at hl
  simp only [ptrV] at hl
  obtain ⟨hcells, _, hR⟩ := h.file _ _ _ hb hx
  have hc1 := cell_of_row w g 1 _ 105 (0, 0) hcells
  obtain ⟨A, c, hv, hle, hC⟩ := hR.reads
  rw [hv] at hc1
  obtain ⟨A', m, c', hrun, hC', hm', hm⟩ := cutB hC hle (k := min a f.2.length) (Nat.min_le_right _ _) (min (a : Int) f.2.length) (by omega)
  obtain ⟨hrun2, hC2⟩ := cutT hC' hm' (k := min n m) (Nat.min_le_right _ _) (min (n : Int) m) (by omega)
  have e1 : f.2.drop (min a f.2.length) = f.2.drop a := by
    rcases Nat.le_total a f.2.length with h | h
    · rw [Nat.min_eq_left h]
    · rw [Nat.min_eq_right h, List.drop_of_length_le (Nat.le_refl _), List.drop_of_length_le h]
  have e2 : (f.2.drop a).take (min n m) = (f.2.drop a).take n := by
    rcases Nat.le_total n m with h | h
    · rw [Nat.min_eq_left h]
    · have hl : (f.2.drop a).length = m := by rw [← e1, List.length_drop, hm]
      rw [Nat.min_eq_right h, List.take_of_length_le (by omega), List.take_of_length_le (by omega)]
  rw [e1, e2] at hC2
  exact read_walk a n a1 n1 h0 h3 hg hl hc1 hrun hrun2 hC2 (by unfold roomy; omega)
end Go.Proofs.YtmdpgjdepflbmaaGreat
namespace Go.Proofs.YtmdpgjdepflbmaaGreat
open Go.RowKit Go.Maps Go.Proofs.YtmdpgjdepflbmaaGreatW.PrintWords Go.Proofs.YtmdpgjdepflbmaaGreatW.PrintLast Go.Proofs.YtmdpgjdepflbmaaGreatW.PrintMore
open Go.Proofs.YtmdpgjdepflbmaaGreat.PPagerFolds
set_option linter.unusedVariables false

/-- only what is ok, and what is new, has turned -/
structure Fr (ok : Nat → Prop) (w w' : World) : Prop where
  os : w'.os = w.os
  tape : w'.tape = w.tape
  output : w'.output = w.output
  size : w.heap.size ≤ w'.heap.size
  block : ∀ k, k < w.heap.size → ¬ ok k → w'.heap[k]? = w.heap[k]?
section
variable {ok ok' : Nat → Prop} {w w' w'' : World}
theorem Fr.refl (ok : Nat → Prop) (w : World) : Fr ok w w := ⟨rfl, rfl, rfl, Nat.le_refl _, fun _ _ _ => rfl⟩
theorem Fr.trans (h : Fr ok w w') (k : Fr ok' w' w'') (hs : ∀ k, ok' k → ok k ∨ w.heap.size ≤ k) : Fr ok w w'' :=
  ⟨k.os.trans h.os, k.tape.trans h.tape, k.output.trans h.output, Nat.le_trans h.size k.size, fun i hi hn => (k.block i (Nat.lt_of_lt_of_le hi h.size) (fun hk => by
    rcases hs i hk with h1 | h1
    · exact hn h1
    · omega)).trans (h.block i hi hn)⟩
theorem Fr.below {B : Nat} (h : Fr ok w w') (hB : ∀ k, ok k → B ≤ k) (hs : B ≤ w.heap.size) : Below B w w' :=
  ⟨h.os, h.tape, h.output, h.size, fun k hk => h.block k (by omega) (fun ho => by have := hB k ho; omega)⟩
theorem Fr.of_below (h : Below w.heap.size w w') : Fr ok w w' := ⟨h.os, h.tape, h.output, h.size, fun k hk _ => h.block k hk⟩
theorem Fr.drew (h : Fr ok w w') : Fr ok w w'.drew := ⟨h.os, h.tape, h.output, h.size, h.block⟩
theorem Fr.drewN (h : Fr ok w w') (n : Nat) : Fr ok w (w'.drewN n) := ⟨h.os, h.tape, h.output, h.size, h.block⟩
theorem Fr.alloc (h : Fr ok w w') (o : Obj) : Fr ok w (w'.alloc o) :=
  ⟨h.os, h.tape, h.output, Nat.le_trans h.size (by simp), fun k hk hn => (Below.heap_alloc _ _ _ (Nat.lt_of_lt_of_le hk h.size)).trans (h.block k hk hn)⟩
theorem Fr.set_ (h : Fr ok w w') {p : Addr} (hp : ok p.block ∨ w.heap.size ≤ p.block) (u : Value) : Fr ok w (w'.setCell p u) :=
  ⟨h.os, h.tape, h.output, by simpa [World.setCell] using h.size, fun k hk hn => (Below.heap_setCell _ _ _ _ (fun e => by
    subst e
    rcases hp with hp | hp
    · exact hn hp
    · omega)).trans (h.block k hk hn)⟩
theorem Fr.grown (h : Fr ok w w') {row : Option Nat} (hg : w'.grownBy w'' row) (hr : ∀ k, row = some k → ok k ∨ w.heap.size ≤ k) : Fr ok w w'' :=
  ⟨hg.os.trans h.os, hg.tape.trans h.tape, hg.output.trans h.output, Nat.le_trans h.size hg.size, fun k hk hn => (hg.block k (Nat.lt_of_lt_of_le hk h.size) (fun e => by
    rcases hr k e.symm with h1 | h1
    · exact hn h1
    · omega)).trans (h.block k hk hn)⟩
end

theorem Fr.undrew {ok : Nat → Prop} {w w' : World} (h : Fr ok w.drew w') : Fr ok w w' := ⟨h.os, h.tape, h.output, h.size, h.block⟩
theorem frozen_of_cells {w : World} {g : Nat} {cs : Array Value} {t : TypeId} (h : w.heap[g]? = some (.cells cs t (0, 0))) (i : Nat) : w.frozen? ⟨g, i, none⟩ = false := by simp [World.frozen?, h]

/-- what a call leaves of a disk -/
def Left (w : World) (d : Nat) (M' : DM) (ok : Nat → Prop) (w' : World) : Prop :=
  ∃ ok', DiskAt w' d M' ok' ∧ (∀ k, ok' k → ok k ∨ w.heap.size ≤ k) ∧ Fr ok w w'
theorem Left.same {w : World} {d : Nat} {M : DM} {ok : Nat → Prop} (h : DiskAt w d M ok) : Left w d M ok w := ⟨ok, h, fun _ hk => .inl hk, Fr.refl _ _⟩
theorem Left.drewN {w w' : World} {d : Nat} {M : DM} {ok : Nat → Prop} (h : Left w d M ok w') (n : Nat) : Left w d M ok (w'.drewN n) := by
  obtain ⟨ok', h1, h2, h3⟩ := h
  exact ⟨ok', h1.drewN n, h2, h3.drewN n⟩
theorem Left.trans {w w' w'' : World} {d : Nat} {M M' : DM} {ok ok' : Nat → Prop} (h2 : ∀ k, ok' k → ok k ∨ w.heap.size ≤ k) (h3 : Fr ok w w') (h : Left w' d M' ok' w'') : Left w d M' ok w'' := by
  obtain ⟨ok2, a, b, c⟩ := h
  refine ⟨ok2, a, fun k hk => ?_, h3.trans c h2⟩
  rcases b k hk with h | h
  · exact h2 k h
  · exact .inr (Nat.le_trans h3.size h)

section
variable {w w1 : World} {d : Nat} {M : DM} {ok ok' : Nat → Prop} {bf bt : Nat} {blk : Name → Option Nat} {sv ev : Name → Value} {sz : Nat}

theorem DRep.grow_ok (h : DRep w d M ok bf bt blk sv ev sz) : DRep w d M (fun k => ok k ∧ k < w.heap.size) bf bt blk sv ev sz where
  hd := h.hd
  hf := h.hf
  ht := h.ht
  dom := h.dom
  file := fun x g f h1 h2 => by
    obtain ⟨a, b, c⟩ := h.file x g f h1 h2
    exact ⟨a, RB.mono (RB.bound b) (fun k hk => ⟨hk.1, hk.2.2.1⟩), RB.mono (RB.bound c) (fun k hk => ⟨hk.1, hk.2.2.1⟩)⟩
  inj := h.inj
  apart := h.apart
  ne := h.ne
  okd := ⟨h.okd, h.lt⟩
  okf := ⟨h.okf, h.hf.lt⟩
  okt := ⟨h.okt, h.ht.lt⟩
  okb := fun x g hx => by
    obtain ⟨f, hf⟩ := Option.isSome_iff_exists.1 ((h.dom x).symm.trans (by rw [hx]; rfl))
    exact ⟨h.okb x g hx, heap_lt (h.file x g f hx hf).1⟩

/-- a map's block, a struct's, a row's: none is another one -/
theorem PMap.not_cells {P : Program} {K : TypeId} {b : Nat} {f : List UInt8 → Option Nat} (h : PMap P K w b f sz) {g : Nat} {cs : Array Value} {t : TypeId} {fr : Nat × Nat} (hg : w.heap[g]? = some (.cells cs t fr)) : b ≠ g := by
  rintro rfl
  obtain ⟨n, D, ⟨es, clock, hb, _⟩, _⟩ := h
  rw [hb] at hg; cases hg
theorem NMap.not_cells {P : Program} {K E : TypeId} {b : Nat} {f : Int → Int} (h : NMap P K E w b f) {g : Nat} {cs : Array Value} {t : TypeId} {fr : Nat × Nat} (hg : w.heap[g]? = some (.cells cs t fr)) : b ≠ g := by
  rintro rfl
  obtain ⟨n, D, ⟨es, clock, hb, _⟩, _⟩ := h
  rw [hb] at hg; cases hg
theorem cells_ne {g g' : Nat} {cs cs' : Array Value} {t t' : TypeId} {fr fr' : Nat × Nat} (h : w.heap[g]? = some (.cells cs t fr)) (h' : w.heap[g']? = some (.cells cs' t' fr')) (hne : t ≠ t') : g ≠ g' := by
  rintro rfl
  rw [h] at h'
  injection h' with h'
  injection h' with _ ht
  exact hne ht
theorem R_block {okr : Nat → Prop} {v : Value} {l : Bytes} (h : RB w okr v l) {k : Nat} (hk : v.ownBlock = some k) : ∃ cs, w.heap[k]? = some (.cells cs 5 (0, 0)) := h.block hk

/-- a row of bytes where its block is as it was -/
theorem R_same {v : Value} {l : Bytes} {ok1 : Nat → Prop} (h : RB w ok v l) (hm : ∀ k, v.ownBlock = some k → w1.heap[k]? = w.heap[k]?) (hok : ∀ k, v.ownBlock = some k → ok1 k) : RB w1 ok1 v l := h.same hm hok

/-- a file's seen bytes are others -/
theorem DRep.setSeen (h : DRep w d M ok bf bt blk sv ev sz) {x : Name} {g : Nat} {f : Bytes × Bytes} {v1 : Value} {l1 : Bytes} (hx : blk x = some g) (hfx : M.fs x = some f)
    (hg : w1.heap[g]? = some (.cells #[sv x, v1] 105 (0, 0)))
    (hk : ∀ k, ok k → k < w.heap.size → k ≠ g → (ev x).ownBlock ≠ some k → w1.heap[k]? = w.heap[k]?)
    (hR : RB w1 ok' v1 l1) (hat : ∀ b, v1.ownBlock = some b → (ev x).ownBlock = some b ∨ w.heap.size ≤ b) (hok : ∀ k, ok k → ok' k) :
    DRep w1 d { M with fs := fun y => if y = x then some (f.1, l1) else M.fs y } ok' bf bt blk sv (fun y => if y = x then v1 else ev y) sz := by
  have hgw := (h.file x g f hx hfx).1
  have hRx := (h.file x g f hx hfx).2.2
  have hrow : ∀ k, (ev x).ownBlock = some k → ∃ cs, w.heap[k]? = some (.cells cs 5 (0, 0)) := fun k hk => R_block hRx hk
  have hev : ∀ {k : Nat} {o : Obj}, w.heap[k]? = some o → (∀ cs, o ≠ .cells cs 5 (0, 0)) → (ev x).ownBlock ≠ some k := fun {k o} ho hne e => by
    obtain ⟨cs, hc⟩ := hrow k e
    rw [ho] at hc
    injection hc with hc
    exact hne cs hc
  have hmapf : ∃ es c, w.heap[bf]? = some (.map es c) := by
    obtain ⟨n, D, ⟨es, clock, hb, _⟩, _⟩ := h.hf
    exact ⟨es, clock, hb⟩
  have hmapt : ∃ es c, w.heap[bt]? = some (.map es c) := by
    obtain ⟨n, D, ⟨es, clock, hb, _⟩, _⟩ := h.ht
    exact ⟨es, clock, hb⟩
  obtain ⟨esf, cf, hmf⟩ := hmapf
  obtain ⟨est, ct, hmt⟩ := hmapt
  refine { hd := ?_, hf := ?_, ht := ?_, dom := ?_, file := ?_, inj := h.inj, apart := ?_, ne := h.ne, okd := hok _ h.okd, okf := hok _ h.okf, okt := hok _ h.okt, okb := fun y gy hy => hok _ (h.okb y gy hy) }
  · exact (hk d h.okd h.lt (cells_ne h.hd hgw (by decide)) (hev h.hd (fun cs e => by injection e with _ e; exact absurd e (by decide)))).trans h.hd
  · exact h.hf.move (hk bf h.okf h.hf.lt (h.hf.not_cells hgw) (hev hmf (fun cs e => by cases e)))
  · exact h.ht.move (hk bt h.okt h.ht.lt (h.ht.not_cells hgw) (hev hmt (fun cs e => by cases e)))
  · intro y
    by_cases e : y = x
    · subst e; simp [hx]
    · simp only [if_neg e]; exact h.dom y
  · intro y gy fy hy hfy
    by_cases e : y = x
    · subst e
      obtain rfl : g = gy := by rw [hx] at hy; exact Option.some.inj hy
      simp only [if_true] at hfy ⊢
      obtain rfl := Option.some.inj hfy
      refine ⟨hg, R_same (h.file y g f hx hfx).2.1 (fun k hkk => ?_) (fun k hkk => hok k ((h.file y g f hx hfx).2.1.1 k hkk)), hR⟩
      obtain ⟨cs, hcs⟩ := R_block (h.file y g f hx hfx).2.1 hkk
      exact hk k ((h.file y g f hx hfx).2.1.1 k hkk) (heap_lt hcs) (cells_ne hcs hgw (by decide)) (fun e => (h.apart y y g g k hx hx e).1 hkk)
    · simp only [if_neg e] at hfy ⊢
      obtain ⟨a, b, c⟩ := h.file y gy fy hy hfy
      have hne : gy ≠ g := fun e2 => e (h.inj y x g (by rw [← e2]; exact hy) hx)
      refine ⟨(hk gy (h.okb y gy hy) (heap_lt a) hne (hev a (fun cs e => by injection e with _ e; exact absurd e (by decide)))).trans a, R_same b (fun k hkk => ?_) (fun k hkk => hok k (b.1 k hkk)), R_same c (fun k hkk => ?_) (fun k hkk => hok k (c.1 k hkk))⟩
      · obtain ⟨cs, hcs⟩ := R_block b hkk
        exact hk k (b.1 k hkk) (heap_lt hcs) (cells_ne hcs hgw (by decide)) (fun e3 => (h.apart x y g gy k hx hy e3).1 hkk)
      · obtain ⟨cs, hcs⟩ := R_block c hkk
        exact hk k (c.1 k hkk) (heap_lt hcs) (cells_ne hcs hgw (by decide)) (fun e3 => (h.apart x y g gy k hx hy e3).2 (Ne.symm e) hkk)
  · intro y z gy gz k hy hz hown
    have hbig : ∀ y gy, blk y = some gy → ∀ k, ((sv y).ownBlock = some k ∨ (ev y).ownBlock = some k) → k < w.heap.size := by
      intro y gy hy k hkk
      obtain ⟨fy, hfy⟩ := Option.isSome_iff_exists.1 ((h.dom y).symm.trans (by rw [hy]; rfl))
      obtain ⟨_, b, c⟩ := h.file y gy fy hy hfy
      rcases hkk with hkk | hkk
      · obtain ⟨cs, hcs⟩ := R_block b hkk; exact heap_lt hcs
      · obtain ⟨cs, hcs⟩ := R_block c hkk; exact heap_lt hcs
    by_cases ey : y = x
    · subst ey
      simp only [if_true] at hown
      rcases hat k hown with hat | hb2
      · refine ⟨(h.apart y z gy gz k hy hz hat).1, fun hne => ?_⟩
        rw [if_neg (Ne.symm hne)]
        exact (h.apart y z gy gz k hy hz hat).2 hne
      · refine ⟨fun e => ?_, fun hne => ?_⟩
        · have := hbig z gz hz k (.inl e); omega
        · rw [if_neg (Ne.symm hne)]
          intro e
          have := hbig z gz hz k (.inr e); omega
    · simp only [if_neg ey] at hown
      refine ⟨(h.apart y z gy gz k hy hz hown).1, fun hne => ?_⟩
      by_cases ez : z = x
      · subst ez
        simp only [if_true]
        intro e
        rcases hat k e with hat | hb2
        · exact (h.apart y z gy gz k hy hz hown).2 hne hat
        · have := hbig y gy hy k (.inr hown); omega
      · simp only [if_neg ez]
        exact (h.apart y z gy gz k hy hz hown).2 hne
end
end Go.Proofs.YtmdpgjdepflbmaaGreat

/-
  How a disk's shape goes on, the other ways: the struct's numbers, a safe row, a new file, a deletion; the built-in copy into a row.
-/
namespace Go.Proofs.YtmdpgjdepflbmaaGreat
open Go.RowKit Go.Maps Go.Proofs.YtmdpgjdepflbmaaGreatW.PrintWords Go.Proofs.YtmdpgjdepflbmaaGreatW.PrintLast Go.Proofs.YtmdpgjdepflbmaaGreatW.PrintMore
open Go.Proofs.YtmdpgjdepflbmaaGreat.PPagerFolds
set_option linter.unusedVariables false

section
variable {w w1 : World} {d : Nat} {M : DM} {ok ok' : Nat → Prop} {bf bt : Nat} {blk : Name → Option Nat} {sv ev : Name → Value} {sz : Nat}

theorem DRep.row_lt (h : DRep w d M ok bf bt blk sv ev sz) {y : Name} {gy k : Nat} (hy : blk y = some gy) (hk : (sv y).ownBlock = some k ∨ (ev y).ownBlock = some k) : k < w.heap.size := by
  obtain ⟨fy, hfy⟩ := Option.isSome_iff_exists.1 ((h.dom y).symm.trans (by rw [hy]; rfl))
  obtain ⟨_, b, c⟩ := h.file y gy fy hy hfy
  rcases hk with hkk | hkk
  · obtain ⟨cs, hcs⟩ := R_block b hkk; exact heap_lt hcs
  · obtain ⟨cs, hcs⟩ := R_block c hkk; exact heap_lt hcs

/-- the struct's numbers are others -/
theorem DRep.setHead (h : DRep w d M ok bf bt blk sv ev sz) {st : Int} {off : Bool} (hd : w1.heap[d]? = some (.cells #[.map (some bf), .map (some bt), .int .i64 st, .bool off] 100 (0, 0)))
    (hk : ∀ k, ok k → k < w.heap.size → k ≠ d → w1.heap[k]? = w.heap[k]?) : DRep w1 d { M with st := st, off := off } ok bf bt blk sv ev sz where
  hd := hd
  hf := h.hf.move (hk bf h.okf h.hf.lt (h.hf.not_cells h.hd))
  ht := h.ht.move (hk bt h.okt h.ht.lt (h.ht.not_cells h.hd))
  dom := h.dom
  file := fun x g f h1 h2 => by
    obtain ⟨a, b, c⟩ := h.file x g f h1 h2
    refine ⟨(hk g (h.okb x g h1) (heap_lt a) (cells_ne a h.hd (by decide))).trans a, R_same b (fun k hkk => ?_) b.1, R_same c (fun k hkk => ?_) c.1⟩
    · obtain ⟨cs, hcs⟩ := R_block b hkk
      exact hk k (b.1 k hkk) (heap_lt hcs) (cells_ne hcs h.hd (by decide))
    · obtain ⟨cs, hcs⟩ := R_block c hkk
      exact hk k (c.1 k hkk) (heap_lt hcs) (cells_ne hcs h.hd (by decide))
  inj := h.inj
  apart := h.apart
  ne := h.ne
  okd := h.okd
  okf := h.okf
  okt := h.okt
  okb := h.okb

theorem DRep.setHeadCell (h : DRep w d M ok bf bt blk sv ev sz) (st : Int) : DRep (w.setCell ⟨d, 2, none⟩ (.int .i64 st)) d { M with st := st } ok bf bt blk sv ev sz :=
  h.setHead (by have := h.hd; simp [World.setCell, Array.getElem?_modify, this]) (fun k _ _ hne => Below.heap_setCell _ _ _ _ hne)
theorem DRep.setOff (h : DRep w d M ok bf bt blk sv ev sz) (b : Bool) : DRep (w.setCell ⟨d, 3, none⟩ (.bool b)) d { M with off := b } ok bf bt blk sv ev sz :=
  h.setHead (by have := h.hd; simp [World.setCell, Array.getElem?_modify, this]) (fun k _ _ hne => Below.heap_setCell _ _ _ _ hne)

/-- a file's safe bytes are others: a new row -/
theorem DRep.setSafe (h : DRep w d M ok bf bt blk sv ev sz) {x : Name} {g : Nat} {f : Bytes × Bytes} {v1 : Value} {l1 : Bytes} (hx : blk x = some g) (hfx : M.fs x = some f)
    (hg : w1.heap[g]? = some (.cells #[v1, ev x] 105 (0, 0))) (hk : ∀ k, ok k → k < w.heap.size → k ≠ g → w1.heap[k]? = w.heap[k]?)
    (hR : RB w1 ok' v1 l1) (hat : ∀ b, v1.ownBlock = some b → w.heap.size ≤ b) (hok : ∀ k, ok k → ok' k) :
    DRep w1 d { M with fs := fun y => if y = x then some (l1, f.2) else M.fs y } ok' bf bt blk (fun y => if y = x then v1 else sv y) ev sz := by
  have hgw := (h.file x g f hx hfx).1
  refine { hd := ?_, hf := ?_, ht := ?_, dom := ?_, file := ?_, inj := h.inj, apart := ?_, ne := h.ne, okd := hok _ h.okd, okf := hok _ h.okf, okt := hok _ h.okt, okb := fun y gy hy => hok _ (h.okb y gy hy) }
  · exact (hk d h.okd h.lt (cells_ne h.hd hgw (by decide))).trans h.hd
  · exact h.hf.move (hk bf h.okf h.hf.lt (h.hf.not_cells hgw))
  · exact h.ht.move (hk bt h.okt h.ht.lt (h.ht.not_cells hgw))
  · intro y
    by_cases e : y = x
    · subst e; simp [hx]
    · simp only [if_neg e]; exact h.dom y
  · intro y gy fy hy hfy
    by_cases e : y = x
    · subst e
      obtain rfl : g = gy := by rw [hx] at hy; exact Option.some.inj hy
      simp only [if_true] at hfy ⊢
      obtain rfl := Option.some.inj hfy
      have c := (h.file y g f hx hfx).2.2
      refine ⟨hg, hR, R_same c (fun k hkk => ?_) (fun k hkk => hok k (c.1 k hkk))⟩
      obtain ⟨cs, hcs⟩ := R_block c hkk
      exact hk k (c.1 k hkk) (heap_lt hcs) (cells_ne hcs hgw (by decide))
    · simp only [if_neg e] at hfy ⊢
      obtain ⟨a, b, c⟩ := h.file y gy fy hy hfy
      have hne : gy ≠ g := fun e2 => e (h.inj y x g (by rw [← e2]; exact hy) hx)
      refine ⟨(hk gy (h.okb y gy hy) (heap_lt a) hne).trans a, R_same b (fun k hkk => ?_) (fun k hkk => hok k (b.1 k hkk)), R_same c (fun k hkk => ?_) (fun k hkk => hok k (c.1 k hkk))⟩
      · obtain ⟨cs, hcs⟩ := R_block b hkk
        exact hk k (b.1 k hkk) (heap_lt hcs) (cells_ne hcs hgw (by decide))
      · obtain ⟨cs, hcs⟩ := R_block c hkk
        exact hk k (c.1 k hkk) (heap_lt hcs) (cells_ne hcs hgw (by decide))
  · intro y z gy gz k hy hz hown
    refine ⟨?_, (h.apart y z gy gz k hy hz hown).2⟩
    by_cases ez : z = x
    · subst ez
      simp only [if_true]
      intro e
      have := hat k e
      have := h.row_lt hy (.inr hown)
      omega
    · simp only [if_neg ez]; exact (h.apart y z gy gz k hy hz hown).1

/-- a new file, of no bytes -/
theorem DRep.insert (h : DRep w d M ok bf bt blk sv ev sz) {x : Name} {g : Nat} {sz' : Nat} (hx : M.fs x = none)
    (hP : PMap Tryz.prog 9 w1 bf (fun y => if y = x then some g else blk y) sz') (hg : w1.heap[g]? = some (.cells #[.slice none 0 0, .slice none 0 0] 105 (0, 0))) (hgs : w.heap.size ≤ g)
    (hk : ∀ k, ok k → k < w.heap.size → k ≠ bf → w1.heap[k]? = w.heap[k]?) (hok : ∀ k, ok k → ok' k) (hokg : ok' g) :
    DRep w1 d { M with fs := fun y => if y = x then some ([], []) else M.fs y } ok' bf bt (fun y => if y = x then some g else blk y) (fun y => if y = x then .slice none 0 0 else sv y) (fun y => if y = x then .slice none 0 0 else ev y) sz' := by
  have hbx : blk x = none := h.none_ hx
  refine { hd := ?_, hf := hP, ht := ?_, dom := ?_, file := ?_, inj := ?_, apart := ?_, ne := h.ne, okd := hok _ h.okd, okf := hok _ h.okf, okt := hok _ h.okt, okb := ?_ }
  · exact (hk d h.okd h.lt (Ne.symm (h.hf.not_cells h.hd))).trans h.hd
  · exact h.ht.move (hk bt h.okt h.ht.lt (Ne.symm h.ne))
  · intro y
    by_cases e : y = x
    · subst e; simp
    · simp only [if_neg e]; exact h.dom y
  · intro y gy fy hy hfy
    by_cases e : y = x
    · subst e
      simp only [if_true] at hy hfy ⊢
      obtain rfl := Option.some.inj hy
      obtain rfl := Option.some.inj hfy
      exact ⟨hg, RB.nil _ _, RB.nil _ _⟩
    · simp only [if_neg e] at hy hfy ⊢
      obtain ⟨a, b, c⟩ := h.file y gy fy hy hfy
      refine ⟨(hk gy (h.okb y gy hy) (heap_lt a) (Ne.symm (h.hf.not_cells a))).trans a, R_same b (fun k hkk => ?_) (fun k hkk => hok k (b.1 k hkk)), R_same c (fun k hkk => ?_) (fun k hkk => hok k (c.1 k hkk))⟩
      · obtain ⟨cs, hcs⟩ := R_block b hkk
        exact hk k (b.1 k hkk) (heap_lt hcs) (Ne.symm (h.hf.not_cells hcs))
      · obtain ⟨cs, hcs⟩ := R_block c hkk
        exact hk k (c.1 k hkk) (heap_lt hcs) (Ne.symm (h.hf.not_cells hcs))
  · intro y z gz hy hz
    have hsmall : ∀ y gy, blk y = some gy → gy < w.heap.size := by
      intro y gy hy
      obtain ⟨fy, hfy⟩ := Option.isSome_iff_exists.1 ((h.dom y).symm.trans (by rw [hy]; rfl))
      exact heap_lt (h.file y gy fy hy hfy).1
    by_cases ey : y = x
    · by_cases ez : z = x
      · rw [ey, ez]
      · simp only [if_pos ey] at hy
        simp only [if_neg ez] at hz
        obtain rfl := Option.some.inj hy
        have := hsmall z _ hz; omega
    · by_cases ez : z = x
      · simp only [if_neg ey] at hy
        simp only [if_pos ez] at hz
        obtain rfl := Option.some.inj hz
        have := hsmall y _ hy; omega
      · simp only [if_neg ey] at hy
        simp only [if_neg ez] at hz
        exact h.inj y z gz hy hz
  · intro y z gy gz k hy hz hown
    by_cases ey : y = x
    · simp only [if_pos ey] at hown
      simp [Value.ownBlock] at hown
    · simp only [if_neg ey] at hy hown
      by_cases ez : z = x
      · simp only [if_pos ez]
        exact ⟨by simp [Value.ownBlock], fun _ => by simp [Value.ownBlock]⟩
      · simp only [if_neg ez] at hz ⊢
        exact h.apart y z gy gz k hy hz hown
  · intro y gy hy
    by_cases ey : y = x
    · simp only [if_pos ey] at hy
      obtain rfl := Option.some.inj hy
      exact hokg
    · simp only [if_neg ey] at hy
      exact hok _ (h.okb y gy hy)

/-- a file is gone -/
theorem DRep.delete (h : DRep w d M ok bf bt blk sv ev sz) {x : Name} {sz' : Nat} (hP : PMap Tryz.prog 9 w1 bf (fun y => if y = x then none else blk y) sz')
    (hk : ∀ k, ok k → k < w.heap.size → k ≠ bf → w1.heap[k]? = w.heap[k]?) :
    DRep w1 d { M with fs := fun y => if y = x then none else M.fs y } ok bf bt (fun y => if y = x then none else blk y) sv ev sz' := by
  refine { hd := ?_, hf := hP, ht := ?_, dom := ?_, file := ?_, inj := ?_, apart := ?_, ne := h.ne, okd := h.okd, okf := h.okf, okt := h.okt, okb := ?_ }
  · exact (hk d h.okd h.lt (Ne.symm (h.hf.not_cells h.hd))).trans h.hd
  · exact h.ht.move (hk bt h.okt h.ht.lt (Ne.symm h.ne))
  · intro y
    by_cases e : y = x
    · subst e; simp
    · simp only [if_neg e]; exact h.dom y
  · intro y gy fy hy hfy
    by_cases e : y = x
    · simp only [if_pos e] at hy; cases hy
    · simp only [if_neg e] at hy hfy
      obtain ⟨a, b, c⟩ := h.file y gy fy hy hfy
      refine ⟨(hk gy (h.okb y gy hy) (heap_lt a) (Ne.symm (h.hf.not_cells a))).trans a, R_same b (fun k hkk => ?_) b.1, R_same c (fun k hkk => ?_) c.1⟩
      · obtain ⟨cs, hcs⟩ := R_block b hkk
        exact hk k (b.1 k hkk) (heap_lt hcs) (Ne.symm (h.hf.not_cells hcs))
      · obtain ⟨cs, hcs⟩ := R_block c hkk
        exact hk k (c.1 k hkk) (heap_lt hcs) (Ne.symm (h.hf.not_cells hcs))
  · intro y z gz hy hz
    by_cases ey : y = x
    · simp only [if_pos ey] at hy; cases hy
    · by_cases ez : z = x
      · simp only [if_pos ez] at hz; cases hz
      · simp only [if_neg ey] at hy
        simp only [if_neg ez] at hz
        exact h.inj y z gz hy hz
  · intro y z gy gz k hy hz hown
    by_cases ey : y = x
    · simp only [if_pos ey] at hy; cases hy
    · by_cases ez : z = x
      · simp only [if_pos ez] at hz; cases hz
      · simp only [if_neg ey] at hy
        simp only [if_neg ez] at hz
        exact h.apart y z gy gz k hy hz hown
  · intro y gy hy
    by_cases ey : y = x
    · simp only [if_pos ey] at hy; cases hy
    · simp only [if_neg ey] at hy
      exact h.okb y gy hy
end

/-! ### copy into a row -/
theorem C_cells {w : World} {A : Option Addr} {n : Nat} {b : Bytes} (h : U8.C w A n b) (hn : 0 < n) : ∃ ad, A = some ad ∧ ∀ j v, (b.map (Value.int .u8))[j]? = some v → w.cell? (ad.add j) = some v := by
  obtain ⟨ad, rfl, hc⟩ := h.2.2 hn
  refine ⟨ad, rfl, fun j v hj => ?_⟩
  rw [List.getElem?_map] at hj
  obtain ⟨p, hp, rfl⟩ := Option.map_eq_some_iff.1 hj
  obtain ⟨c, hl, hK, hcell⟩ := hc j p hp
  have hK' : c = [Value.int .u8 p] := hK
  subst hK'
  have := hcell 0 _ rfl
  simpa [Kd.int, Kd.scalar] using this

theorem take_splice (cur : List Value) (xs b : Bytes) (k nb : Nat) (hbl : b.length = nb) (hc : xs.length ≤ cur.length) (hfit : k + nb ≤ xs.length) (e : cur.take xs.length = xs.map (Value.int .u8)) :
    (cur.take k ++ b.map (Value.int .u8) ++ cur.drop (k + nb)).toArray.toList.take xs.length = encs (Value.int .u8) (splice xs k b) := by
  have e1 : encs (Value.int .u8) (splice xs k b) = (xs.map (Value.int .u8)).take k ++ (b.map (Value.int .u8) ++ (xs.map (Value.int .u8)).drop (k + nb)) := by
    simp [encs, splice, hbl]
  rw [e1, ← e, List.take_take, Nat.min_eq_left (by omega), List.drop_take]
  show List.take xs.length (cur.take k ++ b.map (Value.int .u8) ++ cur.drop (k + nb)) = _
  have l1 : (cur.take k ++ b.map (Value.int .u8)).length = k + nb := by simp [hbl]; omega
  rw [List.take_append, l1, List.take_of_length_le (by omega), List.append_assoc]

/-- copy(v[k:], b), b not empty, within v -/
theorem copyB {w : World} {ok : Nat → Prop} {v : Value} {xs b : Bytes} {Ab : Option Addr} {nb cb : Nat} (hR : RB w ok v xs) (k : Nat) (hC : U8.C w Ab nb b) (hb : 0 < nb) (hfit : k + nb ≤ xs.length) :
    ∃ A' m c' w1, (∀ W : World, (Instr.slice 48 v (some (.int .i64 k)) none none).run Tryz.prog W = .ok (.slice A' m c') W) ∧
      (∀ nq ty, (Builtin.copy_ #[48, 48] ty #[.slice A' m c', .slice Ab nb cb]).run Tryz.prog (w.drewN nq) = .ok (.int .i64 nb) (World.drewN w1 nq)) ∧
      RB w1 ok v (splice xs k b) ∧ w.grownBy w1 v.ownBlock := by
  obtain ⟨i5, hi, hz⟩ := Option.map_eq_some_iff.1 info5
  simp only [Prod.mk.injEq] at hz
  rcases hR.rep with ⟨rfl, rfl⟩ | ⟨g, cap, cur, rfl, hg, hnc, hmax, hcur, hwh, htake⟩
  · simp at hfit; omega
  · have hbl : b.length = nb := hC.1
    obtain ⟨ad, rfl, hcells⟩ := C_cells hC hb
    have hlt : k ≠ cap := by omega
    have hcut := cut_from (P := Tryz.prog) 48 5 .i64 Tryz.underlying48 hi 1 hz.2.1 (some ⟨g, 0, none⟩) xs.length cap (k : Int) (by omega) (by omega)
    rw [Int.toNat_natCast, if_neg (Ne.symm hlt)] at hcut
    have hadd : (Option.map (fun x : Addr => x.add (k * 1)) (some ⟨g, 0, none⟩)) = some ⟨g, k, none⟩ := by
      simp [Addr.add]
      intro h; omega
    rw [hadd] at hcut
    have hrun := fun (nq : Nat) (ty : TypeId) => run_copy_row (P := Tryz.prog) (w.drewN nq) 48 48 ty 5 g k (xs.length - k) (cap - k) ad nb cb cur 5 (b.map (Value.int .u8)) Tryz.underlying48
      (by rw [hi]; simp [hz.2.1]) hg (by rw [List.length_map, hbl]; simp [Nat.min_def]; omega) hcells (by rw [List.length_map, hbl]; omega) (fun v hv => by obtain ⟨p, _, rfl⟩ := List.mem_map.1 hv; rfl)
    rw [List.length_map, hbl] at hrun
    have hsl : (splice xs k b).length = xs.length := length_splice _ _ _ (by omega)
    refine ⟨_, _, _, w.setRow g (cur.toList.take k ++ b.map (Value.int .u8) ++ cur.toList.drop (k + nb)).toArray, hcut, fun nq ty => hrun nq ty, ⟨hR.1, .inr ⟨g, cap, _, by rw [hsl], setRow_heap _ _ _ _ _ _ hg, by rw [hsl]; exact hnc, hmax, ?_, ?_, ?_⟩⟩, ?_⟩
    · simp; omega
    · rw [hsl]; simp; omega
    · rw [hsl]
      exact take_splice cur.toList xs b k nb hbl (by simp; omega) hfit htake
    · exact ⟨rfl, rfl, rfl, by simp [World.setRow], fun i _ hi => setRow_other _ _ _ _ (fun e => hi (by rw [e]; rfl))⟩
end Go.Proofs.YtmdpgjdepflbmaaGreat
namespace Go.Proofs.YtmdpgjdepflbmaaGreat
open Go.RowKit Go.Maps Go.Proofs.YtmdpgjdepflbmaaGreatW.PrintWords Go.Proofs.YtmdpgjdepflbmaaGreatW.PrintLast Go.Proofs.YtmdpgjdepflbmaaGreatW.PrintMore
open Go.Proofs.YtmdpgjdepflbmaaGreat.PPagerFolds
set_option linter.unusedVariables false
set_option linter.unusedSimpArgs false

theorem all_none {w : World} {d p : Nat} {M : DM} {ok : Nat → Prop} (h : DiskAt w d M ok) (hp : w.cell? ⟨p, 0, none⟩ = some (dptr d)) {s : ByteArray} (hg : GoodN s) (ho : M.off = false) (hx : M.fs (nm s) = none) :
    Calls Tryz.prog 86 #[dptr p, .string s] w fun e w' => e = .returned (.tuple #[.slice none 0 0, .bool false, .int .i64 0]) ∧ ∃ n, w' = w.drewN n := by
  have HS := Aside0.mk (size_none h hg ho hx)
  clear h hg ho hx
  go_enter Tryz.func86, Tryz.ntmps86
  go_wp2_with (go_at_call 102; refine (HS.out).mono ?_; rintro e w' ⟨rfl, n, rfl⟩)
  all_goals (go_ret3; exact ⟨rfl, _, rfl⟩)
theorem all_some {w : World} {d p : Nat} {M : DM} {ok : Nat → Prop} (h : DiskAt w d M ok) (hp : w.cell? ⟨p, 0, none⟩ = some (dptr d)) {s : ByteArray} (hg : GoodN s) (ho : M.off = false) {f : Bytes × Bytes} (hx : M.fs (nm s) = some f) (hlen : f.2.length ≤ 4194304) :
    Calls Tryz.prog 86 #[dptr p, .string s] w fun e w' => ∃ v, e = .returned (.tuple #[v, .bool true, .int .i64 0]) ∧ U8.R 5 w' w.heap.size (fun k => w.heap.size ≤ k) v f.2 ∧ Below w.heap.size w w' := by
  have HS := Aside0.mk (size_some h hg ho hx)
  have HR := Aside0.mk (fun n => read_some (w := w.drewN n) (h.drewN n) hg 0 f.2.length (by omega) hlen ho hx hlen)
  clear h hg ho hx hlen
  go_enter Tryz.func86, Tryz.ntmps86
  go_wp2_with (first
    | (go_at_call 102; refine (HS.out).mono ?_; rintro e w' ⟨rfl, n, rfl⟩)
    | (go_at_call 109; refine (HR.out _).mono ?_; rintro e w' ⟨v, rfl, hv, hvb⟩; obtain ⟨A3, c3, rfl⟩ := Kd.R_slice hv; have HV := Aside0.mk hv; have HVB := Aside0.mk hvb; clear hv hvb))
  all_goals (go_ret3; exact ⟨_, rfl, by simpa using HV.out, below_undrawn HVB.out⟩)
end Go.Proofs.YtmdpgjdepflbmaaGreat

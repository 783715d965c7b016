/-
  Maps of the call's own as plain functions: a map from strings to pointers, a map from numbers to numbers.
-/
import Derived.Test.YtpaiadidgokjlaaGreatKeys
import Derived.Test.YtpaiadidgokjlaaGreatRows
import Derived.Maps.OwnSet
import Derived.Maps.OwnOps
import Derived.StringKeys
namespace Go.Proofs.YtpaiadidgokjlaaGreat
open Go.RowKit Go.Maps
open Go.WideMaps (keyOf_string_mk)
set_option linter.unusedVariables false

/-- a pointer to the head of a block reads as the block's number; nil as -1 -/
def ptrE (v : Value) : Option (DataW Unit × List MemPlace) :=
  match v with
  | .pointer none => some (.lit (.int .i64 (-1)), [])
  | .pointer (some ⟨g, 0, none⟩) => some (.lit (.int .i64 g), [])
  | _ => none
theorem ptrE_none : ptrE (.pointer none) = some (.lit (.int .i64 (-1)), []) := rfl
theorem ptrE_some (g : Nat) : ptrE (.pointer (some ⟨g, 0, none⟩)) = some (.lit (.int .i64 g), []) := rfl

def ptrV : Option Nat → Value
  | none => .pointer none
  | some g => .pointer (some ⟨g, 0, none⟩)
def ptrN : Option Nat → Int
  | none => -1
  | some g => g
theorem ptrE_inv {v : Value} {o : Option Nat} {ps : List MemPlace} (h : ptrE v = some (.lit (.int .i64 (ptrN o)), ps)) : v = ptrV o := by
  unfold ptrE at h
  split at h
  · cases o with
    | none => rfl
    | some g => simp [ptrN] at h
  · cases o with
    | none => simp [ptrN] at h
    | some g => simp [ptrN] at h; obtain ⟨h1, _⟩ := h; have h2 := Int.ofNat_inj.1 h1; subst h2; rfl
  · cases h

/-- block b is a map from strings to blocks -/
def PMap (P : Program) (K : TypeId) (w : World) (b : Nat) (f : List UInt8 → Option Nat) (sz : Nat) : Prop :=
  ∃ n D, w.ownsMap P K ptrE b n D ∧ Maps.size D = sz ∧ ∀ x : List UInt8, has D (.string x) = (f x).isSome ∧ D.atKey (.string x) (.lit (.int .i64 (-1))) = .lit (.int .i64 (ptrN (f x)))

section
variable {P : Program} {K E T : TypeId} {w w' : World} {b sz : Nat} {f : List UInt8 → Option Nat}

theorem PMap.made (P : Program) (K : TypeId) (w : World) : PMap P K (w.alloc (.map #[] 0)) w.heap.size (fun _ => none) 0 :=
  ⟨0, .map [], World.ownsMap_made _ _ _ _, rfl, fun x => ⟨rfl, rfl⟩⟩

theorem ownsMap_at {k : TypeId} {R : Value → Option (DataW Unit × List MemPlace)} {n : Nat} {D : DataW Unit} (h : w.ownsMap P k R b n D) (hb : w'.heap[b]? = w.heap[b]?) : w'.ownsMap P k R b n D := by
  obtain ⟨es, clock, h1, F, hs, hD⟩ := h
  exact ⟨es, clock, hb.trans h1, F, hs, hD⟩
theorem PMap.move (h : PMap P K w b f sz) (hb : w'.heap[b]? = w.heap[b]?) : PMap P K w' b f sz := by
  obtain ⟨n, D, ho, hz, hf⟩ := h
  exact ⟨n, D, ownsMap_at ho hb, hz, hf⟩
theorem PMap.lt (h : PMap P K w b f sz) : b < w.heap.size := by
  obtain ⟨n, D, ho, _⟩ := h
  exact ho.lt

theorem PMap.look (h : PMap P K w b f sz) (hK : P.underlying K = some .string) (hT : P.underlying T = some (.map K E)) (hz : ∀ w : World, (zeroValue E).run P w = .ok (.pointer none) w) {s : ByteArray} (hs : s.size ≤ maxLen) :
    (Instr.lookup T (.map (some b)) (.string s) false).run P w = .ok (ptrV (f s.data.toList)) w := by
  obtain ⟨n, D, ho, _, hf⟩ := h
  obtain ⟨v, ps, hrun, hR⟩ := ho.lookup (string_keyed hK) hT (hz w) ptrE_none (keyOf_string_mk hK hs)
  rw [(hf _).2] at hR
  rw [hrun, ptrE_inv hR]
theorem PMap.look_ok (h : PMap P K w b f sz) (hK : P.underlying K = some .string) (hT : P.underlying T = some (.map K E)) (hz : ∀ w : World, (zeroValue E).run P w = .ok (.pointer none) w) {s : ByteArray} (hs : s.size ≤ maxLen) :
    (Instr.lookup T (.map (some b)) (.string s) true).run P w = .ok (.tuple #[ptrV (f s.data.toList), .bool (f s.data.toList).isSome]) w := by
  obtain ⟨n, D, ho, _, hf⟩ := h
  obtain ⟨v, ps, hrun, hR⟩ := ho.look_ok (string_keyed hK) hT (hz w) ptrE_none (keyOf_string_mk hK hs)
  rw [(hf _).2] at hR
  rw [hrun, ptrE_inv hR, (hf _).1]

theorem PMap.len (h : PMap P K w b f sz) (hT : P.underlying T = some (.map K E)) (ty : TypeId) : (Builtin.len_ #[T] ty #[.map (some b)]).run P w = .ok (.int .i64 sz) w := by
  obtain ⟨n, D, ho, hz, _⟩ := h
  rw [ho.len hT ty, hz]

/-- as tight as it goes -/
theorem ownsMap_tight {k : TypeId} {R : Value → Option (DataW Unit × List MemPlace)} {n : Nat} {D : DataW Unit} (h : w.ownsMap P k R b n D) : w.ownsMap P k R b (Maps.size D) D := by
  obtain ⟨es, clock, h1, F, hs, rfl⟩ := h
  exact ⟨es, clock, h1, F, by simp [Maps.size, length_sorted], rfl⟩

/-- a store -/
theorem PMap.store (h : PMap P K w b f sz) (hK : P.underlying K = some .string) (hT : P.underlying T = some (.map K E)) {s : ByteArray} (hs : s.size ≤ maxLen) (hn : sz < maxLen) (g : Nat) :
    ∃ w1, (Instr.mapUpdate T (.map (some b)) (.string s) (.pointer (some ⟨g, 0, none⟩))).run P w = .ok () w1 ∧
      PMap P K w1 b (fun x => if x = s.data.toList then some g else f x) (if (f s.data.toList).isSome then sz else sz + 1) ∧ w.mapTurned w1 b := by
  obtain ⟨n, D, ho, hz, hf⟩ := h
  obtain ⟨w1, hrun, ho1, ht⟩ := (ownsMap_tight ho).store (string_keyed hK) hT (by rw [hz]; exact hn) (keyOf_string_mk hK hs) (ptrE_some g)
  refine ⟨w1, hrun, ⟨_, _, ho1, ?_, fun x => ?_⟩, ht⟩
  · rw [size_put (ho.tidy (string_keyed hK)), (hf _).1, hz]
  · by_cases e : x = s.data.toList
    · subst e
      simp only [if_true]
      exact ⟨has_put_same ho.isMap (by simp [WideAt.IsKeyLit]) _, atKey_put_same ho.isMap (by simp [WideAt.IsKeyLit]) _ _⟩
    · simp only [if_neg e]
      have e' : Lit.string x ≠ Lit.string s.data.toList := fun h => e (by injection h)
      rw [has_put_other e', atKey_put_other e']
      exact hf x

/-- a deletion -/
theorem PMap.drop (h : PMap P K w b f sz) (hK : P.underlying K = some .string) (hT : P.underlying T = some (.map K E)) {s : ByteArray} (hs : s.size ≤ maxLen) (ty : TypeId) :
    ∃ w1, (Builtin.delete_ #[T, K] ty #[.map (some b), .string s]).run P w = .ok (.tuple #[]) w1 ∧
      PMap P K w1 b (fun x => if x = s.data.toList then none else f x) (if (f s.data.toList).isSome then sz - 1 else sz) ∧ w.mapTurned w1 b := by
  obtain ⟨n, D, ho, hz, hf⟩ := h
  obtain ⟨w1, hrun, ho1, ht⟩ := ho.drop (string_keyed hK) hT (keyOf_string_mk hK hs) ty
  refine ⟨w1, hrun, ⟨_, _, ho1, ?_, fun x => ?_⟩, ht⟩
  · have h1 := size_del (k := .string s.data.toList) (ho.tidy (string_keyed hK))
    rw [(hf _).1, hz] at h1
    split
    · next e => rw [e] at h1; simp at h1; omega
    · next e => rw [if_neg e] at h1; omega
  · by_cases e : x = s.data.toList
    · subst e
      simp only [if_true]
      exact ⟨has_del_same, atKey_del_same _⟩
    · simp only [if_neg e]
      have e' : Lit.string x ≠ Lit.string s.data.toList := fun h => e (by injection h)
      rw [has_del_other e', atKey_del_other e']
      exact hf x

/-- the keys of a map, rising -/
def IsNames (f : List UInt8 → Option Nat) (L : List (List UInt8)) : Prop := L.Pairwise (· < ·) ∧ ∀ x, x ∈ L ↔ (f x).isSome = true

theorem lt_irrefl_bytes (x : List UInt8) : ¬ x < x := List.lt_irrefl x
theorem IsNames.nodup {L : List (List UInt8)} (h : IsNames f L) : L.Nodup := h.1.imp (fun {a b} hab e => by subst e; exact List.lt_irrefl _ hab)

theorem sorted_eq {L : List (List UInt8)} (h : L.Pairwise (· < ·)) : L.mergeSort leB = L := by
  refine List.mergeSort_of_pairwise (h.imp fun {a b} hab => ?_)
  simp only [leB, decide_eq_true_eq]
  exact List.le_of_lt hab

theorem IsNames.eq {L L' : List (List UInt8)} (h : IsNames f L) (h' : IsNames f L') : L = L' := by
  have hp : L.Perm L' := (List.perm_ext_iff_of_nodup h.nodup h'.nodup).2 fun x => by rw [h.2, h'.2]
  have := mergeSort_of_perm hp
  rwa [sorted_eq h.1, sorted_eq h'.1] at this

theorem strKeys_nodup {es : List (Lit × DataW Unit)} (hp : es.Pairwise (fun p q => p.1 ≠ q.1)) (hk : ∀ p ∈ es, ∃ x, p.1 = .string x) : (strKeys (.map es)).Nodup := by
  show (es.map fun p => strOf p.1).Nodup
  refine List.pairwise_map.2 (hp.imp_of_mem fun {p q} hp' hq' hne e => hne ?_)
  obtain ⟨a, ha⟩ := hk p hp'
  obtain ⟨b, hb⟩ := hk q hq'
  rw [ha, hb] at e ⊢
  exact congrArg _ e

/-- a map's keys -/
theorem owns_keys {n : Nat} {D : DataW Unit} (ho : w.ownsMap P K ptrE b n D) (hK : P.underlying K = some .string) (hf : ∀ x : List UInt8, has D (.string x) = (f x).isSome) :
    (strKeys D).Nodup ∧ ∀ x, x ∈ strKeys D ↔ (f x).isSome = true := by
  obtain ⟨es, hD, hpw, _⟩ := ho.entries (string_keyed hK)
  obtain ⟨es', hD', hko⟩ := ho.keysOf
  obtain rfl : es = es' := by rw [hD] at hD'; simpa using hD'
  subst hD
  have hk : ∀ p ∈ es, ∃ x, p.1 = .string x := fun p hp => by obtain ⟨v, hv⟩ := hko p hp; obtain ⟨x, _, hx, _⟩ := Maps.keyOf_str hK hv; exact ⟨x, hx⟩
  refine ⟨strKeys_nodup hpw hk, fun x => ?_⟩
  rw [← hf x, has_eq, List.any_eq_true]
  show x ∈ es.map (fun p => strOf p.1) ↔ _
  rw [List.mem_map]
  constructor
  · rintro ⟨p, hp, rfl⟩
    obtain ⟨a, ha⟩ := hk p hp
    exact ⟨p, hp, by rw [ha]; simp [Lit.sameKey, strOf]⟩
  · rintro ⟨p, hp, hs⟩
    obtain ⟨a, ha⟩ := hk p hp
    rw [ha] at hs
    exact ⟨p, hp, by rw [ha]; simpa [Lit.sameKey, strOf] using hs⟩

theorem PMap.names (h : PMap P K w b f sz) (hK : P.underlying K = some .string) : ∃ L, IsNames f L := by
  obtain ⟨n, D, ho, _, hf⟩ := h
  obtain ⟨hn, hm⟩ := owns_keys ho hK (fun x => (hf x).1)
  have tr : ∀ a b c : List UInt8, leB a b = true → leB b c = true → leB a c = true := fun a b c h1 h2 => by simp only [leB, decide_eq_true_eq] at *; exact List.le_trans h1 h2
  have to : ∀ a b : List UInt8, (leB a b || leB b a) = true := fun a b => by simp only [leB, Bool.or_eq_true, decide_eq_true_eq]; exact List.le_total a b
  refine ⟨(strKeys D).mergeSort leB, ?_, fun x => by rw [(List.mergeSort_perm _ _).mem_iff, hm]⟩
  have h1 := List.pairwise_mergeSort tr to (strKeys D)
  have h2 : ((strKeys D).mergeSort leB).Nodup := (List.mergeSort_perm _ _).nodup_iff.2 hn
  refine (h1.and h2).imp fun {a b} hab => ?_
  obtain ⟨hle, hne⟩ := hab
  simp only [leB, decide_eq_true_eq] at hle
  rcases List.le_iff_lt_or_eq.1 hle with h | h
  · exact h
  · exact absurd h hne

theorem PMap.size_names (h : PMap P K w b f sz) (hK : P.underlying K = some .string) {L : List (List UInt8)} (hL : IsNames f L) : L.length = sz := by
  obtain ⟨n, D, ho, hz, hf⟩ := h
  obtain ⟨hn, hm⟩ := owns_keys ho hK (fun x => (hf x).1)
  have hp : L.Perm (strKeys D) := (List.perm_ext_iff_of_nodup hL.nodup hn).2 fun x => by rw [hL.2, hm]
  rw [hp.length_eq, ← hz]
  obtain ⟨es, hD, _⟩ := ho.keysOf
  subst hD
  simp [strKeys, Maps.size]

theorem PMap.sorted (h : PMap P K w b f sz) (hK : P.underlying K = some .string) {L : List (List UInt8)} (hL : IsNames f L) {n : Nat} {D : DataW Unit} (ho : w.ownsMap P K ptrE b n D) (hf : ∀ x : List UInt8, has D (.string x) = (f x).isSome)
    {ss : List (List UInt8)} (hp : ss.Perm (strKeys D)) : ss.mergeSort (fun x y => decide (x ≤ y)) = L := by
  obtain ⟨hn, hm⟩ := owns_keys ho hK hf
  have hp2 : ss.Perm L := hp.trans ((List.perm_ext_iff_of_nodup hn hL.nodup).2 fun x => by rw [hL.2, hm])
  have := mergeSort_of_perm hp2
  rw [sorted_eq hL.1] at this
  exact this
end
end Go.Proofs.YtpaiadidgokjlaaGreat

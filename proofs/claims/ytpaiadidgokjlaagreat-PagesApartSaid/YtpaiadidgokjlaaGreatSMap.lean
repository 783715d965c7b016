/-
  Maps from numbers to slices as plain functions.
-/
import Derived.Test.YtpaiadidgokjlaaGreatMaps
import Derived.Maps.RangeWalk
import Derived.Lib.SlKeysI
namespace Go.Proofs.YtpaiadidgokjlaaGreat
open Go.RowKit Go.Maps
set_option linter.unusedVariables false

/-- a slice reads as the numbers that it is made of -/
def sliE (v : Value) : Option (DataW Unit × List MemPlace) :=
  match v with
  | .slice none n c => some (.agg [.lit (.int .i64 n), .lit (.int .i64 c)], [])
  | .slice (some ⟨b, o, none⟩) n c => some (.agg [.lit (.int .i64 b), .lit (.int .i64 o), .lit (.int .i64 n), .lit (.int .i64 c)], [])
  | _ => none
abbrev nilS : Value := .slice none 0 0
def z0 : DataW Unit := .agg [.lit (.int .i64 0), .lit (.int .i64 0)]
theorem sliE_nil : sliE nilS = some (z0, []) := rfl
theorem sliE_shape {v : Value} {y : DataW Unit × List MemPlace} (h : sliE v = some y) : y.2 = [] ∧ ((∃ n c, v = .slice none n c) ∨ ∃ b o n c, v = .slice (some ⟨b, o, none⟩) n c) := by
  unfold sliE at h
  split at h
  · obtain rfl := Option.some.inj h; exact ⟨rfl, .inl ⟨_, _, rfl⟩⟩
  · obtain rfl := Option.some.inj h; exact ⟨rfl, .inr ⟨_, _, _, _, rfl⟩⟩
  · cases h
theorem sliE_inj {v v' : Value} {y : DataW Unit} {p p' : List MemPlace} (h : sliE v = some (y, p)) (h' : sliE v' = some (y, p')) : v = v' := by
  rcases (sliE_shape h).2 with ⟨n, c, rfl⟩ | ⟨b, o, n, c, rfl⟩
  · rcases (sliE_shape h').2 with ⟨n', c', rfl⟩ | ⟨b', o', n', c', rfl⟩
    · simp only [sliE, Option.some.injEq, Prod.mk.injEq] at h h'
      have := h.1.trans h'.1.symm
      simp at this
      obtain ⟨h1, h2⟩ := this
      have e1 : n = n' := by omega
      have e2 : c = c' := by omega
      rw [e1, e2]
    · simp only [sliE, Option.some.injEq, Prod.mk.injEq] at h h'
      have := h.1.trans h'.1.symm
      simp at this
  · rcases (sliE_shape h').2 with ⟨n', c', rfl⟩ | ⟨b', o', n', c', rfl⟩
    · simp only [sliE, Option.some.injEq, Prod.mk.injEq] at h h'
      have := h.1.trans h'.1.symm
      simp at this
    · simp only [sliE, Option.some.injEq, Prod.mk.injEq] at h h'
      have := h.1.trans h'.1.symm
      simp at this
      obtain ⟨h1, h2, h3, h4⟩ := this
      have e1 : b = b' := by omega
      have e2 : o = o' := by omega
      have e3 : n = n' := by omega
      have e4 : c = c' := by omega
      rw [e1, e2, e3, e4]
/-- what a slice reads as -/
def dat (v : Value) : DataW Unit := ((sliE v).map (·.1)).getD z0
theorem sliE_dat {v : Value} (h : (sliE v).isSome = true) : sliE v = some (dat v, []) := by
  obtain ⟨y, hy⟩ := Option.isSome_iff_exists.1 h
  have := (sliE_shape hy).1
  unfold dat
  rw [hy]
  cases y; simp_all

/-- block b is a map from numbers to slices -/
def SMap (P : Program) (K : TypeId) (w : World) (b : Nat) (f : Int → Option Value) (sz : Nat) : Prop :=
  (∃ n D, w.ownsMap P K sliE b n D ∧ Maps.size D = sz ∧ ∀ x : Int, (Lit.int .i64 x).wf = true → has D (.int .i64 x) = (f x).isSome ∧ D.atKey (.int .i64 x) z0 = dat ((f x).getD nilS)) ∧
  ∀ x v, f x = some v → (Lit.int .i64 x).wf = true ∧ (sliE v).isSome = true
section
variable {P : Program} {K E T : TypeId} {w w' : World} {b sz : Nat} {f : Int → Option Value}
theorem SMap.made (P : Program) (K : TypeId) (w : World) : SMap P K (w.alloc (.map #[] 0)) w.heap.size (fun _ => none) 0 :=
  ⟨⟨0, .map [], World.ownsMap_made _ _ _ _, rfl, fun x _ => ⟨rfl, rfl⟩⟩, fun _ _ h => by cases h⟩
theorem SMap.move (h : SMap P K w b f sz) (hb : w'.heap[b]? = w.heap[b]?) : SMap P K w' b f sz := by
  obtain ⟨⟨n, D, ho, hz, hf⟩, hw⟩ := h
  exact ⟨⟨n, D, ownsMap_at ho hb, hz, hf⟩, hw⟩
theorem SMap.lt (h : SMap P K w b f sz) : b < w.heap.size := by
  obtain ⟨⟨n, D, ho, _⟩, _⟩ := h
  exact ho.lt
theorem SMap.isS (h : SMap P K w b f sz) (x : Int) : (sliE ((f x).getD nilS)).isSome = true := by
  cases hx : f x with
  | none => rfl
  | some v => exact (h.2 x v hx).2
theorem SMap.look (h : SMap P K w b f sz) (hK : P.underlying K = some (.int .i64)) (hT : P.underlying T = some (.map K E)) (hz : ∀ w : World, (zeroValue E).run P w = .ok nilS w) {x : Int} (hx : (Lit.int .i64 x).wf = true) :
    (Instr.lookup T (.map (some b)) (.int .i64 x) false).run P w = .ok ((f x).getD nilS) w := by
  have hs := h.isS x
  obtain ⟨⟨n, D, ho, _, hf⟩, _⟩ := h
  obtain ⟨v, ps, hrun, hR⟩ := ho.lookup (int_keyed hK) hT (hz w) sliE_nil (keyOf_int_mk hK hx)
  rw [(hf _ hx).2] at hR
  rw [hrun, sliE_inj hR (sliE_dat hs)]
theorem SMap.look_ok (h : SMap P K w b f sz) (hK : P.underlying K = some (.int .i64)) (hT : P.underlying T = some (.map K E)) (hz : ∀ w : World, (zeroValue E).run P w = .ok nilS w) {x : Int} (hx : (Lit.int .i64 x).wf = true) :
    (Instr.lookup T (.map (some b)) (.int .i64 x) true).run P w = .ok (.tuple #[(f x).getD nilS, .bool (f x).isSome]) w := by
  have hs := h.isS x
  obtain ⟨⟨n, D, ho, _, hf⟩, _⟩ := h
  obtain ⟨v, ps, hrun, hR⟩ := ho.look_ok (int_keyed hK) hT (hz w) sliE_nil (keyOf_int_mk hK hx)
  rw [(hf _ hx).2] at hR
  rw [hrun, sliE_inj hR (sliE_dat hs), (hf _ hx).1]
theorem SMap.len (h : SMap P K w b f sz) (hT : P.underlying T = some (.map K E)) (ty : TypeId) : (Builtin.len_ #[T] ty #[.map (some b)]).run P w = .ok (.int .i64 sz) w := by
  obtain ⟨⟨n, D, ho, hz, hf⟩, _⟩ := h
  rw [ho.len hT ty, hz]
/-- a store -/
theorem SMap.store (h : SMap P K w b f sz) (hK : P.underlying K = some (.int .i64)) (hT : P.underlying T = some (.map K E)) {x : Int} (hx : (Lit.int .i64 x).wf = true) (hn : sz < maxLen) {v : Value} (hv : (sliE v).isSome = true) :
    ∃ w1, (Instr.mapUpdate T (.map (some b)) (.int .i64 x) v).run P w = .ok () w1 ∧
      SMap P K w1 b (fun y => if y = x then some v else f y) (if (f x).isSome then sz else sz + 1) ∧ w.mapTurned w1 b := by
  obtain ⟨⟨n, D, ho, hz, hf⟩, hw⟩ := h
  obtain ⟨w1, hrun, ho1, ht⟩ := (ownsMap_tight ho).store (int_keyed hK) hT (by rw [hz]; exact hn) (keyOf_int_mk hK hx) (sliE_dat hv)
  refine ⟨w1, hrun, ⟨⟨_, _, ho1, ?_, fun y hy => ?_⟩, fun y u hu => ?_⟩, ht⟩
  · rw [size_put (ho.tidy (int_keyed hK)), (hf _ hx).1, hz]
  · by_cases e : y = x
    · subst e
      simp only [if_true]
      exact ⟨has_put_same ho.isMap (by simp [WideAt.IsKeyLit]) _, atKey_put_same ho.isMap (by simp [WideAt.IsKeyLit]) _ _⟩
    · simp only [if_neg e]
      have e' : Lit.int .i64 y ≠ Lit.int .i64 x := fun h => e (by injection h)
      rw [has_put_other e', atKey_put_other e']
      exact hf y hy
  · by_cases e : y = x
    · subst e
      simp only [if_true] at hu
      obtain rfl := Option.some.inj hu
      exact ⟨hx, hv⟩
    · simp only [if_neg e] at hu
      exact hw y u hu
/-- the keys, rising -/
def IsInts (f : Int → Option Value) (L : List Int) : Prop := L.Pairwise (· < ·) ∧ ∀ x, x ∈ L ↔ (f x).isSome = true
theorem IsInts.nodup {L : List Int} (h : IsInts f L) : L.Nodup := h.1.imp (fun {a b} hab e => by subst e; exact Int.lt_irrefl _ hab)
theorem sortedI_eq {L : List Int} (h : L.Pairwise (· < ·)) : L.mergeSort leI = L := by
  refine List.mergeSort_of_pairwise (h.imp fun {a b} hab => ?_)
  simp only [leI, decide_eq_true_eq]
  exact Int.le_of_lt hab
theorem IsInts.eq {L L' : List Int} (h : IsInts f L) (h' : IsInts f L') : L = L' := by
  have hp : L.Perm L' := (List.perm_ext_iff_of_nodup h.nodup h'.nodup).2 fun x => by rw [h.2, h'.2]
  have := mergeSort_of_perm_i hp
  rwa [sortedI_eq h.1, sortedI_eq h'.1] at this
theorem has_wf {n : Nat} {D : DataW Unit} (ho : w.ownsMap P K sliE b n D) (hK : P.underlying K = some (.int .i64)) {x : Int} (hx : has D (.int .i64 x) = true) : (Lit.int .i64 x).wf = true := by
  obtain ⟨es, hD, hko⟩ := ho.keysOf
  subst hD
  rw [has_eq, List.any_eq_true] at hx
  obtain ⟨p, hp, hs⟩ := hx
  obtain ⟨v, hv⟩ := hko p hp
  obtain ⟨a, _, ha, hw⟩ := Maps.keyOf_i64 hK hv
  rw [ha] at hs
  have : a = x := by simpa [Lit.sameKey] using hs
  rw [← this]; exact hw
/-- whatever holds the keys once is a permutation of them -/
theorem SMap.perm (h : SMap P K w b f sz) (hK : P.underlying K = some (.int .i64)) {n : Nat} {D : DataW Unit} (ho : w.ownsMap P K sliE b n D) (hf : ∀ x : Int, (Lit.int .i64 x).wf = true → has D (.int .i64 x) = (f x).isSome) {L : List Int} (hL : IsInts f L) : L.Perm (intKeys D) := by
  obtain ⟨es, hD, hpw, _⟩ := ho.entries (int_keyed hK)
  obtain ⟨es', hD', hko⟩ := ho.keysOf
  obtain rfl : es = es' := by rw [hD] at hD'; simpa using hD'
  have hD2 := hD
  subst hD
  have hk : ∀ p ∈ es, ∃ x, p.1 = .int .i64 x := fun p hp => by obtain ⟨v, hv⟩ := hko p hp; obtain ⟨x, _, hx, _⟩ := Maps.keyOf_i64 hK hv; exact ⟨x, hx⟩
  refine perm_intKeys hpw hk hL.nodup (fun x => ?_)
  rw [hL.2]
  constructor
  · intro hx
    obtain ⟨v, hv⟩ := Option.isSome_iff_exists.1 hx
    rw [hf x (h.2 x v hv).1]; exact hx
  · intro hx
    rw [← hf x (has_wf ho hK hx)]; exact hx
theorem SMap.keys (h : SMap P K w b f sz) (hK : P.underlying K = some (.int .i64)) : ∃ L, IsInts f L := by
  obtain ⟨⟨n, D, ho, _, hf⟩, hw⟩ := h
  obtain ⟨es, hD, hpw, _⟩ := ho.entries (int_keyed hK)
  obtain ⟨es', hD', hko⟩ := ho.keysOf
  obtain rfl : es = es' := by rw [hD] at hD'; simpa using hD'
  have hk : ∀ p ∈ es, ∃ x, p.1 = .int .i64 x := fun p hp => by obtain ⟨v, hv⟩ := hko p hp; obtain ⟨x, _, hx, _⟩ := Maps.keyOf_i64 hK hv; exact ⟨x, hx⟩
  have hnd : (intKeys D).Nodup := by
    rw [hD]
    show (es.map fun p => Go.intOf p.1).Nodup
    refine List.pairwise_map.2 (hpw.imp_of_mem fun {p q} hp' hq' hne e => hne ?_)
    obtain ⟨a, ha⟩ := hk p hp'
    obtain ⟨b, hb⟩ := hk q hq'
    rw [ha, hb] at e ⊢
    exact congrArg _ e
  have hm : ∀ x, x ∈ intKeys D ↔ has D (.int .i64 x) = true := fun x => by
    rw [hD, has_eq, List.any_eq_true]
    show x ∈ (es.map fun p => Go.intOf p.1) ↔ _
    rw [List.mem_map]
    constructor
    · rintro ⟨p, hp', rfl⟩
      obtain ⟨a, ha⟩ := hk p hp'
      exact ⟨p, hp', by rw [ha]; simp [Lit.sameKey, Go.intOf]⟩
    · rintro ⟨p, hp', hs⟩
      obtain ⟨a, ha⟩ := hk p hp'
      rw [ha] at hs
      exact ⟨p, hp', by rw [ha]; simpa [Lit.sameKey, Go.intOf] using hs⟩
  have tr : ∀ a b c : Int, leI a b = true → leI b c = true → leI a c = true := fun a b c h1 h2 => by simp only [leI, decide_eq_true_eq] at *; omega
  have to : ∀ a b : Int, (leI a b || leI b a) = true := fun a b => by simp only [leI, Bool.or_eq_true, decide_eq_true_eq]; omega
  refine ⟨(intKeys D).mergeSort leI, ?_, fun x => ?_⟩
  · have h1 := List.pairwise_mergeSort tr to (intKeys D)
    have h2 : ((intKeys D).mergeSort leI).Nodup := (List.mergeSort_perm _ _).nodup_iff.2 hnd
    refine (h1.and h2).imp fun {a b} hab => ?_
    obtain ⟨hle, hne⟩ := hab
    simp only [leI, decide_eq_true_eq] at hle
    omega
  · rw [(List.mergeSort_perm _ _).mem_iff, hm]
    constructor
    · intro hx; rw [← (hf x (has_wf ho hK hx)).1]; exact hx
    · intro hx
      obtain ⟨v, hv⟩ := Option.isSome_iff_exists.1 hx
      rw [(hf x (hw x v hv).1).1]; exact hx
theorem SMap.size_keys (h : SMap P K w b f sz) (hK : P.underlying K = some (.int .i64)) {L : List Int} (hL : IsInts f L) : L.length = sz := by
  have h0 := h
  obtain ⟨⟨n, D, ho, hz, hf⟩, hw⟩ := h
  rw [(h0.perm hK ho (fun x hx => (hf x hx).1) hL).length_eq, ← hz]
  obtain ⟨es, hD, _⟩ := ho.keysOf
  subst hD
  simp [intKeys, Maps.size]
theorem SMap.sorted (h : SMap P K w b f sz) (hK : P.underlying K = some (.int .i64)) {L : List Int} (hL : IsInts f L) {n : Nat} {D : DataW Unit} (ho : w.ownsMap P K sliE b n D) (hf : ∀ x : Int, (Lit.int .i64 x).wf = true → has D (.int .i64 x) = (f x).isSome)
    {ss : List Int} (hp : ss.Perm (intKeys D)) : ss.mergeSort (fun x y => decide (x ≤ y)) = L := by
  have hp2 : ss.Perm L := hp.trans (h.perm hK ho hf hL).symm
  have := mergeSort_of_perm_i hp2
  rwa [sortedI_eq hL.1] at this
end
end Go.Proofs.YtpaiadidgokjlaaGreat

/-
  Logs: blocks one behind the other, what lies over the base.
-/
import Derived.Test.YtmdpgjdepflbmaaGreatCJ
import Derived.Test.YtmdpgjdepflbmaaGreatCKeys
import Derived.Lib.SlMapMerge
import Derived.ScopeJumps
import Derived.Test.YtmdpgjdepflbmaaGreatCPPagerFoldsx3
namespace Go.Proofs.YtmdpgjdepflbmaaGreat
open Go.RowKit Go.Maps Go.Proofs.YtmdpgjdepflbmaaGreatW.PrintWords Go.Proofs.YtmdpgjdepflbmaaGreatW.PrintLast Go.Proofs.YtmdpgjdepflbmaaGreatW.PrintMore
open Go.Proofs.YtmdpgjdepflbmaaGreat.PPagerFolds
set_option linter.unusedVariables false
set_option linter.unusedSimpArgs false

/-- a block: a count of pages, pages, their numbers -/
structure BK where
  cnt : Nat
  pg : Own
  L : List Int
structure BKok (B : BK) : Prop where
  keys : KeysOf B.pg B.L
  ok : ∀ n ∈ B.L, 0 ≤ n ∧ n < 4096 ∧ ((B.pg n).getD []).length = 512
  cnt : B.cnt ≤ 4096
def tailB (B : BK) : Bytes := put4 B.cnt ++ (put4 B.L.length ++ B.L.flatMap (ent B.pg))
def bytes1 (B : BK) : Bytes := 1 :: tailB B
theorem BKok.few {B : BK} (h : BKok B) : B.L.length ≤ 4096 := by
  have := range_length B.L 0 4096 (by omega) h.keys.1 (fun x hx => by obtain ⟨a, b, _⟩ := h.ok x hx; exact ⟨a, b⟩)
  omega
theorem tailB_length {B : BK} (h : BKok B) : (tailB B).length = 8 + B.L.length * 516 := by
  unfold tailB
  simp only [List.length_append, put4_length, ents_length (fun n hn => (h.ok n hn).2.2)]
  omega
theorem bytes1_length {B : BK} (h : BKok B) : (bytes1 B).length = 9 + B.L.length * 516 := by
  unfold bytes1
  rw [List.length_cons, tailB_length h]
  omega
def logB (bs : List BK) : Bytes := bs.flatMap bytes1
theorem logB_snoc (bs : List BK) (B : BK) : logB (bs ++ [B]) = logB bs ++ bytes1 B := by
  unfold logB; rw [List.flatMap_append]; simp
/-- no block begins with it -/
def Stop (r : Bytes) : Prop := r.length < 9 ∨ r.getD 0 0 ≠ 1
def laid (U V : Own) : Own := fun x => (V x).or (U x)
def unionB (bs : List BK) : Own := bs.foldl (fun U B => laid U B.pg) (fun _ => none)
def cntB (bs : List BK) : Int := match bs.getLast? with
  | some B => B.cnt
  | none => -1
theorem unionB_snoc (bs : List BK) (B : BK) : unionB (bs ++ [B]) = laid (unionB bs) B.pg := by
  unfold unionB; rw [List.foldl_append]; rfl
theorem cntB_snoc (bs : List BK) (B : BK) : cntB (bs ++ [B]) = B.cnt := by
  unfold cntB; simp
end Go.Proofs.YtmdpgjdepflbmaaGreat
namespace Go.Proofs.YtmdpgjdepflbmaaGreat
open Go.RowKit Go.Maps Go.Proofs.YtmdpgjdepflbmaaGreatW.PrintWords Go.Proofs.YtmdpgjdepflbmaaGreatW.PrintLast Go.Proofs.YtmdpgjdepflbmaaGreatW.PrintMore
open Go.Proofs.YtmdpgjdepflbmaaGreat.PPagerFolds
set_option linter.unusedVariables false
set_option linter.unusedSimpArgs false

theorem merge_reads {w : World} {b n : Nat} {Ds : DataW Unit} (hs : w.ownsMap Tryz.prog 3 sliE b n Ds) {Dd : DataW Unit} (hd : IsMap Dd) (k : Lit) :
    has (Lib.mergeD Dd Ds) k = (has Ds k || has Dd k) ∧ ∀ z, (Lib.mergeD Dd Ds).atKey k z = if has Ds k = true then Ds.atKey k z else Dd.atKey k z := by
  obtain ⟨es, rfl, hpw, hkl⟩ := hs.entries (int_keyed Tryz.underlying3)
  have klit : ∀ p ∈ es, WideAt.IsKeyLit p.1 := by
    obtain ⟨es', hD', hko⟩ := hs.keysOf
    obtain rfl : es = es' := by simpa using hD'
    intro p hp
    obtain ⟨v, hv⟩ := hko p hp
    obtain ⟨x, _, hx, _⟩ := Maps.keyOf_i64 Tryz.underlying3 hv
    rw [hx]
    simp [WideAt.IsKeyLit]
  refine ⟨?_, fun z => ?_⟩
  · show has (es.foldl (fun D p => D.put p.1 p.2) Dd) k = _
    rw [has_foldPut k es Dd hd klit, has_eq (k := k), Bool.or_comm]
  · show (es.foldl (fun D p => D.put p.1 p.2) Dd).atKey k z = _
    rw [atKey_foldPut k z es Dd hd klit hpw]
    cases hf : es.find? (fun p => p.1.sameKey k) with
    | none =>
      have h0 : has (.map es) k = false := by
        rw [has_eq]
        exact List.any_eq_false.2 (fun p hp => by simpa using List.find?_eq_none.1 hf p hp)
      simp [h0]
    | some p =>
      have h1 : has (.map es) k = true := by
        rw [has_eq]
        exact List.any_eq_true.2 ⟨p, List.mem_of_find?_eq_some hf, List.find?_some (p := fun (q : Lit × DataW Unit) => q.1.sameKey k) hf⟩
      have h2 : (DataW.map es).atKey k z = p.2 := by
        unfold DataW.atKey
        simp only [hf]
      simp [h1, h2]

theorem SMap.merge {w : World} {b1 b2 s1 s2 : Nat} {f1 f2 : Int → Option Value} (h1 : SMap Tryz.prog 3 w b1 f1 s1) (h2 : SMap Tryz.prog 3 w b2 f2 s2) (hne : b1 ≠ b2) (hr : s1 + s2 ≤ 100000) :
    Calls Tryz.prog 110 #[.map (some b1), .map (some b2)] w fun e w' => e = .returned (.tuple #[]) ∧ (∃ sz, SMap Tryz.prog 3 w' b1 (fun x => (f2 x).or (f1 x)) sz) ∧ w.grownBy w' (some b1) := by
  obtain ⟨⟨n1, D1, ho1, hz1, hf1⟩, hw1⟩ := h1
  obtain ⟨⟨n2, D2, ho2, hz2, hf2⟩, hw2⟩ := h2
  refine (AnyX.maps_Copy Tryz.copyM (int_keyed Tryz.underlying3) sliE b1 b2 _ _ D1 D2 w (ownsMap_tight ho1) (ownsMap_tight ho2) hne (by rw [hz1, hz2]; unfold maxLen; omega)).mono ?_
  rintro e w' ⟨rfl, hm, _, hg⟩
  refine ⟨rfl, ⟨_, ⟨⟨_, _, hm, rfl, fun x hx => ?_⟩, fun x v hv => ?_⟩⟩, hg⟩
  · have hr := merge_reads ho2 ho1.isMap (.int .i64 x)
    rw [hr.1, hr.2 z0, (hf1 x hx).1, (hf2 x hx).1, (hf1 x hx).2, (hf2 x hx).2]
    cases e2 : f2 x with
    | none => simp [e2]
    | some v => simp [e2]
  · cases e2 : f2 x with
    | none => exact hw1 x v (by simpa [e2] using hv)
    | some u => exact hw2 x v (by simpa [e2] using hv)

theorem PgM.merge {w : World} {b1 b2 s1 s2 : Nat} {f1 f2 : Int → Option Value} {U V : Own} {Q1 Q2 : Nat → Prop} (h1 : PgM w b1 f1 s1 U Q1) (h2 : PgM w b2 f2 s2 V Q2) (hne : b1 ≠ b2) (hq1 : ¬ Q1 b1) (hq2 : ¬ Q2 b1) :
    Calls Tryz.prog 110 #[.map (some b1), .map (some b2)] w fun e w' => e = .returned (.tuple #[]) ∧ (∃ f sz, PgM w' b1 f sz (fun x => (V x).or (U x)) (fun k => Q1 k ∨ Q2 k)) ∧ w.grownBy w' (some b1) := by
  refine (h1.map.merge h2.map hne (by have := h1.few; have := h2.few; omega)).mono ?_
  rintro e w' ⟨rfl, ⟨sz, hm⟩, hg⟩
  have hs := hg.size
  refine ⟨rfl, ⟨_, sz, hm, fun x hx => ?_, fun x v hx => ?_⟩, hg⟩
  · cases e2 : f2 x with
    | none =>
      rw [h2.none_ x e2]
      rw [e2] at hx
      simpa using h1.none_ x (by simpa using hx)
    | some u => rw [e2] at hx; simp at hx
  · cases e2 : f2 x with
    | none =>
      rw [e2] at hx
      obtain ⟨ad, c, bs, e1, hc, hC, hq, hl, hp, r⟩ := h1.some_ x v (by simpa using hx)
      exact ⟨ad, c, bs, e1, hc, C_at hC (hg.block _ hl (fun e' => hq1 (by injection e' with e'; rw [← e']; exact hq))), .inl hq, by omega, by rw [h2.none_ x e2]; simpa using hp, r⟩
    | some u =>
      rw [e2] at hx
      obtain ⟨ad, c, bs, e1, hc, hC, hq, hl, hp, r⟩ := h2.some_ x v (by simpa [e2] using hx)
      exact ⟨ad, c, bs, e1, hc, C_at hC (hg.block _ hl (fun e' => hq2 (by injection e' with e'; rw [← e']; exact hq))), .inr hq, by omega, by rw [hp]; rfl, r⟩
end Go.Proofs.YtmdpgjdepflbmaaGreat
namespace Go.Proofs.YtmdpgjdepflbmaaGreat
open Go.RowKit Go.Maps Go.Proofs.YtmdpgjdepflbmaaGreatW.PrintWords Go.Proofs.YtmdpgjdepflbmaaGreatW.PrintLast Go.Proofs.YtmdpgjdepflbmaaGreatW.PrintMore
open Go.Proofs.YtmdpgjdepflbmaaGreat.PPagerFolds
set_option linter.unusedVariables false
set_option linter.unusedSimpArgs false

theorem scope_back {P : Program} {a : Act} {w : World} {Q : Exit → Act → World → Prop} {c rest : Code} (l : Nat) (J : Act → World → Prop) (μ : Act → World → Nat) (hf : findLabel c l = some (Code.skip.seq rest))
    (pass : ∀ a w, J a w → rest.wp P (Exit.jump l (fun a' w' => J a' w' ∧ μ a' w' < μ a w) Q) a w)
    (first : (∀ a w, J a w → rest.wp P (Exit.jump l J Q) a w) → c.wp P (Exit.jump l J Q) a w) : (Code.scope c).wp P Q a w := by
  refine wp_scope_jumps l J μ hf (first fun a w hJ => wp_mono (pass a w hJ) fun e a' w' q => ?_) (fun a w hJ => wp_seq (wp_skip (pass a w hJ)))
  cases e with
  | goto l' => exact ⟨q.1, q.2.1⟩
  | _ => exact q
theorem lit55 {a : Act} (hd : a.defers = []) (hs : a.tmps.size = 55) : ∃ u : Nat → Value, (∀ i, u i = a.tmps.getD i undef) ∧ a = { tmps := #[u 0, u 1, u 2, u 3, u 4, u 5, u 6, u 7, u 8, u 9, u 10, u 11, u 12, u 13, u 14, u 15, u 16, u 17, u 18, u 19, u 20, u 21, u 22, u 23, u 24, u 25, u 26, u 27, u 28, u 29, u 30, u 31, u 32, u 33, u 34, u 35, u 36, u 37, u 38, u 39, u 40, u 41, u 42, u 43, u 44, u 45, u 46, u 47, u 48, u 49, u 50, u 51, u 52, u 53, u 54], defers := [] } := by
  refine ⟨fun i => a.tmps.getD i undef, fun i => rfl, ?_⟩
  obtain ⟨t, d⟩ := a
  subst hd
  congr 1
  have : t = ((List.range 55).map (fun i => t.getD i undef)).toArray := by
    apply Array.ext
    · simpa using hs
    · intro i h1 h2
      simp [Array.getD, h1]
  exact this
/-! ### number -/
theorem or_nat (a b k : Nat) (hb : b < 2 ^ k) (hs : a * 2 ^ k + b < 4611686018427387904) : Go.bits .or .i64 ((a * 2 ^ k : Nat) : Int) (b : Int) = ((a * 2 ^ k + b : Nat) : Int) := by
  have e1 : (BitVec.ofInt 64 ((a * 2 ^ k : Nat) : Int)).toNat = a * 2 ^ k := by
    rw [BitVec.ofInt_natCast, BitVec.toNat_ofNat, Nat.mod_eq_of_lt (by omega)]
  have e2 : (BitVec.ofInt 64 (b : Int)).toNat = b := by
    rw [BitVec.ofInt_natCast, BitVec.toNat_ofNat, Nat.mod_eq_of_lt (by omega)]
  have e3 : a * 2 ^ k ||| b = a * 2 ^ k + b := by
    have := Nat.shiftLeft_add_eq_or_of_lt (i := k) hb a
    rw [Nat.shiftLeft_eq] at this
    exact this.symm
  show IntKind.i64.wrap (((BitVec.ofInt 64 ((a * 2 ^ k : Nat) : Int) ||| BitVec.ofInt 64 (b : Int)).toNat : Nat) : Int) = _
  rw [BitVec.toNat_or, e1, e2, e3]
  rw [IntKind.wrap_i64]
  have h0 : ((a * 2 ^ k + b : Nat) : Int) < 4611686018427387904 := by omega
  have h1 : 0 ≤ ((a * 2 ^ k + b : Nat) : Int) := Int.natCast_nonneg _
  generalize ((a * 2 ^ k + b : Nat) : Int) = z at h0 h1 ⊢
  clear e1 e2 e3 hs hb
  omega
set_option maxRecDepth 100000 in
theorem number_4 (a b c d : Nat) (ha : a < 256) (hb : b < 256) (hc : c < 256) (hd : d < 256) :
    Go.bits .or .i64 (Go.bits .or .i64 (Go.bits .or .i64 (wrap64 ((wrap64 (a : Int)) * 16777216)) (wrap64 ((wrap64 (b : Int)) * 65536))) (wrap64 ((wrap64 (c : Int)) * 256))) (wrap64 (d : Int)) = ((a * 16777216 + b * 65536 + c * 256 + d : Nat) : Int) := by
  have k1 : a * 16777216 + b * 65536 = (a * 256 + b) * 65536 := by clear ha hb hc hd; omega
  have k2 : (a * 256 + b) * 65536 + c * 256 = (a * 65536 + b * 256 + c) * 256 := by simp only [Nat.add_mul, Nat.mul_assoc, Nat.reduceMul]
  have k3 : (a * 65536 + b * 256 + c) * 256 + d = a * 16777216 + b * 65536 + c * 256 + d := by clear ha hb hc hd; omega
  have e0 : wrap64 (wrap64 (a : Int) * 16777216) = ((a * 16777216 : Nat) : Int) := by unfold wrap64; omega
  have e1 : wrap64 (wrap64 (b : Int) * 65536) = ((b * 65536 : Nat) : Int) := by unfold wrap64; omega
  have e2 : wrap64 (wrap64 (c : Int) * 256) = ((c * 256 : Nat) : Int) := by unfold wrap64; omega
  have e3 : wrap64 (d : Int) = ((d : Nat) : Int) := by unfold wrap64; omega
  have p24 : (2 : Nat) ^ 24 = 16777216 := by decide
  have p16 : (2 : Nat) ^ 16 = 65536 := by decide
  have p8 : (2 : Nat) ^ 8 = 256 := by decide
  have h1 := or_nat a (b * 65536) 24 (by omega) (by omega)
  have h2 := or_nat (a * 256 + b) (c * 256) 16 (by omega) (by omega)
  have h3 := or_nat (a * 65536 + b * 256 + c) d 8 (by omega) (by omega)
  with_reducible rw [p24] at h1
  with_reducible rw [p16] at h2
  with_reducible rw [p8] at h3
  with_reducible rw [k1] at h1
  with_reducible rw [k2] at h2
  with_reducible rw [k3] at h3
  with_reducible rw [e0, e1, e2, e3, h1, h2, h3]
theorem rd4 (a b c d : Int) (r : Bytes) : rd ([a, b, c, d] ++ r) 0 = a ∧ rd ([a, b, c, d] ++ r) 1 = b ∧ rd ([a, b, c, d] ++ r) 2 = c ∧ rd ([a, b, c, d] ++ r) 3 = d := ⟨rfl, rfl, rfl, rfl⟩
theorem cast_4 (n : Nat) : (n : Int) / 16777216 % 256 = ((n / 16777216 % 256 : Nat) : Int) ∧ (n : Int) / 65536 % 256 = ((n / 65536 % 256 : Nat) : Int) ∧ (n : Int) / 256 % 256 = ((n / 256 % 256 : Nat) : Int) ∧ (n : Int) % 256 = ((n % 256 : Nat) : Int) := by
  refine ⟨?_, ?_, ?_, ?_⟩ <;> omega
theorem number_l (a b c d : Int) (r : Bytes) : pager_number.f ([a, b, c, d] ++ r) = some (Go.bits .or .i64 (Go.bits .or .i64 (Go.bits .or .i64 (wrap64 ((wrap64 a) * 16777216)) (wrap64 ((wrap64 b) * 65536))) (wrap64 ((wrap64 c) * 256))) (wrap64 d)) := by
  have hl : ([a, b, c, d] ++ r).length = 4 + r.length := by rw [List.length_append]; rfl
  obtain ⟨r0, r1, r2, r3⟩ := rd4 a b c d r
  unfold pager_number.f
  with_reducible rw [if_pos (by omega), if_pos (by omega), if_pos (by omega), if_pos (by omega), r0, r1, r2, r3]
theorem number_f (n : Nat) (h : n < 4294967296) (r : Bytes) : pager_number.f (put4 n ++ r) = some (n : Int) := by
  obtain ⟨r0, r1, r2, r3⟩ := cast_4 n
  have hn : n / 16777216 % 256 * 16777216 + n / 65536 % 256 * 65536 + n / 256 % 256 * 256 + n % 256 = n := by clear r0 r1 r2 r3; omega
  have h4 := number_4 (n / 16777216 % 256) (n / 65536 % 256) (n / 256 % 256) (n % 256) (Nat.mod_lt _ (by decide)) (Nat.mod_lt _ (by decide)) (Nat.mod_lt _ (by decide)) (Nat.mod_lt _ (by decide))
  unfold put4
  with_reducible rw [number_l, r0, r1, r2, r3, h4, hn]
theorem number_any {w : World} {A : Option Addr} {m c : Nat} (n : Nat) (r : Bytes) (hn : n < 4294967296) (hC : U8.C w A m (put4 n ++ r)) (hc : m ≤ c) :
    Calls Tryz.prog 129 #[.slice A m c] w fun e w' => e = .returned (.int .i64 n) ∧ ∃ j, w' = w.drewN j := by
  obtain rfl : (put4 (n : Int) ++ r).length = m := hC.1
  refine (pager_number.calls A c _ _ w hC hc (number_f n hn r)).mono ?_
  rintro e w' ⟨rfl, ⟨j, rfl⟩⟩
  exact ⟨rfl, j, rfl⟩

/-! ### parts of a row -/
section
variable {w : World} {g o c n : Nat} {l : Bytes}
theorem run_from (k : Nat) (h1 : k ≤ n) (hc : n ≤ c) (hk : k < c) (W : World) :
    (Instr.slice 48 (.slice (some ⟨g, o, none⟩) n c) (some (.int .i64 k)) none none).run Tryz.prog W = .ok (.slice (some ⟨g, o + k, none⟩) (n - k) (c - k)) W := by
  obtain ⟨i5, hi, hz⟩ := Option.map_eq_some_iff.1 info5
  simp only [Prod.mk.injEq] at hz
  have := cut_from (P := Tryz.prog) 48 5 .i64 Tryz.underlying48 hi 1 hz.2.1 (some ⟨g, o, none⟩) n c k (by omega) (by omega) W
  rw [this, Int.toNat_natCast, if_neg (by omega)]
  have e : ((⟨g, o, none⟩ : Addr).add (k * 1)) = ⟨g, o + k, none⟩ := by
    unfold Addr.add
    split
    · rename_i h; simp at h; subst h; simp
    · simp
  simp only [Option.map_some, e]
theorem run_mid (k m : Nat) (h1 : k ≤ m) (h2 : m ≤ n) (hc : n ≤ c) (hk : k < c) (W : World) :
    (Instr.slice 48 (.slice (some ⟨g, o, none⟩) n c) (some (.int .i64 k)) (some (.int .i64 m)) none).run Tryz.prog W = .ok (.slice (some ⟨g, o + k, none⟩) (m - k) (c - k)) W := by
  obtain ⟨i5, hi, hz⟩ := Option.map_eq_some_iff.1 info5
  simp only [Prod.mk.injEq] at hz
  have := cut_mid (P := Tryz.prog) 48 5 .i64 .i64 Tryz.underlying48 hi 1 hz.2.1 (some ⟨g, o, none⟩) n c k m (by omega) (by omega) (by omega) hc W
  rw [this, Int.toNat_natCast, Int.toNat_natCast, if_neg (by omega)]
  have e : ((⟨g, o, none⟩ : Addr).add (k * 1)) = ⟨g, o + k, none⟩ := by
    unfold Addr.add
    split
    · rename_i h; simp at h; subst h; simp
    · simp
  simp only [Option.map_some, e]
theorem C_from (hC : U8.C w (some ⟨g, o, none⟩) n l) (k : Nat) (hk : k < n) : U8.C w (some ⟨g, o + k, none⟩) (n - k) (l.drop k) := by
  have hn : l.length = n := hC.1
  subst hn
  have h := Kd.C_drop (c := l.length) hC (Nat.le_of_lt hk) (Nat.le_refl _)
  rw [if_neg (by omega), List.length_drop] at h
  have e : ((⟨g, o, none⟩ : Addr).add (k * U8.sz)) = ⟨g, o + k, none⟩ := by
    show (⟨g, o, none⟩ : Addr).add (k * 1) = _
    unfold Addr.add
    split
    · rename_i h; simp at h; subst h; simp
    · simp
  rw [Option.map_some, e] at h
  exact h
theorem C_mid (hC : U8.C w (some ⟨g, o, none⟩) n l) (k m : Nat) (hk : k < n) (h1 : k ≤ m) (h2 : m ≤ n) : U8.C w (some ⟨g, o + k, none⟩) (m - k) ((l.drop k).take (m - k)) := by
  have h := C_from hC k hk
  have e : (l.drop k).length = n - k := h.1
  rw [← e] at h
  have h' := Kd.C_take (m := m - k) h (by omega)
  rwa [show ((l.drop k).take (m - k)).length = m - k by rw [List.length_take, e]; omega] at h'
end

/-! ### where pages lie in a block -/
theorem ents_at {pg : Own} : ∀ (L : List Int) (i : Nat) (y : Int), (∀ n ∈ L, ((pg n).getD []).length = 512) → L[i]? = some y → ∃ t, (L.flatMap (ent pg)).drop (i * 516) = put4 y ++ ((pg y).getD [] ++ t)
  | [], i, y, _, h => by simp at h
  | a :: L, 0, y, _, h => by
    obtain rfl : a = y := by simpa using h
    exact ⟨L.flatMap (ent pg), by simp [ent]⟩
  | a :: L, i + 1, y, hl, h => by
    obtain ⟨t, ht⟩ := ents_at L i y (fun n hn => hl n (by simp [hn])) (by simpa using h)
    have ha := hl a (by simp)
    have he : (ent pg a).length = 516 := by unfold ent; rw [List.length_append, put4_length, ha]
    refine ⟨t, ?_⟩
    rw [List.flatMap_cons, List.drop_append, he, List.drop_eq_nil_of_le (by rw [he]; omega), List.nil_append, show (i + 1) * 516 - 516 = i * 516 by omega]
    exact ht
theorem bytes1_at {B : BK} (hB : BKok B) (rest : Bytes) {i : Nat} {y : Int} (hi : B.L[i]? = some y) : ∃ t, (bytes1 B ++ rest).drop (9 + i * 516) = put4 y ++ ((B.pg y).getD [] ++ t) := by
  obtain ⟨t, ht⟩ := ents_at B.L i y (fun n hn => (hB.ok n hn).2.2) hi
  have hlt : i < B.L.length := (List.getElem?_eq_some_iff.1 hi).1
  have hlen := bytes1_length hB
  refine ⟨t ++ rest, ?_⟩
  rw [List.drop_append_of_le_length (by omega)]
  have e : bytes1 B = (1 :: (put4 B.cnt ++ put4 B.L.length)) ++ B.L.flatMap (ent B.pg) := by unfold bytes1 tailB; simp [List.append_assoc]
  have h9 : (1 :: (put4 (B.cnt : Int) ++ put4 (B.L.length : Int))).length = 9 := rfl
  rw [e, List.drop_append, h9, List.drop_eq_nil_of_le (by rw [h9]; omega), List.nil_append, Nat.add_sub_cancel_left, ht]
  simp [List.append_assoc]
theorem bytes1_five (B : BK) (rest : Bytes) : ∃ t, (bytes1 B ++ rest).drop 5 = put4 B.L.length ++ t := ⟨B.L.flatMap (ent B.pg) ++ rest, by unfold bytes1 tailB put4; simp⟩
theorem bytes1_one (B : BK) (rest : Bytes) : ∃ t, (bytes1 B ++ rest).drop 1 = put4 B.cnt ++ t := ⟨put4 B.L.length ++ (B.L.flatMap (ent B.pg) ++ rest), by unfold bytes1 tailB put4; simp⟩

/-! ### a page more in a map of pages -/
theorem PgM.put2 {w : World} {b sz : Nat} {f : Int → Option Value} {pg : Own} {Q : Nat → Prop} (h : PgM w b f sz pg Q) {x : Int} (hx0 : 0 ≤ x) (hx1 : x < 4096) {g o c : Nat} {bs : Bytes} (hc : 512 ≤ c) (hC : U8.C w (some ⟨g, o, none⟩) 512 bs) (hl : bs.length = 512) (hQ : Q g) (hlt : g < w.heap.size) (hno : f x = none) :
    ∃ w1, (Instr.mapUpdate 110 (.map (some b)) (.int .i64 x) (.slice (some ⟨g, o, none⟩) 512 c)).run Tryz.prog w = .ok () w1 ∧ PgM w1 b (fun y => if y = x then some (.slice (some ⟨g, o, none⟩) 512 c) else f y) (sz + 1) (fun y => if y = x then some bs else pg y) Q ∧ w.grownBy w1 (some b) := by
  have hfew := h.few
  obtain ⟨w1, hrun, hm, ht⟩ := h.map.store (T := 110) Tryz.underlying3 Tryz.underlying110 (x := x) (wf4096 hx0 hx1) (by unfold maxLen; omega) (v := .slice (some ⟨g, o, none⟩) 512 c) rfl
  rw [hno] at hm
  have hg : w.grownBy w1 (some b) := ht.grown
  have hs := hg.size
  refine ⟨w1, hrun, ⟨hm, fun y hy => ?_, fun y v hy => ?_⟩, hg⟩
  · by_cases e : y = x
    · simp [e] at hy
    · simp only [if_neg e] at hy ⊢; exact h.none_ y hy
  · by_cases e : y = x
    · simp only [if_pos e] at hy ⊢
      obtain rfl := Option.some.inj hy
      have hne := h.map.no_cell hC (by omega)
      exact ⟨⟨g, o, none⟩, c, bs, rfl, hc, C_at hC (hg.block g hlt (fun e' => hne (by injection e'))), hQ, by show g < _; omega, rfl, hl, by omega, by omega⟩
    · simp only [if_neg e] at hy ⊢
      obtain ⟨ad, c', bs', e1, hc', hC', hq, hl', r⟩ := h.some_ y v hy
      have hne := h.map.no_cell hC' (by omega)
      exact ⟨ad, c', bs', e1, hc', C_at hC' (hg.block _ hl' (fun e' => hne (by injection e'))), hq, by omega, r⟩

/-! ### the walk -/
theorem add0 (ad : Addr) : ad.add 0 = ad := by
  unfold Addr.add
  split
  · rfl
  · simp_all
theorem parse_stop {w : World} {A : Option Addr} {n c : Nat} {r : Bytes} (hC : U8.C w A n r) (hc : n ≤ c) (hn : n ≤ 4194304) (hs : Stop r) :
    Calls Tryz.prog 101 #[.slice A n c] w fun e w' => e = .returned (.tuple #[.int .i64 0, .map none, .int .i64 0]) ∧ ∃ j, w' = w.drewN j := by
  by_cases h9 : n < 9
  · have q1 : decide ((n : Int) < 9) = true := decide_eq_true (by omega)
    clear hs hC
    go_enter Tryz.func101, Tryz.ntmps101
    go_wp2
    go_step3
    go_wp2
    rw [Exit.noGoto_ret]
    go_ret3
    exact ⟨rfl, 0, rfl⟩
  · have q1 : decide ((n : Int) < 9) = false := decide_eq_false (by omega)
    obtain ⟨ad, e1, hcell⟩ := Kd.at_int hC 0 (by omega) (by have : r.length = n := hC.1; omega)
    subst e1
    rw [show (0 : Int).toNat = 0 from rfl, add0] at hcell
    have hx : rd r 0 ≠ 1 := by
      rcases hs with h | h
      · have : r.length = n := hC.1; omega
      · exact h
    have q2 : (rd r 0 != 1) = true := by simpa using hx
    generalize rd r 0 = x0 at hcell q2
    clear hs hC hx
    go_enter Tryz.func101, Tryz.ntmps101
    go_wp2
    go_step3
    go_wp2
    rw [Exit.noGoto_ret]
    go_ret3
    exact ⟨rfl, 0, rfl⟩

def slot6 (a : Act) : Int := match a.tmps.getD 6 undef with | .int _ q => q | _ => 0
/-- the pages that have been read so far -/
def takeP (B : BK) (i : Nat) : Own := fun x => if x ∈ B.L.take i then B.pg x else none
/-- what holds at the label -/
def PJ (w : World) (g o n c : Nat) (B : BK) (a : Act) (W : World) : Prop :=
  ∃ x : Int, (a.defers = [] ∧ a.tmps.size = 55 ∧ a.tmps.getD 0 undef = .slice (some ⟨g, o, none⟩) n c ∧ a.tmps.getD 3 undef = .map (some w.heap.size) ∧ a.tmps.getD 5 undef = .int .i64 B.L.length ∧ a.tmps.getD 6 undef = .int .i64 x) ∧
    ∃ i : Nat, x = ((9 + i * 516 : Nat) : Int) ∧ i ≤ B.L.length ∧ (∃ f, PgM W w.heap.size f i (takeP B i) (fun k => k = g)) ∧ Below w.heap.size w W

set_option maxHeartbeats 2000000 in
set_option maxRecDepth 100000 in
theorem parse_whole {w : World} {g o n c : Nat} {B : BK} {rest : Bytes} (hB : BKok B) (hC : U8.C w (some ⟨g, o, none⟩) n (bytes1 B ++ rest)) (hc : n ≤ c) (hn : n ≤ 4194304) (hg : g < w.heap.size) :
    Calls Tryz.prog 101 #[.slice (some ⟨g, o, none⟩) n c] w fun e w' => e = .returned (.tuple #[.int .i64 B.cnt, .map (some w.heap.size), .int .i64 (bytes1 B).length]) ∧ (∃ f sz, PgM w' w.heap.size f sz B.pg (fun k => k = g)) ∧ Below w.heap.size w w' := by
  have hlen := bytes1_length hB
  have hnl : n = 9 + B.L.length * 516 + rest.length := by have : (bytes1 B ++ rest).length = n := hC.1; rw [← this, List.length_append, hlen]
  have hfew := hB.few
  obtain ⟨ad, e1, hcell⟩ := Kd.at_int hC 0 (by omega) (by omega)
  rw [show (0 : Int).toNat = 0 from rfl, add0] at hcell
  have hrd : rd (bytes1 B ++ rest) 0 = 1 := rfl
  rw [hrd] at hcell
  injection e1 with e1
  subst e1
  obtain ⟨l, hl⟩ : ∃ l, l = B.L.length := ⟨_, rfl⟩
  rw [← hl] at hnl hfew
  have hcut5 := fun W : World => run_from (g := g) (o := o) (n := n) (c := c) 5 (by omega) hc (by omega) W
  have hcut1 := fun W : World => run_from (g := g) (o := o) (n := n) (c := c) 1 (by omega) hc (by omega) W
  rw [show ((5 : Nat) : Int) = 5 from rfl] at hcut5
  rw [show ((1 : Nat) : Int) = 1 from rfl] at hcut1
  have HN5 : Aside0 (∀ W, Below w.heap.size w W → Calls Tryz.prog 129 #[.slice (some ⟨g, o + 5, none⟩) (n - 5) (c - 5)] W fun e w' => e = .returned (.int .i64 l) ∧ ∃ j, w' = W.drewN j) := ⟨fun W hW => by
    obtain ⟨t, ht⟩ := bytes1_five B rest
    have h := C_from hC 5 (by omega)
    rw [ht, ← hl] at h
    exact number_any l t (by omega) (Kd.C_below h hW) (by omega)⟩
  have HN1 : Aside0 (∀ W, Below w.heap.size w W → Calls Tryz.prog 129 #[.slice (some ⟨g, o + 1, none⟩) (n - 1) (c - 1)] W fun e w' => e = .returned (.int .i64 B.cnt) ∧ ∃ j, w' = W.drewN j) := ⟨fun W hW => by
    obtain ⟨t, ht⟩ := bytes1_one B rest
    have h := C_from hC 1 (by omega)
    rw [ht] at h
    have := hB.cnt
    exact number_any B.cnt t (by omega) (Kd.C_below h hW) (by omega)⟩
  have q1 : decide ((n : Int) < 9) = false := decide_eq_false (by omega)
  have q2 : decide (((n : Int) - 9) / 516 < (l : Int)) = false := decide_eq_false (by omega)
  have q0 : 9 ≤ (n : Int) := by omega
  have HX := Aside0.mk (And.intro hB (And.intro hC (And.intro hlen (And.intro hl (And.intro hnl hg)))))
  have hmm := @run_makeMap Tryz.prog
  clear hB hC hlen hl hg hnl hrd
  go_enter Tryz.func101, Tryz.ntmps101
  go_wp2
  refine scope_back 0 (PJ w g o n c B) (fun a _ => (n + 600 - (slot6 a).toNat)) rfl ?_ ?_
  · rintro a W ⟨x, ⟨hd, hs, z0, z3, z5, z6⟩, i, hx, hi, hm, hb⟩
    obtain ⟨u, hu, ha⟩ := lit55 hd hs
    rw [← hu] at z0 z3 z5 z6
    rw [z0, z3, z5, z6] at ha
    have hsl : slot6 a = x := by rw [ha]; rfl
    rw [hsl]
    subst ha
    rw [← HX.out.2.2.2.1]
    clear hd hs hu hsl z0 z3 z5 z6
    obtain ⟨f, hm⟩ := hm
    have hlenM := fun (W' : World) (h : W'.heap[w.heap.size]? = W.heap[w.heap.size]?) => (hm.map.move h).len (T := 110) Tryz.underlying110 3
    have hxr : 9 ≤ x ∧ x ≤ 3000000 := by rw [← HX.out.2.2.2.1] at hi; omega
    obtain ⟨hx9, hx3⟩ := hxr
    by_cases hlt : i < l
    · have p0 : (i : Int) < (l : Int) := by omega
      have p1 : decide ((i : Int) < (l : Int)) = true := decide_eq_true p0
      obtain ⟨y, hy⟩ : ∃ y, B.L[i]? = some y := ⟨_, List.getElem?_eq_getElem (by rw [← HX.out.2.2.2.1]; exact hlt)⟩
      have hl0 : (Builtin.len_ #[110] 3 #[.map (some w.heap.size)]).run Tryz.prog W = .ok (.int .i64 (i : Int)) W := hlenM W rfl
      obtain ⟨X, hX⟩ : ∃ X : Nat, X = 9 + i * 516 := ⟨_, rfl⟩
      have hxX : x = (X : Int) := by rw [hx, hX]
      have hXn : X + 516 ≤ n := by have := HX.out.2.2.2.2.1; omega
      obtain ⟨x4, hx4⟩ : ∃ x4, IntKind.i64.wrap (x + 4) = x4 := ⟨_, rfl⟩
      obtain ⟨x5, hx5⟩ : ∃ x5, IntKind.i64.wrap (x + 516) = x5 := ⟨_, rfl⟩
      have hx4' : x4 = ((X + 4 : Nat) : Int) := by rw [← hx4, IntKind.wrap_i64]; omega
      have hx5' : x5 = ((X + 516 : Nat) : Int) := by rw [← hx5, IntKind.wrap_i64]; omega
      have p2 : decide (x5 ≤ (n : Int)) = true := decide_eq_true (by omega)
      have hc1 : ∀ W' : World, (Instr.slice 48 (.slice (some ⟨g, o, none⟩) n c) (some (.int .i64 x)) none none).run Tryz.prog W' = .ok (.slice (some ⟨g, o + X, none⟩) (n - X) (c - X)) W' := fun W' => by
        rw [hxX]; exact run_from X (by omega) hc (by omega) W'
      have hc2 : ∀ W' : World, (Instr.slice 48 (.slice (some ⟨g, o, none⟩) n c) (some (.int .i64 x4)) (some (.int .i64 x5)) none).run Tryz.prog W' = .ok (.slice (some ⟨g, o + (X + 4), none⟩) 512 (c - (X + 4))) W' := fun W' => by
        rw [hx4', hx5', run_mid (X + 4) (X + 516) (by omega) (by omega) hc (by omega) W', show X + 516 - (X + 4) = 512 by omega]
      have hyM := List.mem_of_getElem? hy
      obtain ⟨hy0, hy1, hyl⟩ := HX.out.1.ok y hyM
      have HNy : Aside0 (∀ nn, Calls Tryz.prog 129 #[.slice (some ⟨g, o + X, none⟩) (n - X) (c - X)] (W.drewN nn) fun e w' => e = .returned (.int .i64 y) ∧ ∃ j, w' = (W.drewN nn).drewN j) := ⟨fun nn => by
        obtain ⟨t, ht⟩ := bytes1_at HX.out.1 rest hy
        have h := C_from HX.out.2.1 X (by omega)
        rw [hX, ht, ← hX] at h
        have e : y = ((y.toNat : Nat) : Int) := by omega
        rw [e] at h ⊢
        exact number_any y.toNat _ (by omega) (Kd.C_below h (pw_below_drewN hb nn)) (by omega)⟩
      have hno : f y = none := by
        cases hf : f y with
        | none => rfl
        | some v =>
          exfalso
          obtain ⟨_, _, bs, _, _, _, _, _, h, _⟩ := hm.some_ y v hf
          unfold takeP at h
          split at h
          · rename_i hmem
            obtain ⟨k, hk⟩ := List.getElem?_of_mem hmem
            rw [List.getElem?_take] at hk
            split at hk
            · have h1 := (List.getElem?_eq_some_iff.1 hk).2
              have h2 := (List.getElem?_eq_some_iff.1 hy).2
              obtain ⟨k1, h1⟩ := List.getElem?_eq_some_iff.1 hk
              obtain ⟨k2, h2⟩ := List.getElem?_eq_some_iff.1 hy
              have := List.pairwise_iff_getElem.1 HX.out.1.keys.1 k i k1 k2 (by omega)
              omega
            · cases hk
          · cases h
      have HUp : Aside0 (∀ nn, ∃ w4, (Instr.mapUpdate 110 (.map (some w.heap.size)) (.int .i64 y) (.slice (some ⟨g, o + (X + 4), none⟩) 512 (c - (X + 4)))).run Tryz.prog (W.drewN nn) = .ok () w4 ∧ (∃ f', PgM w4 w.heap.size f' (i + 1) (takeP B (i + 1)) (fun k => k = g)) ∧ Below w.heap.size w w4) := ⟨fun nn => by
        obtain ⟨t, ht⟩ := bytes1_at HX.out.1 rest hy
        have h := C_mid HX.out.2.1 (X + 4) (X + 516) (by omega) (by omega) (by omega)
        have e4 : (bytes1 B ++ rest).drop (X + 4) = (B.pg y).getD [] ++ t := by
          rw [hX, ← List.drop_drop, ht, List.drop_append, put4_length, List.drop_eq_nil_of_le (by rw [put4_length]; omega), List.nil_append]
          rfl
        rw [show X + 516 - (X + 4) = 512 by omega, e4, List.take_append_of_le_length (by omega), List.take_of_length_le (by omega)] at h
        have hbn := pw_below_drewN hb nn
        obtain ⟨w4, hrun, hm4, hg4⟩ := PgM.put2 (w := W.drewN nn) (hm.move rfl (fun _ _ _ => rfl) (Nat.le_refl _) (fun _ h _ => h)) hy0 hy1 (c := c - (X + 4)) (by omega) (Kd.C_below h hbn) hyl rfl (Nat.lt_of_lt_of_le HX.out.2.2.2.2.2 hbn.size) hno
        refine ⟨w4, hrun, ⟨_, ⟨hm4.map, fun z hz => ?_, fun z v hz => ?_⟩⟩, hbn.grown hg4 hbn.size (fun k hk => by cases hk; exact Nat.le_refl _)⟩
        · have h1 := hm4.none_ z hz
          by_cases e : z = y
          · simp [e] at hz
          · simp only [if_neg e] at h1
            unfold takeP at h1 ⊢
            rw [List.take_add_one, hy]
            simpa [e] using h1
        · obtain ⟨ad, cc, bs, a1, a2, a3, a4, a5, a6, a7⟩ := hm4.some_ z v hz
          refine ⟨ad, cc, bs, a1, a2, a3, a4, a5, ?_, a7⟩
          by_cases e : z = y
          · subst e
            simp only [if_true] at a6
            unfold takeP
            rw [List.take_add_one, hy, if_pos (by simp)]
            obtain ⟨q, hq⟩ := Option.isSome_iff_exists.1 ((HX.out.1.keys.2 z).1 hyM)
            rw [hq] at a6 ⊢
            simpa using a6
          · simp only [if_neg e] at a6
            unfold takeP at a6 ⊢
            rw [List.take_add_one, hy]
            simpa [e] using a6⟩
      have HXX := Aside0.mk (And.intro hx (And.intro hX hlt))
      clear hm hb hx hX hlt hlenM hi hxX hx4' hx5' hyM hyl hno hy hXn hy0 hy1
      go_wp2
      clear hl0
      go_region_held3 (fun _ => True) (first | trivial | assumption | (intros; trivial))
        (first
          | (go_at_call 129; refine (HNy.out _).mono ?_; rintro e w3 ⟨rfl, j, rfl⟩; obtain ⟨w4, hmu, hf4, hb4⟩ := HUp.out (1 + j); have H4 := Aside0.mk (And.intro hf4 hb4); clear hf4 hb4))
      clear hmu
      have p3 : x5 ≤ 4200000 := of_decide_eq_true p2 |> fun h => Int.le_trans h (by omega)
      go_wp2
      go_step3
      obtain ⟨hx, hX, hlt⟩ := HXX.out
      have hw5 : x5 = x + 516 := by rw [← hx5, IntKind.wrap_i64]; omega
      refine ⟨rfl, ⟨x5, ⟨rfl, rfl, rfl, rfl, by rw [← HX.out.2.2.2.1]; rfl, rfl⟩, i + 1, by rw [hw5, hx]; omega, by rw [← HX.out.2.2.2.1]; omega, H4.out.1, H4.out.2⟩, ?_⟩
      show n + 600 - x5.toNat < n + 600 - x.toNat
      have := of_decide_eq_true p2
      omega
    · have hil : i = l := by rw [← HX.out.2.2.2.1] at hi; omega
      subst hil
      have p1 : decide ((i : Int) < (i : Int)) = false := decide_eq_false (by omega)
      have hl0 : (Builtin.len_ #[110] 3 #[.map (some w.heap.size)]).run Tryz.prog W = .ok (.int .i64 (i : Int)) W := hlenM W rfl
      have HM := Aside0.mk (And.intro hm hb)
      have HXX := Aside0.mk hx
      clear hm hb hx hlenM hlt hi
      go_wp2_with (go_at_call 129; refine (HN1.out _ HM.out.2).mono ?_; rintro e w' ⟨rfl, j, rfl⟩)
      simp only [Exit.jump]
      go_ret3
      obtain ⟨hB, hC, hlen, hl, hnl, hg⟩ := HX.out
      obtain ⟨⟨hm, hno, hso⟩, hb⟩ := HM.out
      have e1 : x = (bytes1 B).length := by rw [HXX.out, hlen, hl]
      rw [e1]
      refine ⟨rfl, ⟨f, i, ⟨hm, fun z hz => ?_, fun z v hz => ?_⟩⟩, pw_below_drewN hb j⟩
      · have h := hno z hz
        unfold takeP at h
        rw [List.take_of_length_le (by omega)] at h
        by_cases hz : z ∈ B.L
        · rwa [if_pos hz] at h
        · cases e : B.pg z with
          | none => rfl
          | some q => exact absurd ((hB.keys.2 z).2 (by rw [e]; rfl)) hz
      · obtain ⟨ad, cc, bs, a1, a2, a3, a4, a5, a6, a7⟩ := hso z v hz
        refine ⟨ad, cc, bs, a1, a2, a3, a4, a5, ?_, a7⟩
        unfold takeP at a6
        split at a6
        · exact a6
        · cases a6
  · intro hrest
    have HRest := Aside0.mk hrest
    clear hrest
    go_wp2_with (go_at_call 129; refine (HN5.out _ (Below.refl _ _)).mono ?_; rintro e w' ⟨rfl, j, rfl⟩)
    go_step3
    rename_i K0 hK0
    show K0 _ _
    refine hK0 _ _ ?_
    clear hK0 K0
    obtain ⟨hB, hC, hlen, hl, hnl, hg⟩ := HX.out
    refine HRest.out _ _ ⟨9, ⟨rfl, rfl, rfl, rfl, by rw [← hl]; rfl, rfl⟩, 0, rfl, by omega, ⟨fun _ => none, ?_⟩, ?_⟩
    · have h1 := PgM.made (w.drewN j) (fun k => k = g)
      have e : takeP B 0 = fun _ => none := by funext x; unfold takeP; simp
      rw [e]
      exact h1
    · exact (pw_below_drewN (Below.refl _ _) j).alloc (Nat.le_refl _) _
end Go.Proofs.YtmdpgjdepflbmaaGreat
namespace Go.Proofs.YtmdpgjdepflbmaaGreat
open Go.RowKit Go.Maps Go.Proofs.YtmdpgjdepflbmaaGreatW.PrintWords Go.Proofs.YtmdpgjdepflbmaaGreatW.PrintLast Go.Proofs.YtmdpgjdepflbmaaGreatW.PrintMore
open Go.Proofs.YtmdpgjdepflbmaaGreat.PPagerFolds
set_option linter.unusedVariables false
set_option linter.unusedSimpArgs false

theorem lit44 {a : Act} (hd : a.defers = []) (hs : a.tmps.size = 44) : ∃ u : Nat → Value, (∀ i, u i = a.tmps.getD i undef) ∧ a = { tmps := #[u 0, u 1, u 2, u 3, u 4, u 5, u 6, u 7, u 8, u 9, u 10, u 11, u 12, u 13, u 14, u 15, u 16, u 17, u 18, u 19, u 20, u 21, u 22, u 23, u 24, u 25, u 26, u 27, u 28, u 29, u 30, u 31, u 32, u 33, u 34, u 35, u 36, u 37, u 38, u 39, u 40, u 41, u 42, u 43], defers := [] } := by
  refine ⟨fun i => a.tmps.getD i undef, fun i => rfl, ?_⟩
  obtain ⟨t, d⟩ := a
  subst hd
  congr 1
  have : t = ((List.range 44).map (fun i => t.getD i undef)).toArray := by
    apply Array.ext
    · simpa using hs
    · intro i h1 h2
      simp [Array.getD, h1]
  exact this
def slot4 (a : Act) : Int := match a.tmps.getD 4 undef with | .int _ q => q | _ => 0
/-- what holds at the label -/
def BsJ (w : World) (n : Nat) (row : Bytes) (bs : List BK) (a : Act) (W : World) : Prop :=
  ∃ (x y : Int) (m : Nat) (A : Option Addr) (c : Nat), (a.defers = [] ∧ a.tmps.size = 44 ∧ a.tmps.getD 2 undef = .map (some m) ∧ a.tmps.getD 3 undef = .int .i64 y ∧ a.tmps.getD 4 undef = .int .i64 x ∧ a.tmps.getD 7 undef = .slice A n c) ∧
    n ≤ c ∧ ∃ done todo : List BK, bs = done ++ todo ∧ x = ((logB done).length : Int) ∧ y = cntB done ∧ (∃ f sz, PgM W m f sz (unionB done) (fun k => w.heap.size ≤ k ∧ k ≠ m)) ∧ w.heap.size ≤ m ∧ Below w.heap.size w W ∧ U8.C W A n row ∧ (∀ k, (Value.slice A n c).ownBlock = some k → w.heap.size ≤ k ∧ k ≠ m ∧ k < W.heap.size) ∧ (0 < n → ∃ g, A = some ⟨g, 0, none⟩)

set_option maxHeartbeats 2000000 in
set_option maxRecDepth 100000 in
theorem blocks_any {w : World} {d p : Nat} {M : DM} {ok : Nat → Prop} (h : DiskAt w d M ok) (hp : w.cell? ⟨p, 0, none⟩ = some (dptr d)) (ho : M.off = false) {f : Bytes × Bytes} (hx : M.fs (nm sL) = some f) {bs : List BK} {rest : Bytes} (hf : f.2 = logB bs ++ rest) (hst : Stop rest) (hB : ∀ B ∈ bs, BKok B) (hlen : f.2.length ≤ 4194304) :
    Calls Tryz.prog 87 #[dp p] w fun e w' => ∃ m, e = .returned (.tuple #[.map (some m), .int .i64 (cntB bs), .int .i64 (logB bs).length, .int .i64 f.2.length, .int .i64 0]) ∧ (∃ f sz, PgM w' m f sz (unionB bs) (fun k => w.heap.size ≤ k ∧ k ≠ m)) ∧ w.heap.size ≤ m ∧ m < w'.heap.size ∧ Below w.heap.size w w' := by
  have HA := Aside0.mk (all_some h hp good_L ho hx hlen)
  obtain ⟨n, hn⟩ : ∃ n, n = f.2.length := ⟨_, rfl⟩
  rw [← hn] at hlen ⊢
  have HF := Aside0.mk (And.intro hf (And.intro hst (And.intro hB hn)))
  clear h hp ho hx hf hst hB hn
  have hmm := @run_makeMap Tryz.prog
  go_enter Tryz.func87, Tryz.ntmps87
  go_wp2
  refine scope_back 0 (BsJ w n f.2 bs) (fun a _ => (n + 600 - (slot4 a).toNat)) rfl ?_ ?_
  · rintro a W ⟨x, y, m, A, c, ⟨hd, hs, z2, z3, z4, z7⟩, hc, done, todo, hbs, hx, hy, hm, hwm, hb, hC, hk, hg⟩
    obtain ⟨u, hu, ha⟩ := lit44 hd hs
    rw [← hu] at z2 z3 z4 z7
    rw [z2, z3, z4, z7] at ha
    have hsl : slot4 a = x := by rw [ha]; rfl
    rw [hsl]
    subst ha
    clear hd hs hu hsl z2 z3 z4 z7
    obtain ⟨hf, hst, hB, hn⟩ := HF.out
    cases todo with
    | nil =>
      rw [List.append_nil] at hbs
      subst hbs
      have hxl : (logB bs).length ≤ n := by rw [hn, hf, List.length_append]; omega
      obtain ⟨A', m', c', hrun, hC', hmc, hm'⟩ := cutB hC hc hxl x hx
      have hdr : f.2.drop (logB bs).length = rest := by rw [hf, List.drop_append_of_le_length (Nat.le_refl _), List.drop_eq_nil_of_le (Nat.le_refl _), List.nil_append]
      rw [hdr] at hC'
      have HP := Aside0.mk (parse_stop hC' hmc (by omega) hst)
      have HM := Aside0.mk (And.intro hm (And.intro hwm (And.intro hb (And.intro hx (And.intro hy hn)))))
      clear hC hC' hmc hm' hdr hxl hm hwm hb hx hy hf hst hB hn hk hg hc
      go_wp2_with (go_at_call 101; refine HP.out.mono ?_; rintro e w' ⟨rfl, j, rfl⟩)
      simp only [Exit.jump]
      obtain ⟨⟨ff, sz, hm⟩, hwm, hb, hx, hy, hn⟩ := HM.out
      rw [hx, hy]
      exact bodyPost_ret (v := .tuple #[.map (some m), .int .i64 (cntB bs), .int .i64 (logB bs).length, .int .i64 n, .int .i64 0]) (by simp [results, Tryz.results87, go_sem]) rfl ⟨m, rfl, ⟨ff, sz, hm.move rfl (fun _ _ _ => rfl) (Nat.le_refl _) (fun _ h _ => h)⟩, hwm, hm.map.lt, pw_below_drewN hb j⟩
    | cons B todo =>
      have hBk := hB B (by rw [hbs]; simp)
      have hbl := bytes1_length hBk
      have hlog : logB bs = logB done ++ (bytes1 B ++ logB todo) := by rw [hbs]; unfold logB; simp
      obtain ⟨X, hX⟩ : ∃ X : Nat, X = (logB done).length := ⟨_, rfl⟩
      have hXn : X + (bytes1 B).length ≤ n := by rw [hn, hf, hlog]; simp only [List.length_append]; omega
      obtain ⟨g, hgA⟩ := hg (by omega)
      subst hgA
      obtain ⟨hk1, hk2, hk3⟩ := hk g rfl
      have hdr : f.2.drop X = bytes1 B ++ (logB todo ++ rest) := by rw [hf, hlog, hX, List.append_assoc, List.drop_append_of_le_length (Nat.le_refl _), List.drop_eq_nil_of_le (Nat.le_refl _), List.nil_append, List.append_assoc]
      have hxX : x = (X : Int) := by rw [hx, hX]
      have hcut : ∀ W' : World, (Instr.slice 48 (.slice (some ⟨g, 0, none⟩) n c) (some (.int .i64 x)) none none).run Tryz.prog W' = .ok (.slice (some ⟨g, X, none⟩) (n - X) (c - X)) W' := fun W' => by
        have := run_from (g := g) (o := 0) X (by omega) hc (by omega) W'
        rw [Nat.zero_add] at this
        rw [hxX]; exact this
      have hC' := C_from hC X (by omega)
      rw [hdr, Nat.zero_add] at hC'
      have HP := Aside0.mk (parse_whole (c := c - X) hBk hC' (by omega) (by omega) hk3)
      obtain ⟨ff, sz, hm⟩ := hm
      have HMg : Aside0 (∀ W', Below W.heap.size W W' → ∀ ff2 s2, PgM W' W.heap.size ff2 s2 B.pg (fun k => k = g) → Calls Tryz.prog 110 #[.map (some m), .map (some W.heap.size)] W' fun e w' => e = .returned (.tuple #[]) ∧ (∃ f sz, PgM w' m f sz (unionB (done ++ [B])) (fun k => w.heap.size ≤ k ∧ k ≠ m)) ∧ W'.grownBy w' (some m)) := ⟨fun W' hW ff2 s2 h2 => by
        have hmlt := hm.map.lt
        refine (PgM.merge (hm.below hW) h2 (by omega) (fun h => h.2 rfl) (fun h => hk2 h.symm)).mono ?_
        rintro e w' ⟨rfl, ⟨f3, s3, h3⟩, hg3⟩
        refine ⟨rfl, ⟨f3, s3, ?_⟩, hg3⟩
        rw [unionB_snoc]
        exact h3.move rfl (fun _ _ _ => rfl) (Nat.le_refl _) (fun k hk _ => hk.elim id (fun e => by subst e; exact ⟨hk1, hk2⟩))⟩
      have hml := hm.map.lt
      have hpos : 0 < ((bytes1 B).length : Int) := by omega
      have hxr0 : 0 ≤ x := by omega
      obtain ⟨xl, hxl⟩ : ∃ xl : Int, xl = ((bytes1 B).length : Int) := ⟨_, rfl⟩
      rw [← hxl] at hpos HP
      have hxr1 : x + xl ≤ 4194304 := by omega
      have HM := Aside0.mk (And.intro hml (And.intro hwm (And.intro hb (And.intro hx (And.intro hy (And.intro hn (And.intro hC (And.intro hc (And.intro hk1 (And.intro hk2 (And.intro hk3 (And.intro hbs (And.intro hxl (And.intro hXn (And.intro hX hxX)))))))))))))))
      clear hC hC' hdr hxl hm hwm hb hx hy hf hst hB hn hk hg hc hk1 hk2 hk3 hbs hBk hbl hlog hXn hX hxX hml
      go_wp2_with (first
        | (go_at_call 101; refine HP.out.mono ?_; rintro e w2 ⟨rfl, ⟨ff2, s2, hm2⟩, hb2⟩
           have HCp := Aside0.mk (HMg.out w2 hb2 ff2 s2 hm2)
           have H2 := Aside0.mk hb2
           clear hm2 hb2)
        | (go_at_call 110; refine HCp.out.mono ?_; rintro e w3 ⟨rfl, hm3, hg3⟩
           have H3 := Aside0.mk (And.intro hm3 hg3)
           clear hm3 hg3))
      go_step3
      obtain ⟨hml, hwm, hb, hx, hy, hn, hC, hc, hk1, hk2, hk3, hbs, hxl, hXn, hX, hxX⟩ := HM.out
      obtain ⟨hm3, hg3⟩ := H3.out
      have hb2 := H2.out
      have hs2 := hb2.size
      have hs3 := hg3.size
      have hsW := hb.size
      have hbt : Below w.heap.size w w3 := (hb.trans (hb2.mono hsW)).grown hg3 (by omega) (fun k hk => by cases hk; exact hwm)
      refine ⟨rfl, ⟨x + xl, B.cnt, m, some ⟨g, 0, none⟩, c, ⟨rfl, rfl, rfl, rfl, rfl, rfl⟩, hc, done ++ [B], todo, by rw [hbs]; simp, ?_, (cntB_snoc done B).symm, hm3, hwm, hbt, ?_, fun k hk => ?_, fun _ => ⟨g, rfl⟩⟩, ?_⟩
      · rw [logB_snoc, List.length_append, hx, hxl]; omega
      · exact C_at (Kd.C_below hC hb2) (hg3.block g (by omega) (fun e => hk2 (by injection e)))
      · have : g = k := by simpa [Value.ownBlock] using hk
        subst this
        exact ⟨hk1, hk2, by omega⟩
      · show n + 600 - (x + xl).toNat < n + 600 - x.toNat
        omega
  · intro hrest
    have HRest := Aside0.mk hrest
    clear hrest
    go_wp2_with (first
      | (go_at_call 86; refine (HA.out).mono ?_; rintro e w1 ⟨v, rfl, hv, hb1⟩
         obtain ⟨A3, c3, hv3⟩ := Kd.R_slice hv
         rw [← HF.out.2.2.2] at hv3
         subst hv3
         have H1 := Aside0.mk (And.intro hv hb1)
         clear hv hb1))
    go_step3
    rename_i K0 hK0
    show K0 _ _
    refine hK0 _ _ ?_
    clear hK0 K0
    obtain ⟨hv, hb1⟩ := H1.out
    obtain ⟨hf, hst, hB, hn⟩ := HF.out
    have hv' := hv
    rw [hn] at hv'
    obtain ⟨hC3, hc3, _⟩ := C_of_row hv'
    rw [← hn] at hC3 hc3
    have hs1 := hb1.size
    refine HRest.out _ _ ⟨0, -1, w1.heap.size, A3, c3, ⟨rfl, rfl, rfl, rfl, rfl, rfl⟩, hc3, [], bs, rfl, rfl, rfl, ⟨_, _, PgM.made w1 _⟩, hs1, hb1.alloc hs1 _, Kd.C_below hC3 ((Below.refl _ _).alloc (Nat.le_refl _) _), fun k hk => ?_, fun h0 => ?_⟩
    · have h1 := hv.1 k hk
      have h2 := Kd.R_lt hv k hk
      exact ⟨h1, by omega, by simp; omega⟩
    · obtain ⟨g, cap, e, _, _, _⟩ := Kd.R_form hv (by omega)
      injection e with e1 e2 e3
      exact ⟨g, e1⟩
end Go.Proofs.YtmdpgjdepflbmaaGreat

/-
  The walk of wakes.
-/
import Derived.Test.YtgpniaplpibhfaaCrash
namespace Go.Proofs.Ytgpniaplpibhfaa
open Go.RowKit Go.Maps Go.Proofs.YtgpniaplpibhfaaW.PrintWords Go.Proofs.YtgpniaplpibhfaaW.PrintLast Go.Proofs.YtgpniaplpibhfaaW.PrintMore
open Go.Proofs.Ytgpniaplpibhfaa.PDiskSafe
set_option linter.unusedVariables false
set_option linter.unusedSimpArgs false

theorem eqbytes_l0 (x y : Bytes) (hl : x.length = y.length) (hb : x.length ≤ 9223372036854775806) (d : Nat) : ∀ (k : Nat) (i : Nat), x.length - i = d → i ≤ x.length → d < k →
    cadastreref0_EqBytes.l0 k x y i = some (decide (x.drop i = y.drop i)) := by
  induction d with
  | zero =>
    intro k i hd hi hk
    obtain ⟨k, rfl⟩ : ∃ j, k = j + 1 := ⟨k - 1, by omega⟩
    unfold cadastreref0_EqBytes.l0
    rw [if_neg (by omega), List.drop_eq_nil_of_le (by omega), List.drop_eq_nil_of_le (by omega)]
    simp
  | succ d ih =>
    intro k i hd hi hk
    obtain ⟨k, rfl⟩ : ∃ j, k = j + 1 := ⟨k - 1, by omega⟩
    unfold cadastreref0_EqBytes.l0
    have hx : i < x.length := by omega
    have hy : i < y.length := by omega
    rw [if_pos (by omega), if_pos (by omega), if_pos (by omega)]
    have hw : wrap64 ((i : Int) + 1) = ((i + 1 : Nat) : Int) := by unfold wrap64; omega
    rw [hw, ih k (i + 1) (by omega) (by omega) (by omega)]
    have e1 : rd x (i : Int) = x[i] := by unfold rd; rw [Int.toNat_natCast, List.getD_eq_getElem?_getD, List.getElem?_eq_getElem hx]; rfl
    have e2 : rd y (i : Int) = y[i] := by unfold rd; rw [Int.toNat_natCast, List.getD_eq_getElem?_getD, List.getElem?_eq_getElem hy]; rfl
    have d1 := List.drop_eq_getElem_cons hx
    have d2 := List.drop_eq_getElem_cons hy
    rw [e1, e2]
    by_cases e : x[i] = y[i]
    · rw [if_pos e]
      congr 1
      rw [decide_eq_decide, d1, d2, e]
      exact ⟨fun h => by rw [h], fun h => by injection h⟩
    · rw [if_neg e]
      congr 1
      symm
      rw [decide_eq_false_iff_not, d1, d2]
      intro h
      injection h with h1 _
      exact e h1
theorem eqbytes_f (x y : Bytes) (hb : x.length ≤ 9223372036854775806) : cadastreref0_EqBytes.f (x.length + 1) x y = some (decide (x = y)) := by
  unfold cadastreref0_EqBytes.f
  by_cases hl : x.length = y.length
  · rw [if_pos (by omega)]
    have := eqbytes_l0 x y hl hb x.length (x.length + 1) 0 (by omega) (by omega) (by omega)
    simpa using this
  · rw [if_neg (by omega)]
    congr 1
    symm
    rw [decide_eq_false_iff_not]
    intro h; exact hl (by rw [h])
theorem eqbytes_any {w : World} {A1 A2 : Option Addr} {n1 n2 c1 c2 : Nat} {x y : Bytes} (h1 : U8.C w A1 n1 x) (hc1 : n1 ≤ c1) (h2 : U8.C w A2 n2 y) (hc2 : n2 ≤ c2) (hb : n1 ≤ 8388608) :
    Calls Try.prog 20 #[.slice A1 n1 c1, .slice A2 n2 c2] w fun e w' => e = .returned (.bool (decide (x = y))) ∧ ∃ k, w' = w.drewN k := by
  obtain rfl : x.length = n1 := h1.1
  obtain rfl : y.length = n2 := h2.1
  exact (cadastreref0_EqBytes.calls (x.length + 1) A1 c1 x A2 c2 y _ w h1 hc1 h2 hc2 (eqbytes_f x y (by omega))).mono fun e w' ⟨he, hw⟩ => ⟨he, hw.out⟩
theorem num_any (e0 : Int) (w : World) : Calls Try.prog 10 #[.int .i64 e0] w fun e w' => e = .returned (.int .i64 e0) ∧ ∃ k, w' = w.drewN k :=
  (cadastrelaw9_num.calls e0 e0 w rfl).mono fun e w' ⟨he, hw⟩ => ⟨he, hw.out⟩

abbrev sA : ByteArray := { data := #[97] }
theorem good_sA : GoodN sA := by
  refine ⟨fun j h0 h1 => ?_, by decide, by decide⟩
  have : j = 0 := by have : sA.size = 1 := rfl; omega
  subst this
  exact .inl (by decide)
theorem nil_C50 (w : World) : Kd.C k50 w none 0 [] := ⟨rfl, Nat.zero_le _, fun h => absurd h (Nat.lt_irrefl _)⟩
theorem nil_C39 (w : World) : Kd.C k39 w none 0 [] := ⟨rfl, Nat.zero_le _, fun h => absurd h (Nat.lt_irrefl _)⟩
theorem ok_nil : FilesOk [] := ⟨by simp, fun x h => by simp at h, List.Pairwise.nil⟩
theorem ok_nilT : TroublesOk [] := ⟨fun x h => by simp at h, fun x h => by simp at h⟩

/-- []byte("..") of a constant: the row is marked -/
theorem run_conv30 (w : World) (C : Array Value) (n c : Nat) : (convert 30 30 (.slice (some ⟨w.heap.size, 0, none⟩) n c)).run Try.prog (w.alloc (.cells C 5)) = .ok (.slice (some ⟨w.heap.size, 0, none⟩) n c) (w.alloc (.cells C 5 (C.size, C.size + 1))) := by
  have hsh : (w.alloc (.cells C 5)).shape? w.heap.size = some (5, C.size) := by
    have : (w.alloc (.cells C 5)).heap[w.heap.size]? = some (.cells C 5) := heap_alloc_new w _
    unfold World.shape?
    rw [this]
  have hfr : (w.alloc (.cells C 5)).freeze ⟨w.heap.size, C.size, none⟩ 1 = w.alloc (.cells C 5 (C.size, C.size + 1)) := by
    have hm : ∀ (a : Array Obj) (x : Obj) (f : Obj → Obj), (a.push x).modify a.size f = a.push (f x) := by
      intro a x f
      apply Array.ext
      · simp
      · intro i h1 h2
        simp only [Array.getElem_modify, Array.getElem_push]
        by_cases h : a.size = i
        · subst h
          simp
        · have hi : i < a.size := by simp at h1; omega
          simp [h, hi]
    unfold World.freeze
    rw [if_neg (by decide)]
    show ({ w.alloc (.cells C 5) with heap := (w.heap.push (.cells C 5)).modify w.heap.size _ } : World) = _
    rw [hm]
    rfl
  simp [convert, run_underlying Try.underlying30, run_underlying Try.underlying5, markStringish, hsh]
  exact hfr

theorem card_nil : card (fun _ => none) = 0 := card_eq (L := []) ⟨List.Pairwise.nil, fun x => by simp⟩
theorem fit_nil : Fit (newM [] []) := ⟨fun x f h => by simp [newM, fsOf] at h, Int.le_refl _, by decide, by
  show card (fsOf []) ≤ 16
  rw [fsOf_nil, card_nil]; omega⟩

theorem C_lit (w : World) (b : Bytes) (fr : Nat × Nat) (hb : b.length ≤ 8388608) : U8.C (w.alloc (.cells (b.map (Value.int .u8)).toArray 5 fr)) (some ⟨w.heap.size, 0, none⟩) b.length b := by
  refine ⟨rfl, by omega, fun _ => ⟨⟨w.heap.size, 0, none⟩, rfl, fun j p hj => ⟨[Value.int .u8 p], rfl, rfl, fun i u hu => ?_⟩⟩⟩
  obtain ⟨rfl, rfl⟩ : i = 0 ∧ u = Value.int .u8 p := by
    cases i with
    | zero => simp at hu; exact ⟨rfl, hu.symm⟩
    | succ i => simp at hu
  have e : ((⟨w.heap.size, 0, none⟩ : Addr).add (j * U8.sz + 0)) = ⟨w.heap.size, j, none⟩ := by
    have : j * U8.sz + 0 = j := by simp [Kd.int, Kd.scalar]
    rw [this]; cases j <;> simp [Addr.add]
  rw [e, cell_of_row _ _ _ _ 5 fr (heap_alloc_new w _)]
  simp [List.getElem?_map, hj]

def M1 : DM := { newM [] [] with st := 1, fs := setF (fsOf []) (nm sA) (some ([], [0, 0, 120, 121])) }
theorem M1_eq : writeM (newM [] []) (nm sA) 2 [120, 121] = (0, M1) := by
  unfold writeM
  have h1 : (newM [] []).fs (nm sA) = none := rfl
  have h2 : card (newM [] []).fs < 16 := by show card (fsOf []) < 16; rw [fsOf_nil, card_nil]; omega
  rw [h1]
  simp only [if_pos h2]
  rfl

theorem write_xy {W : World} {d : Nat} {ok : Nat → Prop} (h : DiskAt W d (newM [] []) ok) {Ab : Option Addr} {cb : Nat} (hsrc : Src W ok Ab 2 [120, 121]) (hsl : ∀ ad, Ab = some ad → ad.block < W.heap.size) :
    Calls Try.prog 16 #[dptr d, .string sA, .int .i64 2, .slice Ab 2 cb] W fun e w' => e = .returned (.int .i64 0) ∧ Left W d M1 ok w' := by
  have := write_any h fit_nil (s := sA) (a := 2) (nb := 2) (cb := cb) good_sA (by omega) (by omega) hsrc hsl
  rw [M1_eq] at this
  exact this
theorem read_xy {W : World} {d : Nat} {ok : Nat → Prop} (h : DiskAt W d M1 ok) :
    Calls Try.prog 23 #[dptr d, .string sA, .int .i64 0, .int .i64 9] W fun e w' => ∃ A c, e = .returned (.tuple #[.slice A 4 c, .int .i64 0]) ∧ (U8.C w' A 4 [0, 0, 120, 121] ∧ 4 ≤ c) ∧ Below W.heap.size W w' := by
  refine (read_some h good_sA 0 9 (by omega) (by omega) rfl (f := ([], [0, 0, 120, 121])) (by simp [M1, setF]) (by simp)).mono ?_
  rintro e w' ⟨v, rfl, h1, h2⟩
  obtain ⟨A, c, hv, hle, hC⟩ := Kd.R_reads h1
  have e4 : (([0, 0, 120, 121] : Bytes).drop 0).take 9 = [0, 0, 120, 121] := rfl
  simp only [e4] at hv hle hC
  subst hv
  exact ⟨A, c, rfl, ⟨hC, hle⟩, h2⟩

theorem eq_xy {W : World} {A1 A2 : Option Addr} {c1 c2 : Nat} (h1 : U8.C W A1 4 [0, 0, 120, 121]) (hc1 : 4 ≤ c1) (h2 : U8.C W A2 4 [0, 0, 120, 121]) (hc2 : 4 ≤ c2) :
    Calls Try.prog 20 #[.slice A1 4 c1, .slice A2 4 c2] W fun e w' => e = .returned (.bool true) ∧ ∃ k, w' = W.drewN k := by
  have := eqbytes_any h1 hc1 h2 hc2 (by omega)
  rw [decide_eq_true rfl] at this
  exact this

set_option maxRecDepth 100000 in
theorem wakes_any (w : World) : Calls Try.prog 19 #[] w fun e w' => e = .returned (.bool true) ∧ Below w.heap.size w w' := by
  have HN := Aside0.mk (fun W : World => new_ok (w := W) (A := none) (c := 0) (l := []) (B := none) (cb := 0) (t := []) (nil_C50 W) (Nat.le_refl _) (nil_C39 W) (Nat.le_refl _) ok_nil ok_nilT (by simp))
  go_enter Try.func19, Try.ntmps19
  go_wp2_with (first
    | (go_at_call 9
       refine (HN.out _).mono ?_
       rintro e W1 ⟨rfl, hD, hB⟩
       have HD := Aside0.mk (And.intro hD hB)
       have hconv : ∀ (nq : Nat) (C : Array Value) (n c : Nat), (convert 30 30 (.slice (some ⟨W1.heap.size, 0, none⟩) n c)).run Try.prog ((W1.drewN nq).alloc (.cells C 5)) = .ok (.slice (some ⟨W1.heap.size, 0, none⟩) n c) ((W1.drewN nq).alloc (.cells C 5 (C.size, C.size + 1))) := fun nq C n c => run_conv30 (W1.drewN nq) C n c
       clear hD hB)
    | (go_at_call 10; refine (num_any _ _).mono ?_; rintro e w' ⟨rfl, n, rfl⟩)
    | (go_at_call 16
       refine (write_xy (((HD.out.1.tight).drewN _).alloc _) ⟨C_lit (W1.drewN _) [120, 121] _ (by simp), ?_⟩ ?_).mono ?_
       · intro ad e hk
         obtain rfl := Option.some.inj e
         exact absurd hk.2 (Nat.lt_irrefl _)
       · intro ad e
         obtain rfl := Option.some.inj e
         show W1.heap.size < (W1.heap.push _).size
         simp
       rintro e W2 ⟨rfl, hL⟩
       have HL := Aside0.mk hL
       clear hL)
    | (go_at_call 23
       obtain ⟨ok2, hD2, hk2, hF2⟩ := HL.out
       refine (read_xy (hD2.drewN _)).mono ?_
       rintro e W3 ⟨A3, c3, rfl, hC3, hB3⟩
       have H3 := Aside0.mk (And.intro hC3 (And.intro hB3 hF2))
       clear hC3 hB3 hD2 hk2 hF2)
    | (go_at_call 20
       refine (eq_xy (Kd.C_alloc (Kd.C_drewN H3.out.1.1 _) _) H3.out.1.2 (C_lit (W3.drewN _) [0, 0, 120, 121] (0, 0) (by simp)) (by omega)).mono ?_
       rintro e w' ⟨rfl, n, rfl⟩))
  go_ret
  obtain ⟨_, hB3, hF2⟩ := H3.out
  obtain ⟨_, hB⟩ := HD.out
  refine ⟨rfl, ?_⟩
  have s1 := hB.size
  have b1 := (below_alloc (pw_below_drewN hB _) _).trans (hF2.below (B := w.heap.size) (fun k hk => hk.1) (by show w.heap.size ≤ (W1.heap.push _).size; simp; omega))
  have b2 := (pw_below_drewN b1 _).trans (hB3.mono (pw_below_drewN b1 _).size)
  exact pw_below_drewN (below_alloc (pw_below_drewN b2 _) _) _
end Go.Proofs.Ytgpniaplpibhfaa

/-
  A crash in a round of DiskSafe.
-/
import Derived.Test.YtgpniaplpibhfaaSafeP
import Derived.Deep.DeepCutAuto
import Derived.Deep.RegionHeld3

import Derived.Deep.QuietTactic
import Derived.BigQuiet
namespace Go.Proofs.Ytgpniaplpibhfaa
open Go.RowKit Go.Maps Go.Proofs.YtgpniaplpibhfaaW.PrintWords Go.Proofs.YtgpniaplpibhfaaW.PrintLast Go.Proofs.YtgpniaplpibhfaaW.PrintMore
open Go.Proofs.Ytgpniaplpibhfaa.PDiskSafe
set_option linter.unusedVariables false
set_option linter.unusedSimpArgs false

theorem beq_sK (s : ByteArray) : (s.toList == [107, 101, 112, 116]) = decide (s = sK) := by
  rw [Lib.toList_data, Bool.eq_iff_iff, beq_iff_eq, decide_eq_true_iff]
  constructor
  · intro h
    have : s.data = #[107, 101, 112, 116] := by rw [← Array.toArray_toList (xs := s.data), h]
    cases s; simp_all
  · intro h; rw [h]

/-- the 'if' on slot n with something in it -/
def condAt (n : Nat) : Code → Option Code
  | .cond (.tmp k) .skip b => condAt n b
  | .cond (.tmp k) a b => if k = n then some (.cond (.tmp k) a b) else (condAt n a).or (condAt n b)
  | .cond _ a b => (condAt n a).or (condAt n b)
  | .seq a b => (condAt n a).or (condAt n b)
  | .block _ c => condAt n c
  | .loop c => condAt n c
  | .scope c => condAt n c
  | _ => none
noncomputable def code31 : Code := ((Try.f4.body.bind (condAt 124)).getD .skip)

set_option maxRecDepth 1000000 in
set_option maxHeartbeats 4000000 in
/-- a crash of the disk in a round: it tells the kept file; a disk of its files shows just these -/
theorem crash_arm {i d kb g : Nat} {wl W10 : World} {y : S33} {A5 : Option Addr} {c5 : Nat} (n0 : Nat) (HK10 : Aside0 (KJ (i + 2) d kb (some (keepB, keepB)) wl W10)) (HC5 : Aside0 (I64.C W10 A5 y.f5.length y.f5)) (HL5 : Aside0 (y.f5.length ≤ c5)) (k5 : ∀ n, (W10.drewN n).cell? ⟨g, 5, none⟩ = some (.slice A5 y.f5.length c5))
    (c0 c1 c2 c3 c5 c7 c9 c10 c11 c12 c13 c14 c15 c16 c17 c18 c19 c20 c21 c22 c23 c24 c25 c26 c27 c28 c29 c30 c31 c32 c33 c34 c35 c36 c37 c38 c39 c40 c41 c42 c43 c44 c45 c46 c47 c48 c49 c50 c51 c52 c53 c54 c55 c56 c57 c58 c59 c60 c61 c62 c63 c64 c65 c66 c67 c68 c69 c70 c71 c72 c73 c74 c75 c76 c77 c78 c79 c80 c81 c82 c83 c84 c85 c86 c87 c88 c89 c90 c91 c92 c93 c94 c95 c96 c97 c98 c99 c100 c101 c102 c103 c104 c105 c106 c107 c108 c109 c110 c111 c112 c113 c114 c115 c116 c117 c118 c119 c120 c121 c122 c123 c125 c126 c127 c128 c129 c130 c131 c132 c133 c134 c135 c136 c137 c138 c139 c140 c141 c142 c143 c144 c145 c146 c147 c148 c149 c150 c151 c152 c153 c154 c155 c156 c157 c158 c159 c160 c161 c162 c163 c164 c165 c166 c167 c168 c169 c170 c171 c172 c173 c174 c175 c176 c177 c178 c179 c180 c181 c182 c183 c184 c185 c186 c187 c188 c189 c190 c191 c192 c193 c194 c195 c196 c197 c198 c199 c200 c201 c202 c203 c204 c205 c206 c207 c208 c209 c210 c211 c212 c213 c214 c215 c216 c217 c218 c219 c220 c221 c222 c223 c224 c225 c226 c227 c228 c229 c230 c231 c232 c233 c234 c235 c236 c237 : Value) (Q : Exit → Act → World → Prop) (HK0 : Aside0 (∀ (v2 v9 v10 v11 v12 v13 v14 v15 v16 v17 v18 v129 v130 v131 v132 v133 v134 v135 v136 v137 v138 v139 v140 v141 v142 v143 v144 v145 v146 v147 v148 v149 v150 v151 v152 v153 v154 v155 v156 v157 v158 v159 v160 v161 v162 v163 v164 v165 v166 v167 v168 v169 v170 v171 v172 v173 v174 v175 v176 v177 v178 v179 v180 v181 v182 v183 v184 v185 v186 v187 v188 v189 v190 v191 v192 v193 v194 v195 v196 v197 v198 v199 v200 v201 v202 v203 v204 v205 v206 v207 v208 v209 v210 v211 v212 v213 v214 v215 v216 v217 v218 v219 v220 v221 v222 v223 v224 v225 v226 v227 v228 v229 v230 v231 v232 v233 v234 v235 v236 : Value) (W : World), KJ (i + 3) d kb (some (keepB, keepB)) wl W → Q .normal ⟨#[c0, c1, v2, c3, dptr d, c5, .slice (some ⟨kb, 0, none⟩) 85 85, c7, .pointer (some ⟨g, 0, none⟩), v9, v10, v11, v12, v13, v14, v15, v16, v17, v18, c19, c20, c21, c22, c23, c24, c25, c26, c27, c28, c29, c30, c31, c32, c33, c34, c35, c36, c37, c38, c39, c40, c41, c42, c43, c44, c45, c46, c47, c48, c49, c50, c51, c52, c53, c54, c55, c56, c57, c58, c59, c60, c61, c62, c63, c64, c65, c66, c67, c68, c69, c70, c71, c72, c73, c74, c75, c76, c77, c78, c79, c80, c81, c82, c83, c84, c85, c86, c87, c88, c89, c90, c91, c92, c93, c94, c95, c96, c97, c98, c99, c100, c101, c102, c103, c104, c105, c106, c107, c108, c109, c110, c111, c112, c113, c114, c115, c116, c117, c118, c119, c120, c121, c122, c123, .bool true, c125, c126, c127, c128, v129, v130, v131, v132, v133, v134, v135, v136, v137, v138, v139, v140, v141, v142, v143, v144, v145, v146, v147, v148, v149, v150, v151, v152, v153, v154, v155, v156, v157, v158, v159, v160, v161, v162, v163, v164, v165, v166, v167, v168, v169, v170, v171, v172, v173, v174, v175, v176, v177, v178, v179, v180, v181, v182, v183, v184, v185, v186, v187, v188, v189, v190, v191, v192, v193, v194, v195, v196, v197, v198, v199, v200, v201, v202, v203, v204, v205, v206, v207, v208, v209, v210, v211, v212, v213, v214, v215, v216, v217, v218, v219, v220, v221, v222, v223, v224, v225, v226, v227, v228, v229, v230, v231, v232, v233, v234, v235, v236, c237], []⟩ W)) :
    Code.wp Try.prog code31 Q ⟨#[c0, c1, c2, c3, dptr d, c5, .slice (some ⟨kb, 0, none⟩) 85 85, c7, .pointer (some ⟨g, 0, none⟩), c9, c10, c11, c12, c13, c14, c15, c16, c17, c18, c19, c20, c21, c22, c23, c24, c25, c26, c27, c28, c29, c30, c31, c32, c33, c34, c35, c36, c37, c38, c39, c40, c41, c42, c43, c44, c45, c46, c47, c48, c49, c50, c51, c52, c53, c54, c55, c56, c57, c58, c59, c60, c61, c62, c63, c64, c65, c66, c67, c68, c69, c70, c71, c72, c73, c74, c75, c76, c77, c78, c79, c80, c81, c82, c83, c84, c85, c86, c87, c88, c89, c90, c91, c92, c93, c94, c95, c96, c97, c98, c99, c100, c101, c102, c103, c104, c105, c106, c107, c108, c109, c110, c111, c112, c113, c114, c115, c116, c117, c118, c119, c120, c121, c122, c123, .bool true, c125, c126, c127, c128, c129, c130, c131, c132, c133, c134, c135, c136, c137, c138, c139, c140, c141, c142, c143, c144, c145, c146, c147, c148, c149, c150, c151, c152, c153, c154, c155, c156, c157, c158, c159, c160, c161, c162, c163, c164, c165, c166, c167, c168, c169, c170, c171, c172, c173, c174, c175, c176, c177, c178, c179, c180, c181, c182, c183, c184, c185, c186, c187, c188, c189, c190, c191, c192, c193, c194, c195, c196, c197, c198, c199, c200, c201, c202, c203, c204, c205, c206, c207, c208, c209, c210, c211, c212, c213, c214, c215, c216, c217, c218, c219, c220, c221, c222, c223, c224, c225, c226, c227, c228, c229, c230, c231, c232, c233, c234, c235, c236, c237], []⟩ (W10.drewN n0) := by
  conv => arg 2; whnf
  go_wp2_with (go_at_call 11
               refine (kj_crash (HK10.out.drewN _) (Kd.C_drewN HC5.out _) HL5.out).mono ?_
               rintro e W11 ⟨A6, c6, X, rfl, hT, hK11⟩
               have HX11 := Aside0.mk (And.intro hT hK11)
               clear hT hK11)
  go_loopg [10, 11] X.length (fun kq v10 v11 w' => ∃ (bo : Bool) (z : Int), v10 = .bool bo ∧ v11 = .int .i64 z ∧ Aside0 (∃ j : Nat, z = j ∧ j + kq = X.length ∧ bo = (X.take j).any (fun q => decide (q.f0 = sK)) ∧ ∃ n, w' = W11.drewN n))
  case atStart => exact ⟨false, 0, rfl, rfl, ⟨0, rfl, by omega, rfl, 0, rfl⟩⟩
  case round =>
    obtain ⟨bo, z, rfl, rfl, HJ⟩ := hrel
    obtain ⟨j, hzj, hjk, hbo, nj, hwj⟩ := HJ.out
    have hcw : ∀ p, wr.cell? p = W11.cell? p := fun p => by rw [hwj]; rfl
    cases gk with
    | zero =>
      have c1 : decide (z < (X.length : Int)) = false := by simp; omega
      have hb1 : bo = true := by rw [hbo, show j = X.length from by omega]; exact HX11.out.1.1.any
      subst hb1
      have HWJ := Aside0.mk hwj
      clear hzj hjk hbo hwj hcw HJ
      have HCX : Aside0 (Kd.C k50 wr A6 X.length X) := ⟨by rw [HWJ.out]; exact Kd.C_drewN HX11.out.1.2.2 _⟩
      have HK12 : Aside0 (KJ (i + 2) d kb (some (keepB, keepB)) wl wr) := ⟨by rw [HWJ.out]; exact HX11.out.2.drewN _⟩
      have hXf := HX11.out.1.1.files
      have HXF := Aside0.mk hXf
      have hx16 : X.length ≤ 16 := hXf.few
      clear hXf
      go_wp2_with (first
        | (go_at_call 21; refine (copy_X HXF.out HCX.out HX11.out.1.2.1).mono ?_; rintro e W13 ⟨A7, c7, rfl, hC7, hB13⟩; have H13 := Aside0.mk (And.intro hC7 hB13); clear hC7 hB13)
        | (go_at_call 9; refine (new_X HXF.out H13.out.1.1 H13.out.1.2).mono ?_; rintro e W14 ⟨d2, ok2, rfl, hD2, hB14⟩; have H14 := Aside0.mk (And.intro hD2 (H13.out.2.trans (hB14.mono H13.out.2.size))); clear hD2 hB14)
        | (go_at_call 10; refine (num_any _ _).mono ?_; rintro e w' ⟨rfl, n, rfl⟩)
        | (go_at_call 22; refine (list_new HXF.out (H14.out.1.at_.drewN _)).mono ?_; rintro e W15 ⟨A8, c8, rfl, hC8, hB15⟩; have H15 := Aside0.mk (And.intro hC8 (And.intro ((H14.out.1.drewN _).below hB15) ((pw_below_drewN H14.out.2 _).trans (hB15.mono H14.out.2.size)))); clear hC8 hB15)
        | (go_at_call 11; refine (crash_five HXF.out (H15.out.2.1.drewN _)).mono ?_; rintro e W16 ⟨A9, c9, rfl, hC9, hB16⟩; have H16 := Aside0.mk (And.intro hC9 (And.intro ((pw_below_drewN H15.out.2.2 _).trans (hB16.mono H15.out.2.2.size)) ((pw_below_drewN (Below.refl W15.heap.size W15) _).trans hB16))); clear hC9 hB16)
        | (go_at_call 18; refine (eqfiles_any H16.out.1.1 H16.out.1.2 (Kd.C_below HCX.out H16.out.2.1) HX11.out.1.2.1 HXF.out.few (fun q hq => (HXF.out.each q hq).2)).mono ?_; rintro e W17 ⟨rfl, hB17⟩; have H17 := Aside0.mk (And.intro (H16.out.2.1.trans (hB17.mono H16.out.2.1.size)) (H16.out.2.2.trans (hB17.mono H16.out.2.2.size))); clear hB17))
      have HS15 : Aside0 (Kd.string.C W15 A8 X.length (X.map (·.f0)) ∧ X.length ≤ c8) := ⟨H15.out.1⟩
      have HW : Aside0 (KJ (i + 2) d kb (some (keepB, keepB)) wl W17 ∧ DJ [] 0 d2 W13.heap.size (newM X []) ok2 W17 ∧ Kd.string.C W17 A8 X.length (X.map (·.f0)) ∧ Kd.C k50 W17 A6 X.length X) := ⟨by
        obtain ⟨h17, h18⟩ := H17.out
        exact ⟨(HK12.out.of_below h17), H15.out.2.1.below h18, Kd.C_below H15.out.1.1 h18, Kd.C_below HCX.out h17⟩⟩
      clear HS15 H13 H14 H15 H16 H17
      go_loopg [16] X.length (fun kq v16 w' => ∃ z2 : Int, v16 = .int .i64 z2 ∧ Aside0 (∃ j : Nat, z2 = j ∧ j + kq = X.length ∧ Below W17.heap.size W17 w'))
      case atStart => exact ⟨0, rfl, ⟨0, rfl, by omega, Below.refl _ _⟩⟩
      case round =>
        obtain ⟨z2, rfl, HJ2⟩ := hrel
        cases gk with
        | zero =>
          have c2 : decide (z2 < (X.length : Int)) = false := by obtain ⟨j, h1, h2, _⟩ := HJ2.out; simp; omega
          go_wp2
          exact HK0.out _ _ _ _ _ _ _ _ _ _ _ _ _ _ _ _ _ _ _ _ _ _ _ _ _ _ _ _ _ _ _ _ _ _ _ _ _ _ _ _ _ _ _ _ _ _ _ _ _ _ _ _ _ _ _ _ _ _ _ _ _ _ _ _ _ _ _ _ _ _ _ _ _ _ _ _ _ _ _ _ _ _ _ _ _ _ _ _ _ _ _ _ _ _ _ _ _ _ _ _ _ _ _ _ _ _ _ _ _ _ _ _ _ _ _ _ _ _ _ _ (by obtain ⟨j, h1, h2, h3⟩ := HJ2.out; exact (HW.out.1.of_below h3).up (by omega))
        | succ kj =>
          obtain ⟨j2, hzj, hjk, hBj⟩ := HJ2.out
          have c2 : decide (z2 < (X.length : Int)) = true := by simp; omega
          have p1 : 0 ≤ z2 := by omega
          have p2 : z2 < (X.length : Int) := by omega
          have hjl : j2 < X.length := by omega
          obtain ⟨ad3, e3, hs3⟩ := Kd.at_string (Kd.C_below HW.out.2.2.1 hBj) z2 p1 p2
          cases e3
          obtain ⟨ad4, A10, c10, e4, hq0, hq1, hl10, hi10⟩ := at_T50 (Kd.C_below HW.out.2.2.2 hBj) z2 p1 p2
          cases e4
          have hrd : rdOf ByteArray.empty (X.map (·.f0)) z2 = (rd_T50 X z2).f0 := by
            rw [hzj, rd50_nat X j2 hjl]
            unfold rdOf
            rw [Int.toNat_natCast, List.getD_eq_getElem?_getD, List.getElem?_map, List.getElem?_eq_getElem hjl]; rfl
          rw [hrd] at hs3
          have hmem : rd_T50 X z2 ∈ X := by rw [hzj, rd50_nat X j2 hjl]; exact List.getElem_mem hjl
          have hblk3 := World.block_lt_of_cell? _ _ hs3
          have hblk4 := World.block_lt_of_cell? _ _ hq0
          have hblk5 := World.block_lt_of_cell? _ _ hq1
          obtain ⟨z3, hz3⟩ : ∃ z3, IntKind.i64.wrap (z2 + 1) = z3 := ⟨_, rfl⟩
          have HZ3 : Aside0 (z3 = z2 + 1 ∧ z2 = j2 ∧ j2 + (kj + 1) = X.length ∧ Below W17.heap.size W17 wr) := ⟨⟨by rw [← hz3, IntKind.wrap_i64]; omega, hzj, hjk, hBj⟩⟩
          have HRD := Aside0.mk (read_new HXF.out (HW.out.2.1.below hBj).at_ hmem)
          generalize rd_T50 X z2 = q at *
          generalize hLq : q.f1.length = Lq at *
          have HQ := Aside0.mk (And.intro hLq (And.intro hl10 (And.intro hi10 hmem)))
          clear hLq hl10 hi10 hmem hrd hzj hjk hBj hjl HJ2
          go_wp2_with (go_at_call 23
                       refine HRD.out.mono ?_
                       rintro e W18 ⟨A11, c11, rfl, hC11, hB18⟩
                       have HR18 := Aside0.mk (And.intro hC11 hB18)
                       replace hs3 := (hB18.cell hblk3).trans hs3
                       replace hq0 := (hB18.cell hblk4).trans hq0
                       replace hq1 := (hB18.cell hblk5).trans hq1
                       clear hC11 hB18)
          have HEQ : Aside0 (∀ W, Below W18.heap.size W18 W → Calls Try.prog 20 #[.slice A11 Lq c11, .slice A10 Lq c10] W fun e w' => e = .returned (.bool true) ∧ ∃ n, w' = W.drewN n) := ⟨fun W hb => by
            obtain ⟨hLq, hl10, hi10, hmem⟩ := HQ.out
            have hb2 := HR18.out.2
            have := eqbytes_any (Kd.C_below HR18.out.1.1 hb) HR18.out.1.2 (Kd.C_below (Kd.C_below hi10 hb2) hb) hl10 (by have := (HXF.out.each q hmem).2; omega)
            rw [decide_eq_true rfl] at this
            exact this⟩
          clear hblk3 hblk4 hblk5 c2 hz3
          go_quiet ((first | (go_at_call 10; exact Calls.quiet_of (num_any _ _)) | (go_at_call 20; exact Calls.quiet_of (HEQ.out _ (pw_below_drewN (Below.refl _ _) _))) | (go_at_call 20; exact Calls.quiet_of (HEQ.out _ (Below.refl _ _)))))
          go_wp2
          go_roundg kj
          case measure => omega
          case rel =>
            obtain ⟨h1, h2, h3, h4⟩ := HZ3.out
            exact ⟨z2 + 1, rfl, ⟨j2 + 1, by omega, by omega, pw_below_drewN (h4.trans (HR18.out.2.mono h4.size)) _⟩⟩
    | succ kj =>
      have c1 : decide (z < (X.length : Int)) = true := by simp; omega
      have p1 : 0 ≤ z := by omega
      have p2 : z < (X.length : Int) := by omega
      have hjl : j < X.length := by omega
      obtain ⟨ad4, A10, c10, e4, hq0, hq1, hl10, hi10⟩ := at_T50 HX11.out.1.2.2 z p1 p2
      cases e4
      replace hq0 := (hcw _).trans hq0
      replace hq1 := (hcw _).trans hq1
      have hrd := rd50_nat X j hjl
      rw [← hzj] at hrd
      have hmem : rd_T50 X z ∈ X := by rw [hrd]; exact List.getElem_mem hjl
      have hnext := any_take hjl
      rw [← hrd, ← hbo] at hnext
      have hi10' : U8.C wr A10 (rd_T50 X z).f1.length (rd_T50 X z).f1 := by rw [hwj]; exact Kd.C_drewN hi10 _
      have hkeep : KeepAt wr kb := by rw [hwj]; exact (HX11.out.2.drewN _).keep
      obtain ⟨z3, hz3⟩ : ∃ z3, IntKind.i64.wrap (z + 1) = z3 := ⟨_, rfl⟩
      have HZ3 : Aside0 (z3 = z + 1 ∧ z = j ∧ j + (kj + 1) = X.length ∧ wr = W11.drewN nj) := ⟨⟨by rw [← hz3, IntKind.wrap_i64]; have := HX11.out.1.1.files.few; omega, hzj, hjk, hwj⟩⟩
      generalize rd_T50 X z = q at *
      have hbq := beq_sK q.f0
      have HNX := Aside0.mk hnext
      have hbig := (HX11.out.1.1.files.each q hmem).2
      clear hrd hnext hjl hbo hwj hcw hzj hjk HJ
      cases bo with
      | true =>
        clear hq0 hq1 hi10 hi10' hl10 hbq hkeep
        go_wp2
        go_roundg kj
        case measure => omega
        case rel =>
          obtain ⟨h1, h2, h3, h4⟩ := HZ3.out
          exact ⟨true, z3, rfl, rfl, ⟨j + 1, by omega, by omega, by rw [HNX.out]; rfl, nj, h4⟩⟩
      | false =>
        by_cases hs : q.f0 = sK
        · have ht : (q.f0.toList == [107, 101, 112, 116]) = true := by rw [hbq]; simp [hs]
          have hd := HX11.out.1.1.is_ q hmem hs
          have HEQ : Aside0 (Calls Try.prog 20 #[.slice A10 q.f1.length c10, .slice (some ⟨kb, 0, none⟩) 85 85] wr fun e w' => e = .returned (.bool true) ∧ ∃ n, w' = wr.drewN n) := ⟨by
            have := eqbytes_any hi10' hl10 hkeep.C (c2 := 85) (by omega) (by omega)
            rw [decide_eq_true hd] at this
            exact this⟩
          have HNX2 : Aside0 ((X.take (j + 1)).any (fun q => decide (q.f0 = sK)) = true) := ⟨by rw [HNX.out]; simp [hs]⟩
          generalize q.f1.length = Lq at *
          clear hi10 hi10' hl10 hbq hkeep hs hd HNX hbig hmem
          go_wp2_with (go_at_call 20; refine HEQ.out.mono ?_; rintro e w' ⟨rfl, n, rfl⟩)
          go_roundg kj
          case measure => omega
          case rel =>
            obtain ⟨h1, h2, h3, h4⟩ := HZ3.out
            exact ⟨true, z3, rfl, rfl, ⟨j + 1, by omega, by omega, HNX2.out.symm, nj + n, by rw [h4]; exact World.drewN_drewN _ _ _⟩⟩
        · have ht : (q.f0.toList == [107, 101, 112, 116]) = false := by rw [hbq]; simp [hs]
          have HNX2 : Aside0 ((X.take (j + 1)).any (fun q => decide (q.f0 = sK)) = false) := ⟨by rw [HNX.out]; simp [hs]⟩
          clear hq1 hi10 hi10' hl10 hbq hkeep hs HNX hbig hmem
          go_wp2
          go_roundg kj
          case measure => omega
          case rel =>
            obtain ⟨h1, h2, h3, h4⟩ := HZ3.out
            exact ⟨false, z3, rfl, rfl, ⟨j + 1, by omega, by omega, HNX2.out.symm, nj, h4⟩⟩
end Go.Proofs.Ytgpniaplpibhfaa

/-
  The reference's Log: a change is put into its place in the row of changes.
-/
import Derived.Test.YthiaaminkfkjpaaGreatGam
import Derived.Test.YthiaaminkfkjpaaGreatGap
import Derived.Test.YthiaaminkfkjpaaGreatGae
import Derived.Deep.DeepCutAuto
import Derived.Deep.RegionLaw
import Derived.StillTailTactics
namespace Go.Proofs.YthiaaminkfkjpaaGreat
open Go.RowKit

theorem infoChg : (Tryz.prog.info? 65).map (fun i => (i.zero, i.size, i.bytes)) = some (some (.agg #[.int .i64 0, .int .i64 0, .bool false, .int .i64 0, .int .i64 0, .int .i64 0, .bool false, .int .i64 0, .int .i64 0, .int .i64 0]), 10, 80) := by kernel_rfl
theorem etChg : ∃ i0, ET Tryz.prog 42 65 10 80 i0 (.agg #[.int .i64 0, .int .i64 0, .bool false, .int .i64 0, .int .i64 0, .int .i64 0, .bool false, .int .i64 0, .int .i64 0, .int .i64 0]) := by
  obtain ⟨i0, hi, hz0, hz1, hz2⟩ := info_parts infoChg
  exact ⟨i0, Tryz.underlying42, hi, hz0, hz1, hz2, rfl, by decide⟩
theorem infoRec : (Tryz.prog.info? 44).map (fun i => (i.zero, i.size, i.bytes)) = some (some (.agg #[.int .i64 0, .slice none 0 0]), 2, 32) := by kernel_rfl
theorem etRec : ∃ i0, ET Tryz.prog 26 44 2 32 i0 (.agg #[.int .i64 0, .slice none 0 0]) := by
  obtain ⟨i0, hi, hz0, hz1, hz2⟩ := info_parts infoRec
  exact ⟨i0, Tryz.underlying26, hi, hz0, hz1, hz2, rfl, by decide⟩

theorem got_shape (o : Option RowV) : ∃ (a b x y z : Int) (had : Bool), gotVal o = .tuple #[.agg #[.int .i64 a, .int .i64 b, .int .i64 x, .int .i64 y, .int .i64 z], .bool had] := by
  cases o with
  | none => exact ⟨0, 0, 0, 0, 0, false, rfl⟩
  | some r => exact ⟨r.t, r.k, r.x, r.y, r.z, true, rfl⟩

theorem OwnL.holdsC {w : World} {A : Option Addr} {n cap : Nat} {cs : List Chg} (h : OwnL 65 10 Chg.cells w (.slice A n cap) cs) : HoldsC w A cs := by
  refine ⟨(h.at1 Chg.len).1, fun hl ad e => ?_⟩
  rcases h.2 with ⟨hv, _⟩ | ⟨g', cap', cur, hv, _, hh, _⟩
  · cases hv
    cases e
  · cases hv
    cases e
    exact ⟨_, _, hh⟩

theorem OwnL.ne2 {X Y : Type} {e size e' size' : Nat} {enc : X → List Value} {enc' : Y → List Value} {w : World} {v v' : Value} {L : List X} {L' : List Y} (h : OwnL e size enc w v L) (h' : OwnL e' size' enc' w v' L') (hne : e ≠ e') {g : Nat} (hg : v.ownBlock = some g) : v'.ownBlock ≠ some g := by
  intro hg'
  rcases h'.2 with ⟨rfl, _⟩ | ⟨g', cap, cur, rfl, _, hh, _⟩
  · simp [Value.ownBlock] at hg'
  · simp [Value.ownBlock] at hg'
    subst hg'
    exact h.ne (b := g') hh hne hg rfl

theorem OwnL.noC {X : Type} {e size : Nat} {enc : X → List Value} {w : World} {v : Value} {L : List X} (h : OwnL e size enc w v L) (hne : e ≠ 65) : NoC w v.ownBlock.toList := by
  intro s hs arr fz hh'
  rcases h.2 with ⟨rfl, _⟩ | ⟨g', cap, cur, rfl, _, hh, _⟩
  · simp [Value.ownBlock] at hs
  · simp [Value.ownBlock] at hs
    subst hs
    exact noC_blk (show Blk w _ e cur from hh) hne arr fz hh'
end Go.Proofs.YthiaaminkfkjpaaGreat
namespace Go.Proofs.YthiaaminkfkjpaaGreat
open Go.RowKit

/-- Between two rounds of the loop over the three pairs. -/
structure LgIn (w W : World) (v : Value) (k : Nat) : Prop where
  all : ∃ cs : List Chg, OwnL 65 10 Chg.cells W v cs ∧ (∀ c ∈ cs, LgC c) ∧ cs.length ≤ k
  fr : Fr [] w W
  own : ∀ g, v.ownBlock = some g → w.heap.size ≤ g

theorem LgIn.up {w W : World} {v : Value} {k : Nat} (h : LgIn w W v k) : LgIn w W v (k + 1) :=
  ⟨by obtain ⟨cs, h1, h2, h3⟩ := h.all; exact ⟨cs, h1, h2, by omega⟩, h.fr, h.own⟩

/-- The region of a number. -/
def regionOf (n : Nat) : Code → Option Code
  | .region i ops d => if i = n then some (.region i ops d) else none
  | .seq a b => match regionOf n a with
    | some c => some c
    | none => regionOf n b
  | .cond _ a b => match regionOf n a with
    | some c => some c
    | none => regionOf n b
  | .block _ c => regionOf n c
  | .loop c => regionOf n c
  | .scope c => regionOf n c
  | _ => none
/-- The region comes to its end, and nothing else. -/
@[reducible] def normalOnly (K : Act → World → Prop) : Exit → Act → World → Prop := fun e a w => match e with
  | .normal => K a w
  | _ => False
noncomputable def lgRegion : Code := ((Tryz.f5.body.bind (regionOf 32)).getD .skip)

set_option maxRecDepth 1000000 in
set_option maxHeartbeats 8000000 in
theorem lg_insert (cs : List Chg) (c : Chg) (Al : Option Addr) (cl gc j1 k : Nat) (Wo wc : World) (hfo : Hid (Fr [] Wo wc)) (hcw : Hid (Blk wc gc 65 c.cells.toArray)) (HOWc : Hid (OwnL 65 10 Chg.cells wc (.slice Al cs.length cl) cs))
    (hj1 : j1 ≤ cs.length) (hcl : cs.length ≤ k) (hk3 : k < 3) (HLC : Hid (LgC c)) (HSM : Hid (∀ c ∈ cs, LgC c)) (K : Act → World → Prop) (s0 s1 s2 s3 s4 s5 s7 s8 s9 s11 s12 s13 s14 s16 s17 s18 s19 s20 s21 s22 s23 s24 s25 s26 s27 s28 s29 s30 s31 s32 s33 s34 s35 s36 s37 s38 s39 s40 s41 s42 s43 s44 s45 s46 s47 s48 s49 s50 s51 s52 s53 s54 s55 s56 s57 s58 s59 s60 s61 s62 s63 s64 s65 s66 s67 s68 s69 s70 s71 s72 s73 s74 s75 s76 s77 s78 s79 s80 s81 s82 s83 s84 s85 s86 s87 s88 s89 s90 s91 s92 s93 s94 s95 s96 s97 s98 s99 s100 s101 s102 s103 s104 s105 s106 s107 s108 s109 s110 s111 s112 s113 s114 s115 s116 s117 s118 s119 s120 s121 s122 s123 s124 s125 s126 s127 s128 s129 s130 s131 s132 s133 s134 s135 s136 s137 s138 s139 s140 s141 s142 s143 s144 s145 s146 s147 s148 s149 s150 s151 s152 s153 s154 s155 s156 s157 s158 s159 s160 s161 s162 s163 s164 s165 s166 s167 s168 s169 s170 s171 s172 s173 s174 s175 s176 s177 s178 s179 s180 s181 s182 s183 s184 s185 s186 s187 s188 s189 s190 s191 s192 s193 s194 s195 s196 s197 s198 s199 s200 s201 s202 s203 s204 s205 s206 s207 s208 s209 s210 s211 s212 s213 s214 s215 s216 : Value)
    (h : ∀ (A2 : Option Addr) (n2 c2 : Nat) (w2' : World) (v189 v190 v191 v192 v193 v194 v195 v196 v197 v198 v199 : Value), Hid (LgIn Wo w2' (.slice A2 n2 c2) (k + 1)) → K ⟨#[s0, s1, s2, s3, s4, s5, .slice A2 n2 c2, s7, s8, s9, .pointer (some ⟨gc, 0, none⟩), s11, s12, s13, s14, .int .i64 j1, s16, s17, s18, s19, s20, s21, s22, s23, s24, s25, s26, s27, s28, s29, s30, s31, s32, s33, s34, s35, s36, s37, s38, s39, s40, s41, s42, s43, s44, s45, s46, s47, s48, s49, s50, s51, s52, s53, s54, s55, s56, s57, s58, s59, s60, s61, s62, s63, s64, s65, s66, s67, s68, s69, s70, s71, s72, s73, s74, s75, s76, s77, s78, s79, s80, s81, s82, s83, s84, s85, s86, s87, s88, s89, s90, s91, s92, s93, s94, s95, s96, s97, s98, s99, s100, s101, s102, s103, s104, s105, s106, s107, s108, s109, s110, s111, s112, s113, s114, s115, s116, s117, s118, s119, s120, s121, s122, s123, s124, s125, s126, s127, s128, s129, s130, s131, s132, s133, s134, s135, s136, s137, s138, s139, s140, s141, s142, s143, s144, s145, s146, s147, s148, s149, s150, s151, s152, s153, s154, s155, s156, s157, s158, s159, s160, s161, s162, s163, s164, s165, s166, s167, s168, s169, s170, s171, s172, s173, s174, s175, s176, s177, s178, s179, s180, s181, s182, s183, s184, s185, s186, s187, s188, v189, v190, v191, v192, v193, v194, v195, v196, v197, v198, v199, s200, s201, s202, s203, s204, s205, s206, s207, s208, s209, s210, s211, s212, s213, s214, s215, s216], []⟩ w2') :
    Code.wp Tryz.prog lgRegion (normalOnly K) ⟨#[s0, s1, s2, s3, s4, s5, .slice Al cs.length cl, s7, s8, s9, .pointer (some ⟨gc, 0, none⟩), s11, s12, s13, s14, .int .i64 j1, s16, s17, s18, s19, s20, s21, s22, s23, s24, s25, s26, s27, s28, s29, s30, s31, s32, s33, s34, s35, s36, s37, s38, s39, s40, s41, s42, s43, s44, s45, s46, s47, s48, s49, s50, s51, s52, s53, s54, s55, s56, s57, s58, s59, s60, s61, s62, s63, s64, s65, s66, s67, s68, s69, s70, s71, s72, s73, s74, s75, s76, s77, s78, s79, s80, s81, s82, s83, s84, s85, s86, s87, s88, s89, s90, s91, s92, s93, s94, s95, s96, s97, s98, s99, s100, s101, s102, s103, s104, s105, s106, s107, s108, s109, s110, s111, s112, s113, s114, s115, s116, s117, s118, s119, s120, s121, s122, s123, s124, s125, s126, s127, s128, s129, s130, s131, s132, s133, s134, s135, s136, s137, s138, s139, s140, s141, s142, s143, s144, s145, s146, s147, s148, s149, s150, s151, s152, s153, s154, s155, s156, s157, s158, s159, s160, s161, s162, s163, s164, s165, s166, s167, s168, s169, s170, s171, s172, s173, s174, s175, s176, s177, s178, s179, s180, s181, s182, s183, s184, s185, s186, s187, s188, s189, s190, s191, s192, s193, s194, s195, s196, s197, s198, s199, s200, s201, s202, s203, s204, s205, s206, s207, s208, s209, s210, s211, s212, s213, s214, s215, s216], []⟩ wc := by
  obtain ⟨i0, TR⟩ := etChg
  have y0 : wc.cell? ⟨gc, 0, none⟩ = some (.int .i64 c.t) := hcw.out.cell 0
  have y1 : wc.cell? ⟨gc, 1, none⟩ = some (.int .i64 c.k) := hcw.out.cell 1
  have y2 : wc.cell? ⟨gc, 2, none⟩ = some (.bool c.had) := hcw.out.cell 2
  have y3 : wc.cell? ⟨gc, 3, none⟩ = some (.int .i64 c.o0) := hcw.out.cell 3
  have y4 : wc.cell? ⟨gc, 4, none⟩ = some (.int .i64 c.o1) := hcw.out.cell 4
  have y5 : wc.cell? ⟨gc, 5, none⟩ = some (.int .i64 c.o2) := hcw.out.cell 5
  have y6 : wc.cell? ⟨gc, 6, none⟩ = some (.bool c.has) := hcw.out.cell 6
  have y7 : wc.cell? ⟨gc, 7, none⟩ = some (.int .i64 c.n0) := hcw.out.cell 7
  have y8 : wc.cell? ⟨gc, 8, none⟩ = some (.int .i64 c.n1) := hcw.out.cell 8
  have y9 : wc.cell? ⟨gc, 9, none⟩ = some (.int .i64 c.n2) := hcw.out.cell 9
  have hlt3 := hcw.out.lt
  have hrd3 := Lib.hid (HOWc.out.reads rfl)
  have hcap3 : cs.length ≤ cl := own_cap2 HOWc.out
  have hjco : j1 ≤ cl := by omega
  conv => arg 2; whnf
  by_cases hj0 : 0 < j1
  · obtain ⟨gR, capR, hA, hnc, hcm, hgR, hcell, hfz⟩ := HOWc.out.form Chg.len (by omega)
    cases hA
    clear hcell hfz
    by_cases hjR : j1 < cs.length
    · skip
      have hjl : Hid ((cs.take j1).length = j1) := Lib.hid (by rw [List.length_take]; omega)
      have htk3 := Lib.hid (hrd3.out.takeL Chg.len (k := j1) (by omega))
      have hcne : ¬ cl = j1 := by omega
      have hdr3 := Lib.hid (hrd3.out.from_ Chg.len (k := j1) (off := j1 * 10) (by omega) rfl)
      have hdl3 : Hid (cs.length - j1 = (cs.drop j1).length) := Lib.hid (by rw [List.length_drop])
      have hb1 : Hid ([c].length + (cs.drop j1).length ≤ 2020) := Lib.hid (by simp only [List.length_singleton, List.length_drop]; omega)
      have hb2 : Hid ((cs.take j1).length + ([c] ++ (cs.drop j1)).length ≤ 2020) := Lib.hid (by simp only [List.length_append, List.length_take, List.length_singleton, List.length_drop]; omega)
      have hmx : Hid ((2020 : Nat) ≤ maxLen) := Lib.hid (by decide)
      first
        | go_region_law (first
          | (refine step_appendL rfl _ _ rfl TR Chg.len Chg.one rfl (own_new _ c Chg.len) _ _ _ _ (cs.drop j1) rfl hdl3.out (hdr3.out.alloc (Nat.le_refl _) _) (Nat.le_trans hb1.out hmx.out) (Nat.le_trans (Nat.mul_le_mul_right 80 hb1.out) (by decide)) ?_; intro v1 w1' hrow1' hg1 hat1; have htk1 := Lib.hid ((htk3.out.drew.alloc (Nat.le_refl _) (.cells #[.int .i64 c.t, .int .i64 c.k, .bool c.had, .int .i64 c.o0, .int .i64 c.o1, .int .i64 c.o2, .bool c.has, .int .i64 c.n0, .int .i64 c.n1, .int .i64 c.n2] 65)).grown hg1 (by rw [World.size_alloc]; exact Nat.le_succ _) (fun g hg => Nat.le_of_eq (Option.some.inj hg))); have hrow1 := Lib.hid hrow1'; have HG1 := Lib.hid hg1; have HA1 := Lib.hid hat1; obtain ⟨A1, n1, cap1, hv1, hn1, hrd1, hn1p⟩ := own_open hrow1' (by simp only [List.length_append, List.length_cons]; omega); subst hv1; have HN1 := Lib.hid hn1; have HRD1 := Lib.hid hrd1; clear hrow1' hg1 hat1 hn1 hrd1)
          | (refine step_append_fullL rfl _ _ rfl TR Chg.one _ _ _ _ rfl (L := cs.take j1) hjl.out.symm htk1.out (Nat.le_refl _) _ _ _ _ (N := [c] ++ (cs.drop j1)) rfl HN1.out hn1p HRD1.out (Nat.le_trans hb2.out hmx.out) (Nat.le_trans (Nat.mul_le_mul_right 80 hb2.out) (by decide)) ?_; intro v2 w2' hrow2' hg2 hat2; have HR2 := Lib.hid hrow2'; have HG2 := Lib.hid hg2; have HA2 := Lib.hid hat2; obtain ⟨A2, n2, cap2, hv2, hn2, hrd2, hn2p⟩ := own_open hrow2' (by simp only [List.length_append, List.length_cons]; omega); subst hv2; have HN2 := Lib.hid hn2; clear hrow2' hg2 hat2 hn2 hrd2))
        | fail "law"
      have HFN := Lib.hid ((((hfo.out.drew).alloc (.cells #[.int .i64 c.t, .int .i64 c.k, .bool c.had, .int .i64 c.o0, .int .i64 c.o1, .int .i64 c.o2, .bool c.has, .int .i64 c.n0, .int .i64 c.n1, .int .i64 c.n2] 65)).grown HG1.out (fun g hg => .inr (by
        have h1 := hfo.out.size
        have h5 : wc.heap.size = g := Option.some.inj hg
        omega))).grown HG2.out (fun g hg => by cases hg))
      have R3 : Hid (LgIn Wo w2' (.slice A2 n2 cap2) (k + 1)) := Lib.hid ⟨⟨(cs.take j1) ++ ([c] ++ (cs.drop j1)), HR2.out, fun q hq => by
          rcases List.mem_append.1 hq with h1 | h1
          · exact HSM.out q (List.mem_of_mem_take h1)
          · rcases List.mem_append.1 h1 with h2 | h2
            · rw [List.mem_singleton] at h2
              subst h2
              exact HLC.out
            · exact HSM.out q (List.mem_of_mem_drop h2), by simp only [List.length_append, List.length_take, List.length_drop, List.length_singleton]; omega⟩, HFN.out, fun g hg => by
          have h1 := HA2.out
          rw [hg] at h1
          injection h1 with h1
          have h2 := HG1.out.size
          have h4 := hfo.out.size
          simp at h2
          omega⟩
      exact h A2 n2 cap2 w2' _ _ _ _ _ _ _ _ _ _ _ R3
    · skip
      have hjl : Hid ((cs.take j1).length = j1) := Lib.hid (by rw [List.length_take]; omega)
      have htk3 := Lib.hid (hrd3.out.takeL Chg.len (k := j1) (by omega))
      have hdl3 : Hid (cs.length - j1 = ([] : List Chg).length) := Lib.hid (by simp; omega)
      have hb1 : Hid ([c].length + ([] : List Chg).length ≤ 2020) := Lib.hid (by simp only [List.length_singleton, List.length_nil]; omega)
      have hb2 : Hid ((cs.take j1).length + ([c] ++ ([] : List Chg)).length ≤ 2020) := Lib.hid (by simp only [List.length_append, List.length_take, List.length_singleton, List.length_nil]; omega)
      have hmx : Hid ((2020 : Nat) ≤ maxLen) := Lib.hid (by decide)
      first
        | go_region_law (first
          | (refine step_appendL rfl _ _ rfl TR Chg.len Chg.one rfl (own_new _ c Chg.len) 0 _ _ _ ([] : List Chg) rfl hdl3.out (reads_none hdl3.out) (Nat.le_trans hb1.out hmx.out) (Nat.le_trans (Nat.mul_le_mul_right 80 hb1.out) (by decide)) ?_; intro v1 w1' hrow1' hg1 hat1; have htk1 := Lib.hid ((htk3.out.drew.alloc (Nat.le_refl _) (.cells #[.int .i64 c.t, .int .i64 c.k, .bool c.had, .int .i64 c.o0, .int .i64 c.o1, .int .i64 c.o2, .bool c.has, .int .i64 c.n0, .int .i64 c.n1, .int .i64 c.n2] 65)).grown hg1 (by rw [World.size_alloc]; exact Nat.le_succ _) (fun g hg => Nat.le_of_eq (Option.some.inj hg))); have hrow1 := Lib.hid hrow1'; have HG1 := Lib.hid hg1; have HA1 := Lib.hid hat1; obtain ⟨A1, n1, cap1, hv1, hn1, hrd1, hn1p⟩ := own_open hrow1' (by simp only [List.length_append, List.length_cons]; omega); subst hv1; have HN1 := Lib.hid hn1; have HRD1 := Lib.hid hrd1; clear hrow1' hg1 hat1 hn1 hrd1)
          | (refine step_append_fullL rfl _ _ rfl TR Chg.one _ _ _ _ rfl (L := cs.take j1) hjl.out.symm htk1.out (Nat.le_refl _) _ _ _ _ (N := [c] ++ ([] : List Chg)) rfl HN1.out hn1p HRD1.out (Nat.le_trans hb2.out hmx.out) (Nat.le_trans (Nat.mul_le_mul_right 80 hb2.out) (by decide)) ?_; intro v2 w2' hrow2' hg2 hat2; have HR2 := Lib.hid hrow2'; have HG2 := Lib.hid hg2; have HA2 := Lib.hid hat2; obtain ⟨A2, n2, cap2, hv2, hn2, hrd2, hn2p⟩ := own_open hrow2' (by simp only [List.length_append, List.length_cons]; omega); subst hv2; have HN2 := Lib.hid hn2; clear hrow2' hg2 hat2 hn2 hrd2))
        | fail "law"
      have HFN := Lib.hid ((((hfo.out.drew).alloc (.cells #[.int .i64 c.t, .int .i64 c.k, .bool c.had, .int .i64 c.o0, .int .i64 c.o1, .int .i64 c.o2, .bool c.has, .int .i64 c.n0, .int .i64 c.n1, .int .i64 c.n2] 65)).grown HG1.out (fun g hg => .inr (by
        have h1 := hfo.out.size
        have h5 : wc.heap.size = g := Option.some.inj hg
        omega))).grown HG2.out (fun g hg => by cases hg))
      have R3 : Hid (LgIn Wo w2' (.slice A2 n2 cap2) (k + 1)) := Lib.hid ⟨⟨(cs.take j1) ++ ([c] ++ ([] : List Chg)), HR2.out, fun q hq => by
          rcases List.mem_append.1 hq with h1 | h1
          · exact HSM.out q (List.mem_of_mem_take h1)
          · rcases List.mem_append.1 h1 with h2 | h2
            · rw [List.mem_singleton] at h2
              subst h2
              exact HLC.out
            · exact absurd h2 (by simp), by simp only [List.length_append, List.length_take, List.length_singleton, List.length_nil]; omega⟩, HFN.out, fun g hg => by
          have h1 := HA2.out
          rw [hg] at h1
          injection h1 with h1
          have h2 := HG1.out.size
          have h4 := hfo.out.size
          simp at h2
          omega⟩
      exact h A2 n2 cap2 w2' _ _ _ _ _ _ _ _ _ _ _ R3
  · have hj00 : j1 = 0 := by omega
    subst hj00
    have hb1 : Hid ([c].length + cs.length ≤ 2020) := Lib.hid (by simp only [List.length_singleton]; omega)
    have hb2 : Hid ((cs.take 0).length + ([c] ++ cs).length ≤ 2020) := Lib.hid (by simp only [List.length_append, List.length_take, List.length_singleton]; omega)
    have hmx : Hid ((2020 : Nat) ≤ maxLen) := Lib.hid (by decide)
    first
      | go_region_law (first
        | (refine step_appendL rfl _ _ rfl TR Chg.len Chg.one rfl (own_new _ c Chg.len) _ _ _ _ cs rfl rfl (hrd3.out.alloc (Nat.le_refl _) _) (Nat.le_trans hb1.out hmx.out) (Nat.le_trans (Nat.mul_le_mul_right 80 hb1.out) (by decide)) ?_; intro v1 w1' hrow1' hg1 hat1; have hrow1 := Lib.hid hrow1'; have HG1 := Lib.hid hg1; have HA1 := Lib.hid hat1; obtain ⟨A1, n1, cap1, hv1, hn1, hrd1, hn1p⟩ := own_open hrow1' (by simp only [List.length_append, List.length_cons]; omega); subst hv1; have HN1 := Lib.hid hn1; have HRD1 := Lib.hid hrd1; clear hrow1' hg1 hat1 hn1 hrd1)
        | (refine step_append_fullL rfl _ _ rfl TR Chg.one 0 _ _ _ rfl (L := cs.take 0) rfl Reads.none_ (Nat.le_refl _) _ _ _ _ (N := [c] ++ cs) rfl HN1.out hn1p HRD1.out (Nat.le_trans hb2.out hmx.out) (Nat.le_trans (Nat.mul_le_mul_right 80 hb2.out) (by decide)) ?_; intro v2 w2' hrow2' hg2 hat2; have HR2 := Lib.hid hrow2'; have HG2 := Lib.hid hg2; have HA2 := Lib.hid hat2; obtain ⟨A2, n2, cap2, hv2, hn2, hrd2, hn2p⟩ := own_open hrow2' (by simp only [List.length_append, List.length_cons]; omega); subst hv2; have HN2 := Lib.hid hn2; clear hrow2' hg2 hat2 hn2 hrd2))
      | fail "law"
    have HFN := Lib.hid ((((hfo.out.drew).alloc (.cells #[.int .i64 c.t, .int .i64 c.k, .bool c.had, .int .i64 c.o0, .int .i64 c.o1, .int .i64 c.o2, .bool c.has, .int .i64 c.n0, .int .i64 c.n1, .int .i64 c.n2] 65)).grown HG1.out (fun g hg => .inr (by
      have h1 := hfo.out.size
      have h5 : wc.heap.size = g := Option.some.inj hg
      omega))).grown HG2.out (fun g hg => by cases hg))
    have R3 : Hid (LgIn Wo w2' (.slice A2 n2 cap2) (k + 1)) := Lib.hid ⟨⟨(cs.take 0) ++ ([c] ++ cs), HR2.out, fun q hq => by
        rcases List.mem_append.1 hq with h1 | h1
        · exact HSM.out q (List.mem_of_mem_take h1)
        · rcases List.mem_append.1 h1 with h2 | h2
          · rw [List.mem_singleton] at h2
            subst h2
            exact HLC.out
          · exact HSM.out q h2, by simp only [List.length_append, List.length_take, List.length_singleton]; omega⟩, HFN.out, fun g hg => by
        have h1 := HA2.out
        rw [hg] at h1
        injection h1 with h1
        have h2 := HG1.out.size
        have h4 := hfo.out.size
        simp at h2
        omega⟩
    exact h A2 n2 cap2 w2' _ _ _ _ _ _ _ _ _ _ _ R3

theorem lg_insert_any (C : Code) (hC : C = lgRegion) (cs : List Chg) (c : Chg) (Al : Option Addr) (cl gc j1 k : Nat) (Wo wc : World) (hfo : Hid (Fr [] Wo wc)) (hcw : Hid (Blk wc gc 65 c.cells.toArray)) (HOWc : Hid (OwnL 65 10 Chg.cells wc (.slice Al cs.length cl) cs))
    (hj1 : j1 ≤ cs.length) (hcl : cs.length ≤ k) (hk3 : k < 3) (HLC : Hid (LgC c)) (HSM : Hid (∀ c ∈ cs, LgC c)) (Q : Exit → Act → World → Prop) (s0 s1 s2 s3 s4 s5 s7 s8 s9 s11 s12 s13 s14 s16 s17 s18 s19 s20 s21 s22 s23 s24 s25 s26 s27 s28 s29 s30 s31 s32 s33 s34 s35 s36 s37 s38 s39 s40 s41 s42 s43 s44 s45 s46 s47 s48 s49 s50 s51 s52 s53 s54 s55 s56 s57 s58 s59 s60 s61 s62 s63 s64 s65 s66 s67 s68 s69 s70 s71 s72 s73 s74 s75 s76 s77 s78 s79 s80 s81 s82 s83 s84 s85 s86 s87 s88 s89 s90 s91 s92 s93 s94 s95 s96 s97 s98 s99 s100 s101 s102 s103 s104 s105 s106 s107 s108 s109 s110 s111 s112 s113 s114 s115 s116 s117 s118 s119 s120 s121 s122 s123 s124 s125 s126 s127 s128 s129 s130 s131 s132 s133 s134 s135 s136 s137 s138 s139 s140 s141 s142 s143 s144 s145 s146 s147 s148 s149 s150 s151 s152 s153 s154 s155 s156 s157 s158 s159 s160 s161 s162 s163 s164 s165 s166 s167 s168 s169 s170 s171 s172 s173 s174 s175 s176 s177 s178 s179 s180 s181 s182 s183 s184 s185 s186 s187 s188 s189 s190 s191 s192 s193 s194 s195 s196 s197 s198 s199 s200 s201 s202 s203 s204 s205 s206 s207 s208 s209 s210 s211 s212 s213 s214 s215 s216 : Value)
    (h : ∀ (A2 : Option Addr) (n2 c2 : Nat) (w2' : World) (v189 v190 v191 v192 v193 v194 v195 v196 v197 v198 v199 : Value), Hid (LgIn Wo w2' (.slice A2 n2 c2) (k + 1)) → Q .normal ⟨#[s0, s1, s2, s3, s4, s5, .slice A2 n2 c2, s7, s8, s9, .pointer (some ⟨gc, 0, none⟩), s11, s12, s13, s14, .int .i64 j1, s16, s17, s18, s19, s20, s21, s22, s23, s24, s25, s26, s27, s28, s29, s30, s31, s32, s33, s34, s35, s36, s37, s38, s39, s40, s41, s42, s43, s44, s45, s46, s47, s48, s49, s50, s51, s52, s53, s54, s55, s56, s57, s58, s59, s60, s61, s62, s63, s64, s65, s66, s67, s68, s69, s70, s71, s72, s73, s74, s75, s76, s77, s78, s79, s80, s81, s82, s83, s84, s85, s86, s87, s88, s89, s90, s91, s92, s93, s94, s95, s96, s97, s98, s99, s100, s101, s102, s103, s104, s105, s106, s107, s108, s109, s110, s111, s112, s113, s114, s115, s116, s117, s118, s119, s120, s121, s122, s123, s124, s125, s126, s127, s128, s129, s130, s131, s132, s133, s134, s135, s136, s137, s138, s139, s140, s141, s142, s143, s144, s145, s146, s147, s148, s149, s150, s151, s152, s153, s154, s155, s156, s157, s158, s159, s160, s161, s162, s163, s164, s165, s166, s167, s168, s169, s170, s171, s172, s173, s174, s175, s176, s177, s178, s179, s180, s181, s182, s183, s184, s185, s186, s187, s188, v189, v190, v191, v192, v193, v194, v195, v196, v197, v198, v199, s200, s201, s202, s203, s204, s205, s206, s207, s208, s209, s210, s211, s212, s213, s214, s215, s216], []⟩ w2') :
    Code.wp Tryz.prog C Q ⟨#[s0, s1, s2, s3, s4, s5, .slice Al cs.length cl, s7, s8, s9, .pointer (some ⟨gc, 0, none⟩), s11, s12, s13, s14, .int .i64 j1, s16, s17, s18, s19, s20, s21, s22, s23, s24, s25, s26, s27, s28, s29, s30, s31, s32, s33, s34, s35, s36, s37, s38, s39, s40, s41, s42, s43, s44, s45, s46, s47, s48, s49, s50, s51, s52, s53, s54, s55, s56, s57, s58, s59, s60, s61, s62, s63, s64, s65, s66, s67, s68, s69, s70, s71, s72, s73, s74, s75, s76, s77, s78, s79, s80, s81, s82, s83, s84, s85, s86, s87, s88, s89, s90, s91, s92, s93, s94, s95, s96, s97, s98, s99, s100, s101, s102, s103, s104, s105, s106, s107, s108, s109, s110, s111, s112, s113, s114, s115, s116, s117, s118, s119, s120, s121, s122, s123, s124, s125, s126, s127, s128, s129, s130, s131, s132, s133, s134, s135, s136, s137, s138, s139, s140, s141, s142, s143, s144, s145, s146, s147, s148, s149, s150, s151, s152, s153, s154, s155, s156, s157, s158, s159, s160, s161, s162, s163, s164, s165, s166, s167, s168, s169, s170, s171, s172, s173, s174, s175, s176, s177, s178, s179, s180, s181, s182, s183, s184, s185, s186, s187, s188, s189, s190, s191, s192, s193, s194, s195, s196, s197, s198, s199, s200, s201, s202, s203, s204, s205, s206, s207, s208, s209, s210, s211, s212, s213, s214, s215, s216], []⟩ wc := by
  subst hC
  exact Code.wp_mono (fun e a w hh => by cases e <;> first | exact hh | exact hh.elim) (lg_insert cs c Al cl gc j1 k Wo wc hfo hcw HOWc hj1 hcl hk3 HLC HSM (fun a w => Q .normal a w) s0 s1 s2 s3 s4 s5 s7 s8 s9 s11 s12 s13 s14 s16 s17 s18 s19 s20 s21 s22 s23 s24 s25 s26 s27 s28 s29 s30 s31 s32 s33 s34 s35 s36 s37 s38 s39 s40 s41 s42 s43 s44 s45 s46 s47 s48 s49 s50 s51 s52 s53 s54 s55 s56 s57 s58 s59 s60 s61 s62 s63 s64 s65 s66 s67 s68 s69 s70 s71 s72 s73 s74 s75 s76 s77 s78 s79 s80 s81 s82 s83 s84 s85 s86 s87 s88 s89 s90 s91 s92 s93 s94 s95 s96 s97 s98 s99 s100 s101 s102 s103 s104 s105 s106 s107 s108 s109 s110 s111 s112 s113 s114 s115 s116 s117 s118 s119 s120 s121 s122 s123 s124 s125 s126 s127 s128 s129 s130 s131 s132 s133 s134 s135 s136 s137 s138 s139 s140 s141 s142 s143 s144 s145 s146 s147 s148 s149 s150 s151 s152 s153 s154 s155 s156 s157 s158 s159 s160 s161 s162 s163 s164 s165 s166 s167 s168 s169 s170 s171 s172 s173 s174 s175 s176 s177 s178 s179 s180 s181 s182 s183 s184 s185 s186 s187 s188 s189 s190 s191 s192 s193 s194 s195 s196 s197 s198 s199 s200 s201 s202 s203 s204 s205 s206 s207 s208 s209 s210 s211 s212 s213 s214 s215 s216 h)
end Go.Proofs.YthiaaminkfkjpaaGreat

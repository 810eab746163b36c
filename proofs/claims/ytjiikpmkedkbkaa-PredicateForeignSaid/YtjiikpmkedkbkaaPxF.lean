/-
  PredicateForeign: the walk of the law.
-/
import Derived.Test.YtjiikpmkedkbkaaFn
import Derived.Test.YtjiikpmkedkbkaaFo
import Derived.Test.YtjiikpmkedkbkaaFp
namespace Go.Proofs.Ytjiikpmkedkbkaa
open Go.RowKit

theorem AtL.take {X : Type} {enc : X → List Value} {size : Nat} {w : World} {A : Option Addr} {L : List X} (h : AtL enc size w A L) (k : Nat) : AtL enc size w A (L.take k) := by
  intro hl
  obtain ⟨b, off, e, hlt, hc⟩ := h (by rw [List.length_take] at hl; omega)
  refine ⟨b, off, e, hlt, fun i hi j hj => ?_⟩
  have hi' : i < L.length := by rw [List.length_take] at hi; omega
  rw [List.getElem_take]
  exact hc i hi' j hj
namespace Pm
def outB (q : Qry) (c : Chg) (v u : Int) : Bool := (!c.had || (decide (v < q.low) || decide (q.high < v))) && (!c.has || (decide (u < q.low) || decide (q.high < u)))
theorem foreign {q : Qry} {c : Chg} (h : touches q c = true) (ho : c.t ≠ q.table ∨ outB q c ((rowB c).value q.column) ((rowA c).value q.column) = true) : q.kind = 7 ∧ c.t = q.other := by
  have hB : B q c = none := by
    unfold B sc bef
    cases hh : c.had with
    | false => rfl
    | true =>
      have hn : inq q ⟨c.t, c.k, c.o0, c.o1, c.o2⟩ = false := by
        unfold inq
        rcases ho with ho | ho
        · dsimp only
          rw [decide_eq_false ho, Bool.false_and]
        · unfold outB rowB at ho
          rw [hh, if_pos rfl] at ho
          simp only [Bool.not_true, Bool.false_or, Bool.and_eq_true, Bool.or_eq_true, decide_eq_true_eq] at ho
          have := ho.1
          rw [Bool.eq_false_iff]
          intro hx
          simp only [Bool.and_eq_true, decide_eq_true_eq] at hx
          omega
      simp [Option.filter, hn]
  have hA : A q c = none := by
    unfold A sc aft
    cases hh : c.has with
    | false => rfl
    | true =>
      have hn : inq q ⟨c.t, c.k, c.n0, c.n1, c.n2⟩ = false := by
        unfold inq
        rcases ho with ho | ho
        · dsimp only
          rw [decide_eq_false ho, Bool.false_and]
        · unfold outB rowA at ho
          rw [hh, if_pos rfl] at ho
          simp only [Bool.not_true, Bool.false_or, Bool.and_eq_true, Bool.or_eq_true, decide_eq_true_eq] at ho
          have := ho.2
          rw [Bool.eq_false_iff]
          intro hx
          simp only [Bool.and_eq_true, decide_eq_true_eq] at hx
          omega
      simp [Option.filter, hn]
  unfold touches tk oneE anyE old now at h
  rw [hA, hB] at h
  simp only [me, Option.isSome_none, Bool.and_eq_true, Bool.or_false, Bool.false_or, bne_self_eq_false, decide_true, Bool.not_true] at h
  have h2 := h.2.2
  repeat' split at h2
  all_goals first | (cases h2; done) | skip
  rename_i h7
  exact ⟨h7, by simpa using h2⟩
theorem bad_untouched (q : Qry) (c : Chg) (h : q.kind = 9) : touches q c = false := by
  unfold touches Em.valid
  rw [h]
  rfl
end Pm
theorem PP.ok {w w' : World} {R : List RowV} {m m' : Int} {f f' k : Bool} {A : Option Addr} {n b : Nat} (h : PP w w' (some ⟨R, m, f⟩) A n m' f' k b) : k = true ∧ m = m' ∧ f = f' ∧ AtL RowV.cells 5 w' A R ∧ n = R.length ∧ Fr [] w w' := by
  cases k with
  | false => exact absurd (h.2.1 rfl).1 (by simp)
  | true =>
    obtain ⟨L', e, h1, h2, -⟩ := h.1 rfl
    injection e with e
    injection e with e1 e2 e3
    subst e1 e2 e3
    exact ⟨rfl, rfl, rfl, h1, h2, h.2.2⟩
/-- The law's objects. -/
structure FgAt (w : World) (gc gq gn : Nat) (c : Chg) (q : Qry) (A : Option Addr) (k ca : Nat) (m : Int) (f : Bool) (L : List RowV) : Prop where
  c : Blk w gc 30 #[.int .i64 c.t, .int .i64 c.k, .bool c.had, .int .i64 c.o0, .int .i64 c.o1, .int .i64 c.o2, .bool c.has, .int .i64 c.n0, .int .i64 c.n1, .int .i64 c.n2]
  q : QAt w gq q
  n : R7At w gn (.slice A k ca) m f
  rows : AtL RowV.cells 5 w A L
theorem FgAt.fr0 {w w' : World} {gc gq gn : Nat} {c : Chg} {q : Qry} {A : Option Addr} {k ca : Nat} {m : Int} {f : Bool} {L : List RowV} (h : FgAt w gc gq gn c q A k ca m f L) (hf : Fr [] w w') : FgAt w' gc gq gn c q A k ca m f L :=
  ⟨h.c.fr hf (by simp), h.q.fr hf (by simp), h.n.fr hf (by simp), h.rows.fr0 hf⟩

set_option maxRecDepth 100000 in
set_option maxHeartbeats 4000000 in
theorem foreign_walk (x0 x1 x2 x3 x4 : Int) (c : Chg) (A : Option Addr) (n cap : Nat) (L : List RowV) (z : Int) (fl : Bool) (w : World) (o0 : okI x0) (o1 : okI x1) (o2 : okI x2) (o3 : okI x3) (o4 : okI x4) (_hc : ChgFit c) (hn : n ≤ cap) (hcap : cap ≤ maxLen) (hl : L.length = n) (hr : RowsAt w A L) :
    Calls Try.prog 6 #[.agg #[.int .i64 x0, .int .i64 x1, .int .i64 x2, .int .i64 x3, .int .i64 x4], c.val, .agg #[.slice A n cap, .int .i64 z, .bool fl]] w fun e w' => e = .returned (.bool true) ∧ Below w.heap.size w w' := by
  have F0 : Hid (Fr [] w (((w.alloc (.cells #[.int .i64 x0, .int .i64 x1, .int .i64 x2, .int .i64 x3, .int .i64 x4] 22)).alloc (.cells #[.int .i64 c.t, .int .i64 c.k, .bool c.had, .int .i64 c.o0, .int .i64 c.o1, .int .i64 c.o2, .bool c.has, .int .i64 c.n0, .int .i64 c.n1, .int .i64 c.n2] 30)).alloc (.cells #[.slice A n cap, .int .i64 z, .bool fl] 27))) := Lib.hid ((((Fr.refl [] w).alloc _).alloc _).alloc _)
  have B5 : Hid (Five (((w.alloc (.cells #[.int .i64 x0, .int .i64 x1, .int .i64 x2, .int .i64 x3, .int .i64 x4] 22)).alloc (.cells #[.int .i64 c.t, .int .i64 c.k, .bool c.had, .int .i64 c.o0, .int .i64 c.o1, .int .i64 c.o2, .bool c.has, .int .i64 c.n0, .int .i64 c.n1, .int .i64 c.n2] 30)).alloc (.cells #[.slice A n cap, .int .i64 z, .bool fl] 27)) w.heap.size x0 x1 x2 x3 x4) := Lib.hid (Blk.alloc (Blk.alloc (Blk.new w _ _) _) _)
  have hbc := Blk.new (w.alloc (.cells #[.int .i64 x0, .int .i64 x1, .int .i64 x2, .int .i64 x3, .int .i64 x4] 22)) 30 #[.int .i64 c.t, .int .i64 c.k, .bool c.had, .int .i64 c.o0, .int .i64 c.o1, .int .i64 c.o2, .bool c.has, .int .i64 c.n0, .int .i64 c.n1, .int .i64 c.n2]
  rw [World.size_alloc] at hbc
  have BC : Hid (Blk (((w.alloc (.cells #[.int .i64 x0, .int .i64 x1, .int .i64 x2, .int .i64 x3, .int .i64 x4] 22)).alloc (.cells #[.int .i64 c.t, .int .i64 c.k, .bool c.had, .int .i64 c.o0, .int .i64 c.o1, .int .i64 c.o2, .bool c.has, .int .i64 c.n0, .int .i64 c.n1, .int .i64 c.n2] 30)).alloc (.cells #[.slice A n cap, .int .i64 z, .bool fl] 27)) (w.heap.size + 1) 30 #[.int .i64 c.t, .int .i64 c.k, .bool c.had, .int .i64 c.o0, .int .i64 c.o1, .int .i64 c.o2, .bool c.has, .int .i64 c.n0, .int .i64 c.n1, .int .i64 c.n2]) := Lib.hid (Blk.alloc hbc _)
  have hbr := Blk.new ((w.alloc (.cells #[.int .i64 x0, .int .i64 x1, .int .i64 x2, .int .i64 x3, .int .i64 x4] 22)).alloc (.cells #[.int .i64 c.t, .int .i64 c.k, .bool c.had, .int .i64 c.o0, .int .i64 c.o1, .int .i64 c.o2, .bool c.has, .int .i64 c.n0, .int .i64 c.n1, .int .i64 c.n2] 30)) 27 #[.slice A n cap, .int .i64 z, .bool fl]
  rw [World.size_alloc, World.size_alloc] at hbr
  have BR := Lib.hid hbr
  have HR := Lib.hid (hr.fr0 F0.out)
  have HL : Hid (L.length = n) := Lib.hid hl
  have HN : Hid (n ≤ cap ∧ n ≤ 9223372036854775807) := Lib.hid ⟨hn, by unfold maxLen at hcap; omega⟩
  have HO := Lib.hid (And.intro o0 (And.intro o1 (And.intro o2 (And.intro o3 o4))))
  clear hbc hbr hr hl hn hcap o0 o1 o2 o3 o4
  obtain ⟨k, HK⟩ : ∃ k : Nat, Hid (k = min n 20) := ⟨_, Lib.hid rfl⟩
  obtain ⟨m, HM⟩ : ∃ m : Int, Hid (m = min (max z (-1000000000000000000)) 1000000000000000000) := ⟨_, Lib.hid rfl⟩
  go_enter Try.func6, Try.ntmps6
  go_upto_region 2 with (go_at_call 7; refine (sane7 _).mono ?_; rintro e wa ⟨rfl, fa⟩; have FA := Lib.hid fa; clear fa)
  replace B5 := Lib.hid (B5.out.fr FA.out (by simp))
  replace BC := Lib.hid (BC.out.fr FA.out (by simp))
  replace BR := Lib.hid (BR.out.fr FA.out (by simp))
  replace HR := Lib.hid (HR.out.fr0 FA.out)
  replace F0 := Lib.hid (F0.out.trans FA.out)
  clear FA
  obtain ⟨g0, g1, g2, g3, g4⟩ := B5.out.cells
  go_upto_region 3 with (go_at_call 10; refine (query_any x0 x1 x2 x3 x4 _ HO.out.1 HO.out.2.1 HO.out.2.2.1 HO.out.2.2.2.1 HO.out.2.2.2.2).mono ?_; rintro e wq ⟨q, rfl, hq, fq⟩; have HQ := Lib.hid hq; have FQ := Lib.hid fq; clear hq fq)
  clear g0 g1 g2 g3 g4 B5 HO
  have fq1 := FQ.out.alloc (.cells #[.int .i64 q.kind, .int .i64 q.table, .int .i64 q.column, .int .i64 q.low, .int .i64 q.high, .int .i64 q.by_, .int .i64 q.other] 24)
  have BQ := Lib.hid (QAt.new wq q)
  replace BC := Lib.hid (BC.out.fr fq1 (by simp))
  replace BR := Lib.hid (BR.out.fr fq1 (by simp))
  replace HR := Lib.hid (HR.out.fr0 fq1)
  replace F0 := Lib.hid (F0.out.trans fq1)
  clear fq1 FQ
  generalize hw2 : wq.alloc (.cells #[.int .i64 q.kind, .int .i64 q.table, .int .i64 q.column, .int .i64 q.low, .int .i64 q.high, .int .i64 q.by_, .int .i64 q.other] 24) = w2 at *
  clear hw2
  generalize wq.heap.size = gq at *
  have hbr := BR.out
  have HNE := Lib.hid (near_any A n cap z fl w2 HN.out.1 HN.out.2)
  rw [← HK.out, ← HM.out] at HNE
  go_upto_region 4 with (first
    | (refine wpList_load_row rfl _ _ rfl (w.heap.size + 1 + 1) rfl 27 _ (0, 0) _ hbr Try.underlying27 rfl (by kernel_rfl) ?_)
    | (go_at_call 8; refine HNE.out.mono ?_; rintro e wn ⟨rfl, fn⟩; have FN := Lib.hid fn; clear fn))
  clear hbr HNE BR
  have fn1 := FN.out.alloc (.cells #[.slice A k cap, .int .i64 m, .bool fl] 27)
  have BN := R7At.new wn (.slice A k cap) m fl
  have AT : Hid (FgAt (wn.alloc (.cells #[.slice A k cap, .int .i64 m, .bool fl] 27)) (w.heap.size + 1) gq wn.heap.size c q A k cap m fl (L.take 20)) := Lib.hid ⟨BC.out.fr fn1 (by simp), BQ.out.fr fn1 (by simp), BN, (HR.out.fr0 fn1).take 20⟩
  have HKL : Hid (k = (L.take 20).length ∧ k ≤ 20) := Lib.hid (by have := HK.out; have := HL.out; rw [List.length_take]; omega)
  have HMB : Hid (-1000000000000000000 ≤ m ∧ m ≤ 1000000000000000000) := Lib.hid (by have := HM.out; omega)
  replace F0 := Lib.hid (F0.out.trans fn1)
  clear fn1 FN BN BC BQ HR HK HL HM HN
  generalize L.take 20 = R at *
  generalize hw3 : wn.alloc (.cells #[.slice A k cap, .int .i64 m, .bool fl] 27) = w3 at *
  clear hw3
  generalize wn.heap.size = gn at *
  have HQB := HQ.out
  have hok : okI q.kind := okI_mk (by have := HQB.k; omega) (by have := HQB.k; omega)
  have HOK := Lib.hid hok
  clear HQB hok
  obtain ⟨T, HT⟩ : ∃ T, Hid (Pm.touches q c = T) := ⟨_, Lib.hid rfl⟩
  have HTC := Lib.hid (fun W => touches_any q c HOK.out W)
  rw [HT.out] at HTC
  have hbq : Blk w3 gq 24 #[.int .i64 q.kind, .int .i64 q.table, .int .i64 q.column, .int .i64 q.low, .int .i64 q.high, .int .i64 q.by_, .int .i64 q.other] := AT.out.q
  have hbc := AT.out.c
  go_upto_region 5 with (first
    | (refine wpList_load_row rfl _ _ rfl gq rfl 24 _ (0, 0) _ hbq Try.underlying24 rfl (by kernel_rfl) ?_)
    | (refine wpList_load_row rfl _ _ rfl (w.heap.size + 1) rfl 30 _ (0, 0) _ hbc Try.underlying30 rfl (by kernel_rfl) ?_)
    | (go_at_call 13; refine (HTC.out _).mono ?_; rintro e w4 ⟨rfl, f4⟩; have F4 := Lib.hid f4; clear f4))
  clear hbq hbc
  replace AT := Lib.hid (AT.out.fr0 F4.out)
  replace F0 := Lib.hid (F0.out.trans F4.out)
  clear F4

  obtain ⟨rb, Hrb⟩ : ∃ x, Hid (Pm.rowB c = x) := ⟨_, Lib.hid rfl⟩
  have HCrb := Lib.hid (fun W => rhad_row c W)
  obtain ⟨zhad, Hzhad⟩ : ∃ x, Hid (c.had = x) := ⟨_, Lib.hid rfl⟩
  rw [Hrb.out, Hzhad.out] at HCrb
  have hbc := AT.out.c
  go_upto_region 6 with (first
    | (refine wpList_load_row rfl _ _ rfl (w.heap.size + 1) rfl 30 _ (0, 0) _ hbc Try.underlying30 rfl (by kernel_rfl) ?_)
    | (go_at_call 21; refine (HCrb.out _).mono ?_; rintro e w4 ⟨rfl, f4⟩; have F4 := Lib.hid f4; clear f4))
  clear hbc HCrb
  have f5 := F4.out.alloc (.cells #[.int .i64 rb.t, .int .i64 rb.k, .int .i64 rb.x, .int .i64 rb.y, .int .i64 rb.z] 57)
  have Brb := Lib.hid (Blk.new w4 57 #[.int .i64 rb.t, .int .i64 rb.k, .int .i64 rb.x, .int .i64 rb.y, .int .i64 rb.z])
  replace AT := Lib.hid (AT.out.fr0 f5)
  replace F0 := Lib.hid (F0.out.trans f5)
  clear f5 F4
  generalize hw5 : w4.alloc (.cells #[.int .i64 rb.t, .int .i64 rb.k, .int .i64 rb.x, .int .i64 rb.y, .int .i64 rb.z] 57) = w5 at *
  clear hw5
  generalize w4.heap.size = gb at *
  obtain ⟨ra, Hra⟩ : ∃ x, Hid (Pm.rowA c = x) := ⟨_, Lib.hid rfl⟩
  have HCra := Lib.hid (fun W => rhas_row c W)
  obtain ⟨zhas, Hzhas⟩ : ∃ x, Hid (c.has = x) := ⟨_, Lib.hid rfl⟩
  rw [Hra.out, Hzhas.out] at HCra
  have hbc := AT.out.c
  go_upto_region 7 with (first
    | (refine wpList_load_row rfl _ _ rfl (w.heap.size + 1) rfl 30 _ (0, 0) _ hbc Try.underlying30 rfl (by kernel_rfl) ?_)
    | (go_at_call 22; refine (HCra.out _).mono ?_; rintro e w4 ⟨rfl, f4⟩; have F4 := Lib.hid f4; clear f4))
  clear hbc HCra
  have f5 := F4.out.alloc (.cells #[.int .i64 ra.t, .int .i64 ra.k, .int .i64 ra.x, .int .i64 ra.y, .int .i64 ra.z] 57)
  have Bra := Lib.hid (Blk.new w4 57 #[.int .i64 ra.t, .int .i64 ra.k, .int .i64 ra.x, .int .i64 ra.y, .int .i64 ra.z])
  replace AT := Lib.hid (AT.out.fr0 f5)
  replace F0 := Lib.hid (F0.out.trans f5)
  replace Brb := Lib.hid (Brb.out.fr f5 (by simp))
  clear f5 F4
  generalize hw5 : w4.alloc (.cells #[.int .i64 ra.t, .int .i64 ra.k, .int .i64 ra.x, .int .i64 ra.y, .int .i64 ra.z] 57) = w5 at *
  clear hw5
  generalize w4.heap.size = ga at *
  obtain ⟨v, Hv⟩ : ∃ x, Hid (rb.value q.column = x) := ⟨_, Lib.hid rfl⟩
  have HVrb := Lib.hid (fun W => rfValue_any rb q.column W)
  rw [Hv.out] at HVrb
  have hbr := Brb.out
  have q2 := AT.out.q.c2
  go_upto_region 8 with (first
    | (refine wpList_load_row rfl _ _ rfl gb rfl 57 _ (0, 0) _ hbr Try.underlying57 rfl (by kernel_rfl) ?_)
    | (go_at_call 23; refine (HVrb.out _).mono ?_; rintro e w4 ⟨rfl, f4⟩; have F4 := Lib.hid f4; clear f4))
  clear hbr q2 HVrb Brb
  replace AT := Lib.hid (AT.out.fr0 F4.out)
  replace F0 := Lib.hid (F0.out.trans F4.out)
  replace Bra := Lib.hid (Bra.out.fr F4.out (by simp))
  clear F4
  obtain ⟨u, Hu⟩ : ∃ x, Hid (ra.value q.column = x) := ⟨_, Lib.hid rfl⟩
  have HVra := Lib.hid (fun W => rfValue_any ra q.column W)
  rw [Hu.out] at HVra
  have hbr := Bra.out
  have q2 := AT.out.q.c2
  go_upto_region 9 with (first
    | (refine wpList_load_row rfl _ _ rfl ga rfl 57 _ (0, 0) _ hbr Try.underlying57 rfl (by kernel_rfl) ?_)
    | (go_at_call 23; refine (HVra.out _).mono ?_; rintro e w4 ⟨rfl, f4⟩; have F4 := Lib.hid f4; clear f4))
  clear hbr q2 HVra Bra
  replace AT := Lib.hid (AT.out.fr0 F4.out)
  replace F0 := Lib.hid (F0.out.trans F4.out)
  clear F4
  have q3 := AT.out.q.c3
  have q4 := AT.out.q.c4
  obtain ⟨ob, HOB0⟩ : ∃ x, Hid (Pm.outB q c v u = x) := ⟨_, Lib.hid rfl⟩
  have HFO : Hid (T = true → (c.t ≠ q.table ∨ ob = true) → q.kind = 7 ∧ c.t = q.other) := Lib.hid (fun h1 h2 => Pm.foreign (by rw [HT.out, h1]) (by rw [Hrb.out, Hra.out, Hv.out, Hu.out, HOB0.out]; exact h2))
  clear Hrb Hra Hv Hu
  go_cut [17] (fun o wn => o = .bool ob ∧ Hid (FgAt wn (w.heap.size + 1) gq gn c q A k cap m fl R) ∧ Hid (Fr [] w wn))
  case first =>
    have HOB : Hid (ob = ((!c.had || (decide (v < q.low) || decide (q.high < v))) && (!c.has || (decide (u < q.low) || decide (q.high < u))))) := Lib.hid (by rw [← HOB0.out]; rfl)
    clear HOB0 HFO
    rw [Hzhad.out, Hzhas.out] at HOB
    clear Hzhad Hzhas
    cases zhad <;> cases zhas

    · have HO : Hid (ob = true) := Lib.hid (by rw [HOB.out]; simp [])
      go_wp2_with fail
      go_meet
      exact ⟨by rw [HO.out], AT, F0⟩
    · by_cases hu : u < q.low
      · have HO : Hid (ob = true) := Lib.hid (by rw [HOB.out]; simp [hu])
        have eu : u < q.low := hu
        clear hu
        go_wp2_with fail
        go_meet
        exact ⟨by rw [HO.out], AT, F0⟩
      · by_cases hu2 : q.high < u
        · have HO : Hid (ob = true) := Lib.hid (by rw [HOB.out]; simp [hu, hu2])
          have eu : decide (u < q.low) = false := decide_eq_false hu
          have eu2 : q.high < u := hu2
          clear hu hu2
          go_wp2_with fail
          go_meet
          exact ⟨by rw [HO.out], AT, F0⟩
        · have HO : Hid (ob = false) := Lib.hid (by rw [HOB.out]; simp [hu, hu2])
          have eu : decide (u < q.low) = false := decide_eq_false hu
          have eu2 : decide (q.high < u) = false := decide_eq_false hu2
          clear hu hu2
          go_wp2_with fail
          go_meet
          exact ⟨by rw [HO.out], AT, F0⟩
    · by_cases hv : v < q.low
      · have HO : Hid (ob = true) := Lib.hid (by rw [HOB.out]; simp [hv])
        have ev : v < q.low := hv
        clear hv
        go_wp2_with fail
        go_meet
        exact ⟨by rw [HO.out], AT, F0⟩
      · by_cases hv2 : q.high < v
        · have HO : Hid (ob = true) := Lib.hid (by rw [HOB.out]; simp [hv, hv2])
          have ev : decide (v < q.low) = false := decide_eq_false hv
          have ev2 : q.high < v := hv2
          clear hv hv2
          go_wp2_with fail
          go_meet
          exact ⟨by rw [HO.out], AT, F0⟩
        · have HO : Hid (ob = false) := Lib.hid (by rw [HOB.out]; simp [hv, hv2])
          have ev : decide (v < q.low) = false := decide_eq_false hv
          have ev2 : decide (q.high < v) = false := decide_eq_false hv2
          clear hv hv2
          go_wp2_with fail
          go_meet
          exact ⟨by rw [HO.out], AT, F0⟩
    · by_cases hv : v < q.low
      · by_cases hu : u < q.low
        · have HO : Hid (ob = true) := Lib.hid (by rw [HOB.out]; simp [hv, hu])
          have ev : v < q.low := hv
          have eu : u < q.low := hu
          clear hv hu
          go_wp2_with fail
          go_meet
          exact ⟨by rw [HO.out], AT, F0⟩
        · by_cases hu2 : q.high < u
          · have HO : Hid (ob = true) := Lib.hid (by rw [HOB.out]; simp [hv, hu, hu2])
            have ev : v < q.low := hv
            have eu : decide (u < q.low) = false := decide_eq_false hu
            have eu2 : q.high < u := hu2
            clear hv hu hu2
            go_wp2_with fail
            go_meet
            exact ⟨by rw [HO.out], AT, F0⟩
          · have HO : Hid (ob = false) := Lib.hid (by rw [HOB.out]; simp [hv, hu, hu2])
            have ev : v < q.low := hv
            have eu : decide (u < q.low) = false := decide_eq_false hu
            have eu2 : decide (q.high < u) = false := decide_eq_false hu2
            clear hv hu hu2
            go_wp2_with fail
            go_meet
            exact ⟨by rw [HO.out], AT, F0⟩
      · by_cases hv2 : q.high < v
        · by_cases hu : u < q.low
          · have HO : Hid (ob = true) := Lib.hid (by rw [HOB.out]; simp [hv, hv2, hu])
            have ev : decide (v < q.low) = false := decide_eq_false hv
            have ev2 : q.high < v := hv2
            have eu : u < q.low := hu
            clear hv hv2 hu
            go_wp2_with fail
            go_meet
            exact ⟨by rw [HO.out], AT, F0⟩
          · by_cases hu2 : q.high < u
            · have HO : Hid (ob = true) := Lib.hid (by rw [HOB.out]; simp [hv, hv2, hu, hu2])
              have ev : decide (v < q.low) = false := decide_eq_false hv
              have ev2 : q.high < v := hv2
              have eu : decide (u < q.low) = false := decide_eq_false hu
              have eu2 : q.high < u := hu2
              clear hv hv2 hu hu2
              go_wp2_with fail
              go_meet
              exact ⟨by rw [HO.out], AT, F0⟩
            · have HO : Hid (ob = false) := Lib.hid (by rw [HOB.out]; simp [hv, hv2, hu, hu2])
              have ev : decide (v < q.low) = false := decide_eq_false hv
              have ev2 : q.high < v := hv2
              have eu : decide (u < q.low) = false := decide_eq_false hu
              have eu2 : decide (q.high < u) = false := decide_eq_false hu2
              clear hv hv2 hu hu2
              go_wp2_with fail
              go_meet
              exact ⟨by rw [HO.out], AT, F0⟩
        · by_cases hu : u < q.low
          · have HO : Hid (ob = false) := Lib.hid (by rw [HOB.out]; simp [hv, hv2, hu])
            have ev : decide (v < q.low) = false := decide_eq_false hv
            have ev2 : decide (q.high < v) = false := decide_eq_false hv2
            have eu : u < q.low := hu
            clear hv hv2 hu
            go_wp2_with fail
            go_meet
            exact ⟨by rw [HO.out], AT, F0⟩
          · by_cases hu2 : q.high < u
            · have HO : Hid (ob = false) := Lib.hid (by rw [HOB.out]; simp [hv, hv2, hu, hu2])
              have ev : decide (v < q.low) = false := decide_eq_false hv
              have ev2 : decide (q.high < v) = false := decide_eq_false hv2
              have eu : decide (u < q.low) = false := decide_eq_false hu
              have eu2 : q.high < u := hu2
              clear hv hv2 hu hu2
              go_wp2_with fail
              go_meet
              exact ⟨by rw [HO.out], AT, F0⟩
            · have HO : Hid (ob = false) := Lib.hid (by rw [HOB.out]; simp [hv, hv2, hu, hu2])
              have ev : decide (v < q.low) = false := decide_eq_false hv
              have ev2 : decide (q.high < v) = false := decide_eq_false hv2
              have eu : decide (u < q.low) = false := decide_eq_false hu
              have eu2 : decide (q.high < u) = false := decide_eq_false hu2
              clear hv hv2 hu hu2
              go_wp2_with fail
              go_meet
              exact ⟨by rw [HO.out], AT, F0⟩


  case rest =>
  clear AT F0 q3 q4 HOB0 Hzhad Hzhas
  obtain ⟨rfl, AT, F0⟩ := hcut
  have c0 : wc.cell? ⟨w.heap.size + 1, 0, none⟩ = some (.int .i64 c.t) := AT.out.c.cell 0
  have q1 := AT.out.q.c1
  go_upto_region 10 with (fail)
  go_cut [18] (fun x wn => ∃ fb : Bool, x = .bool fb ∧ Hid (fb = true → c.t ≠ q.table ∨ ob = true) ∧ Hid (FgAt wn (w.heap.size + 1) gq gn c q A k cap m fl R) ∧ Hid (Fr [] w wn))
  case first =>
    by_cases h1 : c.t = q.table
    · have e1 : (c.t != q.table) = false := by simpa using h1
      clear h1
      go_wp2_with fail
      go_meet
      exact ⟨ob, rfl, Lib.hid (fun h => .inr h), AT, F0⟩
    · have e1 : (c.t != q.table) = true := by simpa using h1
      have H1 := Lib.hid h1
      clear h1
      go_wp2_with fail
      go_meet
      exact ⟨true, rfl, Lib.hid (fun _ => .inl H1.out), AT, F0⟩
  case rest =>
  clear AT F0 c0 q1
  obtain ⟨fb, rfl, HFB, AT, F0⟩ := hcut
  have c0 : wc.cell? ⟨w.heap.size + 1, 0, none⟩ = some (.int .i64 c.t) := AT.out.c.cell 0
  have q0 := AT.out.q.c0
  have q6 := AT.out.q.c6
  go_upto_region 11 with (fail)
  go_cut [103] (fun x wn => x = .bool false ∧ Hid (FgAt wn (w.heap.size + 1) gq gn c q A k cap m fl R) ∧ Hid (Fr [] w wn))
  case first =>
    cases T
    · go_wp2_with fail
      go_meet
      exact ⟨rfl, AT, F0⟩
    · cases fb
      · go_wp2_with fail
        go_meet
        exact ⟨rfl, AT, F0⟩
      · have H7 := HFO.out rfl (HFB.out rfl)
        obtain ⟨h7, ho⟩ := H7
        have e1 : (c.t == q.other) = true := by simpa using ho
        rw [h7] at q0
        clear h7 ho
        go_wp2_with fail
        go_meet
        exact ⟨rfl, AT, F0⟩
  case rest =>
  clear AT F0 c0 q0 q6 HFB HFO
  obtain ⟨rfl, AT, F0⟩ := hcut
  have hq : Blk wc gq 24 #[.int .i64 q.kind, .int .i64 q.table, .int .i64 q.column, .int .i64 q.low, .int .i64 q.high, .int .i64 q.by_, .int .i64 q.other] := AT.out.q
  have F5 : Hid (Fr [] wc (wc.alloc (.cells #[.int .i64 9, .int .i64 q.table, .int .i64 q.column, .int .i64 q.low, .int .i64 q.high, .int .i64 q.by_, .int .i64 q.other] 24))) := Lib.hid ((Fr.refl _ _).alloc _)
  have B9 : Hid (QAt (wc.alloc (.cells #[.int .i64 9, .int .i64 q.table, .int .i64 q.column, .int .i64 q.low, .int .i64 q.high, .int .i64 q.by_, .int .i64 q.other] 24)) wc.heap.size ⟨9, q.table, q.column, q.low, q.high, q.by_, q.other⟩) := Lib.hid (QAt.new wc ⟨9, q.table, q.column, q.low, q.high, q.by_, q.other⟩)
  go_upto_region 15 with (refine wpList_load_row rfl _ _ rfl gq rfl 24 _ (0, 0) _ hq Try.underlying24 rfl (by kernel_rfl) ?_)
  clear hq
  replace AT := Lib.hid (AT.out.fr0 F5.out)
  replace F0 := Lib.hid (F0.out.trans F5.out)
  clear F5
  generalize hw5 : wc.alloc (.cells #[.int .i64 9, .int .i64 q.table, .int .i64 q.column, .int .i64 q.low, .int .i64 q.high, .int .i64 q.by_, .int .i64 q.other] 24) = w5 at *
  clear hw5
  generalize wc.heap.size = g9 at *
  obtain ⟨vc, HVC⟩ : ∃ x, Hid (Rw.chg c = x) := ⟨_, Lib.hid rfl⟩
  have HC := Lib.hid (fun W => rfChange_any c W)
  rw [HVC.out] at HC
  have hc := AT.out.c
  go_upto_region 16 with (first
    | (refine wpList_load_row rfl _ _ rfl (w.heap.size + 1) rfl 30 _ (0, 0) _ hc Try.underlying30 rfl (by kernel_rfl) ?_)
    | (go_at_call 24; refine (HC.out _).mono ?_; rintro e w6 ⟨rfl, f3⟩; have F3 := Lib.hid f3; clear f3))
  clear hc HC
  replace AT := Lib.hid (AT.out.fr0 F3.out)
  replace F0 := Lib.hid (F0.out.trans F3.out)
  replace B9 := Lib.hid (B9.out.fr F3.out (by simp))
  clear F3
  have HTV : Hid (vc = false → T = false) := Lib.hid (fun h => by
    rw [← HT.out]
    unfold Pm.touches
    rw [HVC.out, h, Bool.false_and, Bool.and_false])
  clear HVC
  obtain ⟨b9, HB9⟩ : ∃ b : Qry, Hid (b = ⟨9, q.table, q.column, q.low, q.high, q.by_, q.other⟩) := ⟨_, Lib.hid rfl⟩
  have HBT : Hid (Pm.touches b9 c = false) := Lib.hid (Pm.bad_untouched b9 c (by rw [HB9.out]))
  have HP9 := Lib.hid (fun W (hx : AtL RowV.cells 5 W A R) => patch_any b9 c (by rw [HB9.out]; exact okI_mk (by simp) (by simp)) A k cap m fl R W hx HKL.out.1 (by have := HKL.out; omega) (by have := HMB.out; omega) (by have := HMB.out; omega))
  have HT9 := Lib.hid (fun W => touches_any b9 c (by rw [HB9.out]; exact okI_mk (by simp) (by simp)) W)
  have HPB : Hid (Pm.patch b9 ⟨R, m, fl⟩ c = some ⟨R, m, fl⟩) := Lib.hid (by unfold Pm.patch; rw [HBT.out, if_neg (by simp)])
  rw [HPB.out] at HP9
  rw [HBT.out] at HT9
  rw [HB9.out] at HP9 HT9
  unfold Qry.val at HP9 HT9
  dsimp only at HP9 HT9
  have hq : Blk w6 g9 24 #[.int .i64 9, .int .i64 q.table, .int .i64 q.column, .int .i64 q.low, .int .i64 q.high, .int .i64 q.by_, .int .i64 q.other] := B9.out
  have hr : Blk w6 gn 27 #[.slice A k cap, .int .i64 m, .bool fl] := AT.out.n
  have hc := AT.out.c
  go_upto_region 17 with (first
    | (refine wpList_load_row rfl _ _ rfl g9 rfl 24 _ (0, 0) _ hq Try.underlying24 rfl (by kernel_rfl) ?_)
    | (refine wpList_load_row rfl _ _ rfl gn rfl 27 _ (0, 0) _ hr Try.underlying27 rfl (by kernel_rfl) ?_)
    | (refine wpList_load_row rfl _ _ rfl (w.heap.size + 1) rfl 30 _ (0, 0) _ hc Try.underlying30 rfl (by kernel_rfl) ?_)
    | (go_at_call 11; refine (HP9.out _ AT.out.rows).mono ?_; rintro e w7 ⟨A', n', c', m', f', kk, rfl, hpp⟩; obtain ⟨rfl, rfl, rfl, hrows, hn', hf⟩ := hpp.ok; have HR7 := Lib.hid hrows; have HN7 := Lib.hid hn'; have F7 := Lib.hid hf; clear hpp hrows hn' hf))
  clear hq hr hc HP9

  have HGX : Hid (w.heap.size ≤ w7.heap.size ∧ gn < w7.heap.size) := Lib.hid ⟨Nat.le_trans F0.out.size F7.out.size, Nat.lt_of_lt_of_le (Blk.lt AT.out.n) F7.out.size⟩
  have f8 := F7.out.alloc (.cells #[.slice A' n' c', .int .i64 m, .bool fl] 27)
  have RM := Lib.hid (R7At.new w7 (.slice A' n' c') m fl)
  have HRM := Lib.hid (HR7.out.fr0 ((Fr.refl [] w7).alloc (.cells #[.slice A' n' c', .int .i64 m, .bool fl] 27)))
  replace AT := Lib.hid (AT.out.fr0 f8)
  replace F0 := Lib.hid (F0.out.trans f8)
  replace B9 := Lib.hid (B9.out.fr f8 (by simp))
  clear f8 F7 HR7
  generalize hw8 : w7.alloc (.cells #[.slice A' n' c', .int .i64 m, .bool fl] 27) = w8 at *
  clear hw8
  have HGM0 : Hid (w.heap.size ≤ w7.heap.size ∧ gn < w7.heap.size) := Lib.hid HGX.out
  clear HGX
  generalize w7.heap.size = gm at *
  have HGM : Hid (w.heap.size ≤ gm) := Lib.hid HGM0.out.1
  have HGN : Hid (gn ≠ gm) := Lib.hid (by have := HGM0.out.2; omega)
  clear HGM0
  have hq : Blk w8 g9 24 #[.int .i64 9, .int .i64 q.table, .int .i64 q.column, .int .i64 q.low, .int .i64 q.high, .int .i64 q.by_, .int .i64 q.other] := B9.out
  have hc := AT.out.c
  go_upto_region 17 with (fail)
  go_cut [134] (fun x wn => x = .bool false ∧ Hid (FgAt wn (w.heap.size + 1) gq gn c q A k cap m fl R) ∧ Hid (Fr [] w wn) ∧ Hid (R7At wn gm (.slice A' n' c') m fl))
  case first =>
    go_wp2_with (first
      | (refine wpList_load_row rfl _ _ rfl g9 rfl 24 _ (0, 0) _ hq Try.underlying24 rfl (by kernel_rfl) ?_)
      | (refine wpList_load_row rfl _ _ rfl (w.heap.size + 1) rfl 30 _ (0, 0) _ hc Try.underlying30 rfl (by kernel_rfl) ?_))
    refine (HT9.out _).mono ?_
    rintro e w10 ⟨rfl, f10⟩
    have A10 := Lib.hid (AT.out.fr0 f10)
    have M10 := Lib.hid (RM.out.fr f10 (by simp))
    have HSM := Lib.hid (same7_any A' n' c' m fl R A k cap m fl R w10 (HRM.out.fr0 f10) HN7.out A10.out.rows HKL.out.1 (by have := HN7.out; have := HKL.out; omega) (by have := HKL.out; omega))
    rw [decide_eq_true rfl] at HSM
    have F10 := Lib.hid (F0.out.trans f10)
    have m0 := M10.out.c0
    have m1 := M10.out.c1
    have m2 := M10.out.c2
    have n0 := A10.out.n.c0
    have n1 := A10.out.n.c1
    have n2 := A10.out.n.c2
    clear f10 hq hc
    cases vc
    · obtain rfl : T = false := HTV.out rfl
      go_wp2_with fail
      refine HSM.out.mono ?_
      rintro e w11 ⟨rfl, f11⟩
      have A11 := Lib.hid (A10.out.fr0 f11)
      have M11 := Lib.hid (M10.out.fr f11 (by simp))
      have F11 := Lib.hid (F10.out.trans f11)
      clear f11
      go_wp2_with fail
      go_meet
      exact ⟨rfl, A11, F11, M11⟩
    · go_wp2_with fail
      refine HSM.out.mono ?_
      rintro e w11 ⟨rfl, f11⟩
      have A11 := Lib.hid (A10.out.fr0 f11)
      have M11 := Lib.hid (M10.out.fr f11 (by simp))
      have F11 := Lib.hid (F10.out.trans f11)
      clear f11
      go_wp2_with fail
      go_meet
      exact ⟨rfl, A11, F11, M11⟩
  case rest =>
  clear AT F0 RM HRM B9 hq hc HT9 HB9 HBT HPB HTV HTC
  obtain ⟨rfl, AT, F0, RM⟩ := hcut
  have HV := Lib.hid (fun W => rvalid_any q W)
  rw [HQ.out.valid] at HV
  have HPQ := Lib.hid (patch_any q c HOK.out A k cap m fl R wc AT.out.rows HKL.out.1 (by have := HKL.out; omega) (by have := HMB.out; omega) (by have := HMB.out; omega))
  have hq : Blk wc gq 24 #[.int .i64 q.kind, .int .i64 q.table, .int .i64 q.column, .int .i64 q.low, .int .i64 q.high, .int .i64 q.by_, .int .i64 q.other] := AT.out.q
  have hr : Blk wc gn 27 #[.slice A k cap, .int .i64 m, .bool fl] := AT.out.n
  have hc := AT.out.c
  go_upto_region 19 with (fail)
  have HPT : Hid (T = false → Pm.patch q ⟨R, m, fl⟩ c = some ⟨R, m, fl⟩) := Lib.hid (fun h => by unfold Pm.patch; rw [HT.out, h, if_neg (by simp)])
  cases T
  · rw [HPT.out rfl] at HPQ
    clear HPT
    go_upto_region 20 with (first
      | (refine wpList_load_row rfl _ _ rfl gq rfl 24 _ (0, 0) _ hq Try.underlying24 rfl (by kernel_rfl) ?_)
      | (refine wpList_load_row rfl _ _ rfl gn rfl 27 _ (0, 0) _ hr Try.underlying27 rfl (by kernel_rfl) ?_)
      | (refine wpList_load_row rfl _ _ rfl (w.heap.size + 1) rfl 30 _ (0, 0) _ hc Try.underlying30 rfl (by kernel_rfl) ?_)
      | (go_at_call 11; refine HPQ.out.mono ?_; rintro e w12 ⟨A2, n2, c2, m2, f2, k2, rfl, hpp⟩; obtain ⟨rfl, rfl, rfl, hrows, hn2, hf⟩ := hpp.ok; have HR2 := Lib.hid hrows; have HN2 := Lib.hid hn2; clear hrows hn2; have F12 := Lib.hid hf; have M12 := RM.out.fr hf (by simp); have z0 := M12.z 0; have z1 := M12.z 1; have z2 := M12.z 2; have u0 := M12.c0; have u1 := M12.c1; have u2 := M12.c2; have HM12 := Lib.hid M12; clear hpp hf M12))
    clear hq hr hc z0 z1 z2 u0 u1 u2 HPQ
    obtain ⟨h3, hf3⟩ := set3 (v' := .slice A2 n2 c2) (m' := m) (f' := fl) HM12.out
    have FM : Hid (w.heap.size ≤ gm) := HGM
    have F13 : Hid (Fr [] w (((w12.setCell ⟨gm, 0, none⟩ (.slice A2 n2 c2)).setCell ⟨gm, 1, none⟩ (.int .i64 m)).setCell ⟨gm, 2, none⟩ (.bool fl))) := Lib.hid ((F0.out.trans F12.out).trans' hf3 (fun x hx => .inr (by rw [List.mem_singleton] at hx; have := FM.out; omega)))
    have Q13 : Hid (QAt (((w12.setCell ⟨gm, 0, none⟩ (.slice A2 n2 c2)).setCell ⟨gm, 1, none⟩ (.int .i64 m)).setCell ⟨gm, 2, none⟩ (.bool fl)) gq q) := Lib.hid ((AT.out.fr0 F12.out).q.fr hf3 (by have := Blk.ne (AT.out.fr0 F12.out).q HM12.out (by decide); simpa using this))
    have M13 : Hid (R7At (((w12.setCell ⟨gm, 0, none⟩ (.slice A2 n2 c2)).setCell ⟨gm, 1, none⟩ (.int .i64 m)).setCell ⟨gm, 2, none⟩ (.bool fl)) gm (.slice A2 n2 c2) m fl) := Lib.hid h3
    have R13 : Hid (AtL RowV.cells 5 (((w12.setCell ⟨gm, 0, none⟩ (.slice A2 n2 c2)).setCell ⟨gm, 1, none⟩ (.int .i64 m)).setCell ⟨gm, 2, none⟩ (.bool fl)) A2 R) := Lib.hid (HR2.out.ne_small HM12.out (by simp) hf3)
    have N13 : Hid (R7At (((w12.setCell ⟨gm, 0, none⟩ (.slice A2 n2 c2)).setCell ⟨gm, 1, none⟩ (.int .i64 m)).setCell ⟨gm, 2, none⟩ (.bool fl)) gn (.slice A k cap) m fl) := Lib.hid ((AT.out.fr0 F12.out).n.fr hf3 (by have := HGN.out; simp; omega))
    have S13 : Hid (AtL RowV.cells 5 (((w12.setCell ⟨gm, 0, none⟩ (.slice A2 n2 c2)).setCell ⟨gm, 1, none⟩ (.int .i64 m)).setCell ⟨gm, 2, none⟩ (.bool fl)) A R) := Lib.hid ((AT.out.fr0 F12.out).rows.ne_small HM12.out (by simp) hf3)
    clear h3 hf3 HM12 F12 AT F0 RM
    generalize (((w12.setCell ⟨gm, 0, none⟩ (.slice A2 n2 c2)).setCell ⟨gm, 1, none⟩ (.int .i64 m)).setCell ⟨gm, 2, none⟩ (.bool fl)) = w13 at *
    have m0 := M13.out.c0
    have m1 := M13.out.c1
    have m2 := M13.out.c2
    have n0 := N13.out.c0
    have n1 := N13.out.c1
    have n2' := N13.out.c2
    have HSM := Lib.hid (same7_any A2 n2 c2 m fl R A k cap m fl R w13 R13.out HN2.out S13.out HKL.out.1 (by have := HN2.out; have := HKL.out; omega) (by have := HKL.out; omega))
    rw [decide_eq_true rfl] at HSM
    go_wp2_with fail
    refine HSM.out.mono ?_
    rintro e w14 ⟨rfl, f14⟩
    replace F13 := Lib.hid (F13.out.trans f14)
    replace Q13 := Lib.hid (Q13.out.fr f14 (by simp))
    clear f14 HSM m0 m1 m2 n0 n1 n2'
    have q0 := Q13.out.c0
    have q1 := Q13.out.c1
    have q2 := Q13.out.c2
    have q3 := Q13.out.c3
    have q4 := Q13.out.c4
    have q5 := Q13.out.c5
    have q6 := Q13.out.c6
    go_wp2_with fail
    refine (HV.out _).mono ?_
    rintro e w15 ⟨rfl, f15⟩
    have F15 := Lib.hid (F13.out.trans f15)
    clear f15 q0 q1 q2 q3 q4 q5 q6
    go_wp2_with fail
    go_ret
    exact ⟨rfl, F15.out.below⟩
  · clear HPT
    go_upto_region 20 with (first
      | (refine wpList_load_row rfl _ _ rfl gq rfl 24 _ (0, 0) _ hq Try.underlying24 rfl (by kernel_rfl) ?_)
      | (refine wpList_load_row rfl _ _ rfl gn rfl 27 _ (0, 0) _ hr Try.underlying27 rfl (by kernel_rfl) ?_)
      | (refine wpList_load_row rfl _ _ rfl (w.heap.size + 1) rfl 30 _ (0, 0) _ hc Try.underlying30 rfl (by kernel_rfl) ?_)
      | (go_at_call 11; refine HPQ.out.mono ?_; rintro e w12 ⟨A2, n2, c2, m2, f2, k2, rfl, hpp⟩; have hf := hpp.2.2; have F12 := Lib.hid hf; have M12 := RM.out.fr hf (by simp); have z0 := M12.z 0; have z1 := M12.z 1; have z2 := M12.z 2; have u0 := M12.c0; have u1 := M12.c1; have u2 := M12.c2; have HM12 := Lib.hid M12; clear hpp hf M12))
    clear hq hr hc z0 z1 z2 u0 u1 u2 HPQ
    obtain ⟨h3, hf3⟩ := set3 (v' := .slice A2 n2 c2) (m' := m2) (f' := f2) HM12.out
    have FM : Hid (w.heap.size ≤ gm) := HGM
    have F13 : Hid (Fr [] w (((w12.setCell ⟨gm, 0, none⟩ (.slice A2 n2 c2)).setCell ⟨gm, 1, none⟩ (.int .i64 m2)).setCell ⟨gm, 2, none⟩ (.bool f2))) := Lib.hid ((F0.out.trans F12.out).trans' hf3 (fun x hx => .inr (by rw [List.mem_singleton] at hx; have := FM.out; omega)))
    have Q13 : Hid (QAt (((w12.setCell ⟨gm, 0, none⟩ (.slice A2 n2 c2)).setCell ⟨gm, 1, none⟩ (.int .i64 m2)).setCell ⟨gm, 2, none⟩ (.bool f2)) gq q) := Lib.hid ((AT.out.fr0 F12.out).q.fr hf3 (by have := Blk.ne (AT.out.fr0 F12.out).q HM12.out (by decide); simpa using this))
    clear h3 hf3 HM12 F12 AT F0 RM
    generalize (((w12.setCell ⟨gm, 0, none⟩ (.slice A2 n2 c2)).setCell ⟨gm, 1, none⟩ (.int .i64 m2)).setCell ⟨gm, 2, none⟩ (.bool f2)) = w13 at *
    have q0 := Q13.out.c0
    have q1 := Q13.out.c1
    have q2 := Q13.out.c2
    have q3 := Q13.out.c3
    have q4 := Q13.out.c4
    have q5 := Q13.out.c5
    have q6 := Q13.out.c6
    go_wp2_with fail
    refine (HV.out _).mono ?_
    rintro e w15 ⟨rfl, f15⟩
    have F15 := Lib.hid (F13.out.trans f15)
    clear f15 q0 q1 q2 q3 q4 q5 q6
    go_wp2_with fail
    go_ret
    exact ⟨rfl, F15.out.below⟩
end Go.Proofs.Ytjiikpmkedkbkaa

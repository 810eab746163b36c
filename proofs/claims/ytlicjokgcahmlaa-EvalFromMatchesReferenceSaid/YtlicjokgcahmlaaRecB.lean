/-
  Contracts of package row: ValidChange, ValidRecord.
-/
import Derived.Test.YtlicjokgcahmlaaRecA
namespace Go.Proofs.Ytlicjokgcahmlaa
open Go.RowKit

/-- 'ValidChange'. -/
theorem validChange_any (c : Chg) (w : World) : Calls Try.prog 82 #[c.val] w fun e w' => e = .returned (.bool (Rw.chg c)) ∧ Fr [] w w' := by
  have HC : Hid (Rw.chg c = (Rw.turns c && Rw.sound c.t c.k c.had c.o0 c.o1 c.o2 && Rw.sound c.t c.k c.has c.n0 c.n1 c.n2)) := Lib.hid rfl
  have HT : Hid (Rw.turns c = (c.had != c.has || c.had && Rw.differs c)) := Lib.hid rfl
  have hq : ∀ w, (binOp .neq 29 (.agg #[.int .i64 c.o0, .int .i64 c.o1, .int .i64 c.o2]) (.agg #[.int .i64 c.n0, .int .i64 c.n1, .int .i64 c.n2])).run Try.prog w = .ok (.bool (Rw.differs c)) w := by
    intro w
    rw [neq_v3]
    unfold Rw.differs
    congr 2
    rw [Bool.eq_iff_iff]
    simp
  have hg := eqGuard_v3
  have Hx1 : Hid (∀ w, Calls Try.prog 95 #[c.val, .bool c.had, .agg #[.int .i64 c.o0, .int .i64 c.o1, .int .i64 c.o2]] w fun e w' => e = .returned (.bool (Rw.sound c.t c.k c.had c.o0 c.o1 c.o2)) ∧ Fr [] w w') := Lib.hid fun w => sound_any c c.had _ _ _ w
  have Hx2 : Hid (∀ w, Calls Try.prog 95 #[c.val, .bool c.has, .agg #[.int .i64 c.n0, .int .i64 c.n1, .int .i64 c.n2]] w fun e w' => e = .returned (.bool (Rw.sound c.t c.k c.has c.n0 c.n1 c.n2)) ∧ Fr [] w w') := Lib.hid fun w => sound_any c c.has _ _ _ w
  obtain ⟨t, k, had, o0, o1, o2, has, n0, n1, n2⟩ := c
  generalize hs1 : Rw.sound t k had o0 o1 o2 = s1 at *
  generalize hs2 : Rw.sound t k has n0 n1 n2 = s2 at *
  generalize hd : Rw.differs ⟨t, k, had, o0, o1, o2, has, n0, n1, n2⟩ = d at *
  clear hs1 hs2 hd
  unfold Chg.val at Hx1 Hx2 ⊢
  dsimp only at Hx1 Hx2 HC HT hq ⊢
  cases ht : (had != has || had && d)
  · rw [ht] at HT
    have HF : Hid (Rw.chg ⟨t, k, had, o0, o1, o2, has, n0, n1, n2⟩ = false) := Lib.hid (by rw [HC.out, HT.out]; rfl)
    cases had <;> cases has <;> cases d <;> (first | cases ht | skip)
    all_goals
      clear Hx1 Hx2 HC HT
      go_enter Try.func82, Try.ntmps82
      go_wp2_with fail
      go_ret
      exact ⟨by rw [HF.out]; rfl, (Fr.refl _ _).alloc _⟩
  · rw [ht] at HT
    have HF : Hid (Rw.chg ⟨t, k, had, o0, o1, o2, has, n0, n1, n2⟩ = (s1 && s2)) := Lib.hid (by rw [HC.out, HT.out]; simp)
    cases had <;> cases has <;> cases d <;> (first | cases ht | skip)
    all_goals
      clear HC HT
      go_enter Try.func82, Try.ntmps82
      go_wp2_with fail
      refine (Hx1.out _).mono ?_
      rintro e w1 ⟨rfl, f1⟩
      have F1 : Fr [] w w1 := ((Fr.refl _ _).alloc _).trans f1
      have hB := (Blk.new w 62 _).fr f1 (by simp)
      clear f1 Hx1
      cases s1
      · go_wp2_with fail
        go_ret
        exact ⟨by rw [HF.out]; rfl, F1⟩
      have c0 := hB.cell 0
      have c1 := hB.cell 1
      have c2 := hB.cell 2
      have c3 := hB.cell 3
      have c4 := hB.cell 4
      have c5 := hB.cell 5
      have c6 := hB.cell 6
      have c7 := hB.cell 7
      have c8 := hB.cell 8
      have c9 := hB.cell 9
      clear hB
      go_wp2_with fail
      refine (Hx2.out _).mono ?_
      rintro e w2 ⟨rfl, f2⟩
      have F2 : Fr [] w w2 := F1.trans f2
      clear f2 Hx2 F1
      cases s2
      all_goals
        go_wp2_with fail
        go_ret
        exact ⟨by rw [HF.out]; rfl, F2⟩
end Go.Proofs.Ytlicjokgcahmlaa

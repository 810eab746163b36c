/-
  The plain law of StoreCommutes: two changes of different rows, each of what is there, can be applied in either order.
-/
import Derived.Test.YtakfaffgfdbfmaaStL
namespace Go.Proofs.Ytakfaffgfdbfmaa
namespace Cmt

/-- Small values: what the logs leave. -/
def SmallV (r : RowV) : Prop := (0 ≤ r.x ∧ r.x ≤ 9) ∧ (0 ≤ r.y ∧ r.y ≤ 9) ∧ (-20 ≤ r.z ∧ r.z ≤ 19)
theorem small {l : List Rec} (h : Lg.Ok l) : ∀ n, n ≤ l.length → ∀ e ∈ (Lg.run (l.take n)).M, SmallV e.2
  | 0, _, e, he => by simp [Lg.run, Sm.new] at he
  | n + 1, hn, e, he => by
    have hf := h.fits n (by omega)
    rw [Lg.run_succ l (by omega), (Lg.fits_pos hf).2] at he
    have hs := h.small l[n] (List.getElem_mem _)
    have ih := small h n (by omega)
    dsimp only at he
    generalize (Lg.run (l.take n)).M = M at ih he
    generalize l[n].cs = cs at hs he
    clear hf
    induction cs generalizing M with
    | nil => exact ih e he
    | cons c cs ihc =>
      rw [List.foldl_cons] at he
      refine ihc _ (fun e' he' => ?_) (fun d hd => hs d (by simp [hd])) he
      have hc := hs c (by simp)
      unfold Sm.put1 at he'
      split at he'
      · rename_i hh
        rcases List.mem_cons.1 (show e' ∈ _ :: _ from he') with h1 | h1
        · obtain ⟨a, b, d⟩ := hc.new hh
          rw [h1]
          exact ⟨a, ⟨by show 0 ≤ c.n1; omega, b.2⟩, d⟩
        · exact ih e' (List.mem_filter.1 h1).1
      · exact ih e' (List.mem_filter.1 he').1

/-- The change that the law makes: what is there is removed or replaced; what is not there is added. -/
def mk (M : List (IdK × RowV)) (t k : Int) (keep : Bool) (y : Int) : Chg :=
  match mget M (idOf t k) with
  | none => ⟨t, k, false, 0, 0, 0, true, 1, y, 1⟩
  | some r => if keep = true then ⟨t, k, true, r.x, r.y, r.z, true, r.x + 1, y, 1⟩ else ⟨t, k, true, r.x, r.y, r.z, false, 0, 0, 0⟩
theorem mk_id (M : List (IdK × RowV)) (t k : Int) (keep : Bool) (y : Int) : (mk M t k keep y).t = t ∧ (mk M t k keep y).k = k := by
  unfold mk
  split
  · exact ⟨rfl, rfl⟩
  · split <;> exact ⟨rfl, rfl⟩
theorem mk_meets (M : List (IdK × RowV)) (t k : Int) (keep : Bool) (y : Int) : Sm.meets M (mk M t k keep y) = true := by
  unfold Sm.meets
  rw [(mk_id M t k keep y).1, (mk_id M t k keep y).2]
  unfold mk
  cases hg : mget M (idOf t k) with
  | none => rfl
  | some r => cases keep <;> simp
theorem mk_chg {M : List (IdK × RowV)} (hM : Nd M) (hv : ∀ e ∈ M, SmallV e.2) {t k : Int} (ht : 0 ≤ t ∧ t ≤ 2) (hk : 1 ≤ k ∧ k ≤ 9) (keep : Bool) {y : Int} (hy : 0 ≤ y ∧ y < 50) : Rw.chg (mk M t k keep y) = true := by
  unfold mk
  cases hg : mget M (idOf t k) with
  | none =>
    simp only [Rw.chg, Rw.turns, Rw.sound, Rw.row, Rw.inI, Rw.differs]
    simp
    omega
  | some r =>
    obtain ⟨a, b, d⟩ := hv _ ((mget_iff hM).1 hg)
    dsimp only at a b d
    cases keep
    · simp only [Rw.chg, Rw.turns, Rw.sound, Rw.row, Rw.inI, Rw.differs]
      simp
      omega
    · simp only [Rw.chg, Rw.turns, Rw.sound, Rw.row, Rw.inI, Rw.differs]
      simp
      omega
theorem fits_one {s : Sm.Sta} {c : Chg} (hc : Rw.chg c = true) (hm : Sm.meets s.M c = true) (hp : 0 ≤ s.pos ∧ s.pos < 10000) (hl : s.M.length < 2000) : Sm.fits s ⟨s.pos + 1, [c]⟩ = true := by
  have hb := Rw.chg_bounds hc
  have h1 : Rw.behind (-1) 0 c = true := by unfold Rw.behind; exact decide_eq_true (by omega)
  have h2 : Sm.grow s.M.length c ≤ 2000 := by unfold Sm.grow; split <;> split <;> omega
  simp only [Sm.fits, Rw.valid, Rw.inI, Rw.chgs, Sm.fitsGo, hc, h1, hm, Bool.and_eq_true, decide_eq_true_eq, and_true, true_and, List.length_singleton]
  exact ⟨⟨by omega, by decide⟩, h2⟩
theorem commute {s : Sm.Sta} (h : Sm.Ok s) {c d : Chg} (hc : Rw.chg c = true) (hd : Rw.chg d = true) (hmc : Sm.meets s.M c = true) (hmd : Sm.meets s.M d = true) (hne : idOf c.t c.k ≠ idOf d.t d.k) (hp : s.pos < 9000) (hl : s.M.length < 1000) :
    Sm.fits s ⟨s.pos + 1, [c]⟩ = true ∧ Sm.fits (Sm.apply s ⟨s.pos + 1, [c]⟩) ⟨s.pos + 2, [d]⟩ = true ∧ Sm.apply (Sm.apply s ⟨s.pos + 1, [c]⟩) ⟨s.pos + 2, [d]⟩ = ⟨Sm.put1 (Sm.put1 s.M c) d, s.pos + 2⟩ := by
  have h0 := h.p0
  have hf := fits_one (s := s) hc hmc ⟨h0, by omega⟩ (by omega)
  have ha := (Lg.fits_pos hf).2
  have hl1 := (Sm.fold_len [c] s.M h.nd).2
  have hf2 : Sm.fits (Sm.apply s ⟨s.pos + 1, [c]⟩) ⟨s.pos + 2, [d]⟩ = true := by
    rw [ha]
    have h1 := fits_one (s := ⟨[c].foldl Sm.put1 s.M, s.pos + 1⟩) hd (by
      show Sm.meets (Sm.put1 s.M c) d = true
      rw [Sm.meets_congr (Sm.put1_other (Ne.symm hne))]
      exact hmd) ⟨by dsimp only; omega, by dsimp only; omega⟩ (by
        dsimp only
        have : ([c] : List Chg).length = 1 := rfl
        omega)
    dsimp only at h1
    rw [show s.pos + 1 + 1 = s.pos + 2 from by omega] at h1
    exact h1
  refine ⟨hf, hf2, ?_⟩
  rw [(Lg.fits_pos hf2).2, ha]
  rfl
theorem put1_at (M : List (IdK × RowV)) (c : Chg) : mget (Sm.put1 M c) (idOf c.t c.k) = if c.has = true then some (Sm.after c) else none := by
  unfold Sm.put1
  split
  · exact mget_put_same
  · exact mget_del_same
theorem put1_comm {M : List (IdK × RowV)} (h : Nd M) {c d : Chg} (hne : idOf c.t c.k ≠ idOf d.t d.k) : (Sm.put1 (Sm.put1 M c) d).Perm (Sm.put1 (Sm.put1 M d) c) := by
  refine Sm.perm_of_mget (Sm.put1_nd (Sm.put1_nd h c) d) (Sm.put1_nd (Sm.put1_nd h d) c) fun i => ?_
  by_cases h1 : i = idOf c.t c.k
  · subst h1
    rw [Sm.put1_other hne, put1_at, put1_at]
  · by_cases h2 : i = idOf d.t d.k
    · subst h2
      rw [put1_at, Sm.put1_other h1, put1_at]
    · rw [Sm.put1_other h2, Sm.put1_other h1, Sm.put1_other h1, Sm.put1_other h2]
theorem len27 {l : List Rec} (h : Lg.Ok l) : (Lg.run l).M.length ≤ 27 := by
  have h1 := Lst.cnt_len (Lg.run_ok l).nd (by rw [← Lg.run_all]; exact Lst.grid h l.length (Nat.le_refl _))
  have h2 := Lst.cnt_le (Lst.there (Lg.run l).M) 27
  omega
end Cmt
end Go.Proofs.Ytakfaffgfdbfmaa

/-
  Builtins on rows that are written in place: clear, copy, an element put into a row.
-/
import Derived.Test.YtciaallekkdnhaaGreatJb
import Derived.Laws.IdiomCopy
import Derived.Laws.Tables
import Derived.Lib.AppendZerosOnto
import Derived.Lib.Overlaps
namespace Go.Proofs.YtciaallekkdnhaaGreat

theorem Rw.chg_bounds {c : Chg} (h : Rw.chg c = true) : 0 ≤ c.t ∧ c.t ≤ 3 ∧ 1 ≤ c.k ∧ c.k ≤ 1000000 := by
  simp only [Rw.chg, Bool.and_eq_true] at h
  obtain ⟨⟨h1, h2⟩, h3⟩ := h
  have hr : ∀ a b d, Rw.row c.t c.k a b d = true → 0 ≤ c.t ∧ c.t ≤ 3 ∧ 1 ≤ c.k ∧ c.k ≤ 1000000 := by
    intro a b d hh
    simp only [Rw.row, Rw.inI, Bool.and_eq_true, decide_eq_true_eq] at hh
    omega
  cases hh : c.had
  · cases ha : c.has
    · simp [Rw.turns, hh, ha] at h1
    · rw [ha] at h3
      exact hr _ _ _ h3
  · rw [hh] at h2
    exact hr _ _ _ h2
theorem Rw.chg_id {c : Chg} (h : Rw.chg c = true) : (idOf c.t c.k).1 = (c.t, c.k) := by
  obtain ⟨h1, h2, h3, h4⟩ := Rw.chg_bounds h
  exact idOf_val (okI_mk (by omega) (by omega)) (okI_mk (by omega) (by omega))
/-- Ascending changes, each valid. -/
theorem Rw.chgs_all : ∀ (cs : List Chg) (a b : Int), Rw.chgs a b cs = true → (∀ c ∈ cs, Rw.chg c = true ∧ (a < c.t ∨ (a = c.t ∧ b < c.k))) ∧ cs.Pairwise (fun c d => c.t < d.t ∨ (c.t = d.t ∧ c.k < d.k))
  | [], _, _, _ => ⟨by simp, List.Pairwise.nil⟩
  | c :: cs, a, b, h => by
    simp only [Rw.chgs, Bool.and_eq_true, Rw.behind, decide_eq_true_eq] at h
    obtain ⟨⟨h1, h2⟩, h3⟩ := h
    obtain ⟨h4, h5⟩ := Rw.chgs_all cs c.t c.k h3
    refine ⟨fun d hd => ?_, List.pairwise_cons.2 ⟨fun d hd => (h4 d hd).2, h5⟩⟩
    rcases List.mem_cons.1 hd with rfl | hd
    · exact ⟨h1, h2⟩
    · have := h4 d hd
      exact ⟨this.1, by omega⟩
theorem Rw.valid_all {r : Rec} (h : Rw.valid r = true) : (∀ c ∈ r.cs, Rw.chg c = true) ∧ r.cs.Pairwise (fun c d => idOf c.t c.k ≠ idOf d.t d.k) := by
  simp only [Rw.valid, Bool.and_eq_true] at h
  obtain ⟨h1, h2⟩ := Rw.chgs_all _ _ _ h.2
  refine ⟨fun c hc => (h1 c hc).1, ?_⟩
  have h3 : ∀ c ∈ r.cs, (idOf c.t c.k).1 = (c.t, c.k) := fun c hc => Rw.chg_id (h1 c hc).1
  refine List.Pairwise.imp_of_mem (fun {c d} hc hd hlt e => ?_) h2
  have e1 := congrArg Subtype.val e
  rw [h3 c hc, h3 d hd] at e1
  simp at e1
  omega

namespace Sm
theorem put1_other {M : List (IdK × RowV)} {c : Chg} {i : IdK} (h : i ≠ idOf c.t c.k) : mget (put1 M c) i = mget M i := by
  unfold put1
  split
  · exact mget_put_other h
  · exact mget_del_other h
theorem put1_nd {M : List (IdK × RowV)} (h : Nd M) (c : Chg) : Nd (put1 M c) := by
  unfold put1
  split
  · exact h.put _ _
  · exact h.del _
theorem put1_len {M : List (IdK × RowV)} (h : Nd M) {c : Chg} (hm : meets M c = true) : ((put1 M c).length : Int) = grow M.length c := by
  unfold meets at hm
  unfold put1 grow
  cases hg : mget M (idOf c.t c.k) with
  | none =>
    rw [hg] at hm
    have hh : c.had = false := by simpa using hm
    cases ha : c.has
    · rw [if_neg (by simp), mdel_none hg, hh]
      simp
    · rw [if_pos rfl, length_mput h, hg, hh]
      simp
  | some u =>
    rw [hg] at hm
    have hh : c.had = true := by
      simp only [Bool.and_eq_true] at hm
      exact hm.1
    cases ha : c.has
    · have := length_mdel (x := idOf c.t c.k) h
      rw [hg] at this
      rw [if_neg (by simp), hh]
      simp at this ⊢
      omega
    · rw [if_pos rfl, length_mput h, hg, hh]
      simp
theorem put1_key {M : List (IdK × RowV)} (h : ∀ e ∈ M, e.1.1 = (e.2.t, e.2.k)) {c : Chg} (hc : Rw.chg c = true) : ∀ e ∈ put1 M c, e.1.1 = (e.2.t, e.2.k) := by
  unfold put1
  intro e he
  split at he
  · rcases mem_mput.1 he with rfl | ⟨he, _⟩
    · exact Rw.chg_id hc
    · exact h e he
  · exact h e (mem_mdel.1 he).1
theorem meets_congr {M M' : List (IdK × RowV)} {c : Chg} (h : mget M' (idOf c.t c.k) = mget M (idOf c.t c.k)) : meets M' c = meets M c := by
  unfold meets
  rw [h]
theorem fold_ok : ∀ (cs : List Chg) (M M' : List (IdK × RowV)), Nd M' → (∀ e ∈ M', e.1.1 = (e.2.t, e.2.k)) → (∀ c ∈ cs, Rw.chg c = true) → cs.Pairwise (fun c d => idOf c.t c.k ≠ idOf d.t d.k) →
    (∀ c ∈ cs, mget M' (idOf c.t c.k) = mget M (idOf c.t c.k)) → fitsGo M M'.length cs = true → Nd (cs.foldl put1 M') ∧ (∀ e ∈ cs.foldl put1 M', e.1.1 = (e.2.t, e.2.k)) ∧ (cs.foldl put1 M').length ≤ 2000
  | [], _, M', h1, h2, _, _, _, h6 => by
    simp only [fitsGo, decide_eq_true_eq] at h6
    exact ⟨h1, h2, by simpa using (by omega : M'.length ≤ 2000)⟩
  | c :: cs, M, M', h1, h2, h3, h4, h5, h6 => by
    simp only [fitsGo, Bool.and_eq_true] at h6
    obtain ⟨h4a, h4b⟩ := List.pairwise_cons.1 h4
    have hm : meets M' c = true := by rw [meets_congr (h5 c (by simp))]; exact h6.1
    have hl := put1_len h1 hm
    refine fold_ok cs M (put1 M' c) (put1_nd h1 c) (put1_key h2 (h3 c (by simp))) (fun d hd => h3 d (by simp [hd])) h4b (fun d hd => ?_) (by rw [hl]; exact h6.2)
    rw [put1_other (fun e => h4a d hd e.symm)]
    exact h5 d (by simp [hd])
theorem fold_len : ∀ (cs : List Chg) (M : List (IdK × RowV)), Nd M → Nd (cs.foldl put1 M) ∧ (cs.foldl put1 M).length ≤ M.length + cs.length
  | [], M, h => ⟨h, by simp⟩
  | c :: cs, M, h => by
    obtain ⟨h1, h2⟩ := fold_len cs (put1 M c) (put1_nd h c)
    refine ⟨h1, ?_⟩
    have h3 : (put1 M c).length ≤ M.length + 1 := by
      unfold put1
      split
      · rw [length_mput h]
        split <;> omega
      · have := length_mdel (x := idOf c.t c.k) h
        split at this <;> omega
    simp only [List.foldl_cons, List.length_cons]
    omega

theorem fold_key : ∀ (cs : List Chg) (M : List (IdK × RowV)), (∀ e ∈ M, e.1.1 = (e.2.t, e.2.k)) → (∀ c ∈ cs, Rw.chg c = true) → ∀ e ∈ cs.foldl put1 M, e.1.1 = (e.2.t, e.2.k)
  | [], _, h, _ => h
  | c :: cs, M, h, hc => fold_key cs (put1 M c) (put1_key h (hc c (by simp))) fun d hd => hc d (by simp [hd])
theorem fold_other : ∀ (cs : List Chg) (M : List (IdK × RowV)) (i : IdK), (∀ c ∈ cs, i ≠ idOf c.t c.k) → mget (cs.foldl put1 M) i = mget M i
  | [], _, _, _ => rfl
  | c :: cs, M, i, h => (fold_other cs (put1 M c) i fun d hd => h d (by simp [hd])).trans (put1_other (h c (by simp)))
theorem fitsGo_meets : ∀ (cs : List Chg) (M : List (IdK × RowV)) (n : Int), fitsGo M n cs = true → ∀ c ∈ cs, meets M c = true
  | [], _, _, _ => by simp
  | c :: cs, M, n, h => by
    simp only [fitsGo, Bool.and_eq_true] at h
    intro d hd
    rcases List.mem_cons.1 hd with rfl | hd
    · exact h.1
    · exact fitsGo_meets cs M _ h.2 d hd
/-- Each change meets what is there when its turn comes. -/
theorem fits_mid {s : Sta} (h : Ok s) {r : Rec} (hf : fits s r = true) (k : Nat) (hk : k < r.cs.length) :
    Nd ((r.cs.take k).foldl put1 s.M) ∧ (∀ e ∈ (r.cs.take k).foldl put1 s.M, e.1.1 = (e.2.t, e.2.k)) ∧ meets ((r.cs.take k).foldl put1 s.M) r.cs[k] = true ∧ ((r.cs.take k).foldl put1 s.M).length ≤ 2000 + k := by
  simp only [fits, Bool.and_eq_true, decide_eq_true_eq] at hf
  obtain ⟨⟨hv, _⟩, hg⟩ := hf
  obtain ⟨a1, a2⟩ := Rw.valid_all hv
  obtain ⟨b1, b2⟩ := fold_len (r.cs.take k) s.M h.nd
  refine ⟨b1, fold_key _ _ h.key fun c hc => a1 c (List.mem_of_mem_take hc), ?_, ?_⟩
  · rw [meets_congr (fold_other _ _ _ fun c hc => ?_)]
    · exact fitsGo_meets _ _ _ hg _ (List.getElem_mem hk)
    · obtain ⟨i, hi, rfl⟩ := List.getElem_of_mem hc
      rw [List.length_take] at hi
      rw [List.getElem_take]
      exact fun e => List.pairwise_iff_getElem.1 a2 i k (by omega) hk (by omega) e.symm
  · rw [List.length_take] at b2
    have := h.len
    omega
theorem Ok.applied {s : Sta} (h : Ok s) (r : Rec) : Ok (Sm.apply s r) := by
  unfold Sm.apply
  split
  · rename_i hf
    have hf' := hf
    simp only [fits, Bool.and_eq_true, decide_eq_true_eq] at hf'
    obtain ⟨⟨hv, hp⟩, hg⟩ := hf'
    obtain ⟨a1, a2⟩ := Rw.valid_all hv
    obtain ⟨b1, b2, b3⟩ := fold_ok r.cs s.M s.M h.nd h.key a1 a2 (fun _ _ => rfl) hg
    have hr : 1 ≤ r.p ∧ r.p ≤ 10000 := by
      simp only [Rw.valid, Rw.inI, Bool.and_eq_true, decide_eq_true_eq] at hv
      omega
    exact ⟨by show 0 ≤ r.p; omega, hr.2, b1, b2, b3⟩
  · exact h
end Sm
end Go.Proofs.YtciaallekkdnhaaGreat
namespace Go.Proofs.YtciaallekkdnhaaGreat

@[reducible] def RowV.cells (r : RowV) : List Value := [.int .i64 r.t, .int .i64 r.k, .int .i64 r.x, .int .i64 r.y, .int .i64 r.z]
theorem RowV.cells_len (r : RowV) : r.cells.length = 5 := rfl
theorem RowV.cells_one (r : RowV) : ∀ u ∈ r.cells, u.oneCell' = true := by
  intro u hu
  simp only [List.mem_cons, List.not_mem_nil, or_false] at hu
  rcases hu with rfl | rfl | rfl | rfl | rfl <;> rfl

namespace Sm
/-- Ahead of a table and a key. -/
def bef (r : RowV) (t k : Int) : Bool := decide (r.t < t ∨ (r.t = t ∧ r.k < k))
def Srt (L : List RowV) : Prop := L.Pairwise fun a b => a.t < b.t ∨ (a.t = b.t ∧ a.k < b.k)
/-- n is where a table and a key have their place. -/
structure Plc (L : List RowV) (t k : Int) (n : Nat) : Prop where
  le : n ≤ L.length
  lo : ∀ i (h : i < L.length), i < n → bef L[i] t k = true
  hi : ∀ i (h : i < L.length), n ≤ i → bef L[i] t k = false
/-- A list of the rows of a state. -/
structure Sim (M : List (IdK × RowV)) (L : List RowV) : Prop where
  perm : L.Perm (M.map (·.2))
  srt : Srt L
theorem Sim.len {M : List (IdK × RowV)} {L : List RowV} (h : Sim M L) : L.length = M.length := by simpa using h.perm.length_eq
theorem Sim.nil : Sim [] [] := ⟨List.Perm.refl _, List.Pairwise.nil⟩
def KeyOk (M : List (IdK × RowV)) : Prop := ∀ e ∈ M, e.1.1 = (e.2.t, e.2.k)
theorem Srt.get {L : List RowV} (h : Srt L) {i j : Nat} (hi : i < L.length) (hj : j < L.length) (hij : i < j) : L[i].t < L[j].t ∨ (L[i].t = L[j].t ∧ L[i].k < L[j].k) := List.pairwise_iff_getElem.1 h i j hi hj hij
theorem Srt.inj {L : List RowV} (h : Srt L) {a b : RowV} (ha : a ∈ L) (hb : b ∈ L) (h1 : a.t = b.t) (h2 : a.k = b.k) : a = b := by
  obtain ⟨i, hi, rfl⟩ := List.getElem_of_mem ha
  obtain ⟨j, hj, rfl⟩ := List.getElem_of_mem hb
  rcases Nat.lt_trichotomy i j with hij | rfl | hij
  · have := h.get hi hj hij; omega
  · rfl
  · have := h.get hj hi hij; omega
theorem mem_of_mget {M : List (IdK × RowV)} (hn : Nd M) (hk : KeyOk M) {t k : Int} (ht : okI t) (hkk : okI k) {r : RowV} : mget M (idOf t k) = some r ↔ r ∈ M.map (·.2) ∧ r.t = t ∧ r.k = k := by
  rw [mget_iff hn]
  constructor
  · intro h
    have h1 := hk _ h
    dsimp only at h1
    rw [idOf_val ht hkk] at h1
    injection h1 with h2 h3
    exact ⟨List.mem_map.2 ⟨_, h, rfl⟩, h2.symm, h3.symm⟩
  · rintro ⟨h1, h2, h3⟩
    obtain ⟨⟨i, r'⟩, h4, rfl⟩ := List.mem_map.1 h1
    have h5 := hk _ h4
    dsimp only at h5 h2 h3 ⊢
    have : i = idOf t k := Subtype.ext (by rw [h5, idOf_val ht hkk, h2, h3])
    rw [← this]
    exact h4
section
variable {M : List (IdK × RowV)} {L : List RowV} {t k : Int} {n : Nat}
/-- Whether the row at the place is the one that is looked for. -/
theorem Plc.hit (hs : Sim M L) (hn : Nd M) (hk : KeyOk M) (ht : okI t) (hkk : okI k) (_hp : Plc L t k n) (h : n < L.length) (e1 : L[n].t = t) (e2 : L[n].k = k) : mget M (idOf t k) = some L[n] :=
  (mem_of_mget hn hk ht hkk).2 ⟨hs.perm.mem_iff.1 (List.getElem_mem h), e1, e2⟩
theorem Plc.miss (hs : Sim M L) (hn : Nd M) (hk : KeyOk M) (ht : okI t) (hkk : okI k) (hp : Plc L t k n) (h : ∀ h : n < L.length, ¬ (L[n].t = t ∧ L[n].k = k)) : mget M (idOf t k) = none := by
  cases hg : mget M (idOf t k) with
  | none => rfl
  | some r =>
    exfalso
    obtain ⟨h1, h2, h3⟩ := (mem_of_mget hn hk ht hkk).1 hg
    obtain ⟨i, hi, rfl⟩ := List.getElem_of_mem (hs.perm.mem_iff.2 h1)
    rcases Nat.lt_or_ge i n with hin | hin
    · have := hp.lo i hi hin
      unfold bef at this
      simp only [decide_eq_true_eq] at this
      omega
    · have hnl : n < L.length := by omega
      have h4 := hp.hi n hnl (Nat.le_refl _)
      unfold bef at h4
      simp only [decide_eq_false_iff_not] at h4
      rcases Nat.lt_or_ge n i with h5 | h5
      · have := hs.srt.get hnl hi h5
        omega
      · have : i = n := by omega
        subst this
        exact h hnl ⟨h2, h3⟩
/-- Where there is a row of this table and key, it is at the place. -/
theorem Plc.at_ (hs : Sim M L) (hn : Nd M) (hk : KeyOk M) (ht : okI t) (hkk : okI k) (hp : Plc L t k n) {r : RowV} (hg : mget M (idOf t k) = some r) : ∃ h : n < L.length, L[n] = r := by
  by_cases h : ∀ h : n < L.length, ¬ (L[n].t = t ∧ L[n].k = k)
  · rw [Plc.miss hs hn hk ht hkk hp h] at hg
    cases hg
  · simp only [Classical.not_forall, Classical.not_not] at h
    obtain ⟨h1, h2, h3⟩ := h
    refine ⟨h1, ?_⟩
    have := Plc.hit hs hn hk ht hkk hp h1 h2 h3
    rw [hg] at this
    exact (Option.some.inj this).symm
theorem srt_mid {A B : List RowV} {x : RowV} (h : Srt (A ++ B)) (h1 : ∀ a ∈ A, bef a x.t x.k = true) (h2 : ∀ b ∈ B, x.t < b.t ∨ (x.t = b.t ∧ x.k < b.k)) : Srt (A ++ x :: B) := by
  unfold Srt at h ⊢
  rw [List.pairwise_append] at h ⊢
  obtain ⟨ha, hb, hab⟩ := h
  refine ⟨ha, List.pairwise_cons.2 ⟨h2, hb⟩, fun a haA b hb => ?_⟩
  rcases List.mem_cons.1 hb with rfl | hb
  · have := h1 a haA
    unfold bef at this
    simpa using this
  · exact hab a haA b hb
/-- What the reference does to the list for a change. -/
theorem Sim.put1 (hs : Sim M L) (hn : Nd M) (hk : KeyOk M) {c : Chg} (ht : okI c.t) (hkk : okI c.k) (hp : Plc L c.t c.k n) (hm : meets M c = true) :
    n + (if c.had = true then 1 else 0) ≤ L.length ∧ Sim (put1 M c) (L.take n ++ ((if c.has = true then [after c] else []) ++ L.drop (n + if c.had = true then 1 else 0))) := by
  have hlt : ∀ a ∈ L.take n, bef a c.t c.k = true := by
    intro a ha
    obtain ⟨i, hi, rfl⟩ := List.getElem_of_mem ha
    rw [List.length_take] at hi
    rw [List.getElem_take]
    exact hp.lo i (by omega) (by omega)
  have hpl := hp.le
  -- the rest of the list, and what is deleted
  obtain ⟨hle, hrest, hdel⟩ : n + (if c.had = true then 1 else 0) ≤ L.length ∧ (∀ b ∈ L.drop (n + if c.had = true then 1 else 0), c.t < b.t ∨ (c.t = b.t ∧ c.k < b.k)) ∧
      (L.take n ++ L.drop (n + if c.had = true then 1 else 0)).Perm ((mdel M (idOf c.t c.k)).map (·.2)) := by
    unfold meets at hm
    cases hg : mget M (idOf c.t c.k) with
    | none =>
      rw [hg] at hm
      have hh : c.had = false := by simpa using hm
      rw [hh]
      simp only [Bool.false_eq_true, if_false, Nat.add_zero]
      refine ⟨hpl, fun b hb => ?_, ?_⟩
      · obtain ⟨i, hi, rfl⟩ := List.getElem_of_mem hb
        rw [List.length_drop] at hi
        rw [List.getElem_drop]
        have h1 := hp.hi (n + i) (by omega) (by omega)
        unfold bef at h1
        simp only [decide_eq_false_iff_not] at h1
        have h2 : ¬ (L[n + i].t = c.t ∧ L[n + i].k = c.k) := fun h2 => by
          have := (mem_of_mget hn hk ht hkk (r := L[n + i])).2 ⟨hs.perm.mem_iff.1 (List.getElem_mem _), h2.1, h2.2⟩
          rw [hg] at this
          cases this
        omega
      · rw [List.take_append_drop, mdel_none hg]
        exact hs.perm
    | some r =>
      rw [hg] at hm
      have hh : c.had = true := by
        simp only [Bool.and_eq_true] at hm
        exact hm.1
      rw [hh]
      simp only [if_true]
      obtain ⟨hnl, her⟩ := Plc.at_ hs hn hk ht hkk hp hg
      obtain ⟨hin, e1, e2⟩ := (mem_of_mget hn hk ht hkk).1 hg
      refine ⟨hnl, fun b hb => ?_, ?_⟩
      · obtain ⟨i, hi, rfl⟩ := List.getElem_of_mem hb
        rw [List.length_drop] at hi
        rw [List.getElem_drop]
        have := hs.srt.get hnl (j := n + 1 + i) (by omega) (by omega)
        rw [her] at this
        omega
      · have h1 : L = L.take n ++ (r :: L.drop (n + 1)) := by
          rw [← her, ← List.drop_eq_getElem_cons hnl, List.take_append_drop]
        have h2 : ((r :: (L.take n ++ L.drop (n + 1)))).Perm (M.map (·.2)) := by
          refine List.Perm.trans ?_ hs.perm
          conv => rhs; rw [h1]
          exact List.perm_middle.symm
        have h3 : M.Perm ((idOf c.t c.k, r) :: mdel M (idOf c.t c.k)) := by
          have hmem := (mget_iff hn).1 hg
          clear hm hs hp hlt hnl her h1 h2 hk hpl hin
          induction M with
          | nil => simp at hmem
          | cons a M ih =>
            obtain ⟨n1, n2⟩ := List.pairwise_cons.1 hn
            by_cases ha : a.1 = idOf c.t c.k
            · have e3 : mget (a :: M) (idOf c.t c.k) = some a.2 := by simp [mget, ha]
              rw [e3] at hg
              have e4 : mget M (idOf c.t c.k) = none := mget_none.2 fun q hq e => n1 q hq (ha.trans e.symm)
              have e5 : mdel (a :: M) (idOf c.t c.k) = mdel M (idOf c.t c.k) := List.filter_cons_of_neg (by simp [ha])
              rw [e5, mdel_none e4, ← ha, ← Option.some.inj hg]
            · have e3 : mget (a :: M) (idOf c.t c.k) = mget M (idOf c.t c.k) := by simp [mget, ha]
              have e5 : mdel (a :: M) (idOf c.t c.k) = a :: mdel M (idOf c.t c.k) := List.filter_cons_of_pos (by simp [ha])
              rw [e3] at hg
              rw [e5]
              exact ((ih n2 hg ((mget_iff n2).1 hg)).cons a).trans (List.Perm.swap _ _ _)
        have h4 := h2.trans (h3.map (·.2))
        exact h4.cons_inv
  refine ⟨hle, ?_⟩
  have hsub : Srt (L.take n ++ L.drop (n + if c.had = true then 1 else 0)) := by
    refine List.Pairwise.sublist ?_ hs.srt
    conv => rhs; rw [← List.take_append_drop n L]
    refine List.Sublist.append (List.Sublist.refl _) ?_
    rw [← List.drop_drop]
    exact List.drop_sublist _ _
  cases hha : c.has
  · simp only [Bool.false_eq_true, if_false, List.nil_append]
    exact ⟨by unfold Sm.put1; rw [hha]; simpa using hdel, hsub⟩
  · simp only [if_true, List.singleton_append]
    refine ⟨?_, srt_mid hsub hlt hrest⟩
    unfold Sm.put1
    rw [if_pos hha]
    unfold mput
    rw [List.map_cons]
    exact List.perm_middle.trans (hdel.cons _)
theorem put1_keyOk (hk : KeyOk M) {c : Chg} (hc : Rw.chg c = true) : KeyOk (Sm.put1 M c) := put1_key hk hc
end
end Sm
end Go.Proofs.YtciaallekkdnhaaGreat
namespace Go.Proofs.YtciaallekkdnhaaGreat
open Go.RowKit

/-- The array in which vs stand from o on. -/
def wr : Array Value → Nat → List Value → Array Value
  | a, _, [] => a
  | a, o, v :: r => wr (a.setIfInBounds o v) (o + 1) r
theorem wr_size : ∀ (vs : List Value) (a : Array Value) (o : Nat), (wr a o vs).size = a.size
  | [], _, _ => rfl
  | v :: r, a, o => by rw [wr, wr_size r]; simp
theorem wr_get : ∀ (vs : List Value) (a : Array Value) (o k : Nat), o + vs.length ≤ a.size → (wr a o vs)[k]? = if o ≤ k ∧ k < o + vs.length then vs[k - o]? else a[k]?
  | [], a, o, k, _ => by rw [wr, if_neg (by simp)]
  | v :: r, a, o, k, h => by
    rw [List.length_cons] at h
    rw [wr, wr_get r (a.setIfInBounds o v) (o + 1) k (by rw [Array.size_setIfInBounds]; omega)]
    by_cases h1 : k = o
    · subst h1
      rw [if_neg (by omega), if_pos (by simp)]
      simp only [Nat.sub_self, List.getElem?_cons_zero]
      rw [Array.getElem?_setIfInBounds_self_of_lt (by omega)]
    · by_cases h2 : o + 1 ≤ k ∧ k < o + 1 + r.length
      · rw [if_pos h2, if_pos (by rw [List.length_cons]; omega)]
        rw [show k - o = (k - (o + 1)) + 1 by omega, List.getElem?_cons_succ]
      · rw [if_neg h2, if_neg (by rw [List.length_cons]; omega)]
        rw [Array.getElem?_setIfInBounds_ne (by omega)]
theorem wr_all {a : Array Value} {vs : List Value} (h : a.size = vs.length) : wr a 0 vs = vs.toArray := by
  apply Array.ext_getElem?
  intro k
  rw [wr_get vs a 0 k (by omega)]
  by_cases h1 : k < vs.length
  · rw [if_pos (by omega)]
    simp
  · rw [if_neg (by omega)]
    rw [Array.getElem?_eq_none (by omega), Array.getElem?_eq_none (by simp; omega)]
theorem Blk.puts {g t : Nat} : ∀ (vs : List Value) {w : World} {cs : Array Value} (o : Nat), Blk w g t cs → Blk (w.setCells g o vs) g t (wr cs o vs)
  | [], _, _, _, h => h
  | v :: r, _, _, o, h => Blk.puts r (o + 1) (h.set_ o v)
theorem Fr.puts {S : List Nat} {a : World} {g : Nat} : ∀ (vs : List Value) {w : World} (o : Nat), Fr S a w → (g ∈ S ∨ a.heap.size ≤ g) → Fr S a (w.setCells g o vs)
  | [], _, _, h, _ => h
  | v :: r, _, o, h, hg => Fr.puts r (o + 1) (h.setCell hg v) hg
/-- A block whose cells are all written anew. -/
theorem Blk.fill {g t : Nat} {w : World} {cs : Array Value} (h : Blk w g t cs) (vs : List Value) (hs : cs.size = vs.length) : Blk (w.setCells g 0 vs) g t vs.toArray := by
  have h1 := Blk.puts vs 0 h
  rwa [wr_all hs] at h1

theorem Fr.setRow {S : List Nat} {a w : World} (h : Fr S a w) {g : Nat} (hg : g ∈ S ∨ a.heap.size ≤ g) (cs : Array Value) : Fr S a (w.setRow g cs) :=
  ⟨h.os, h.tape, h.output, by rw [setRow_size]; exact h.size, fun k hk hs => (setRow_other w g k cs (by rintro rfl; rcases hg with h1 | h1; exact hs h1; omega)).trans (h.block k hk hs)⟩
/-- A struct is built; its cells are told. -/
theorem wpList_build_is {P : Program} {ops : Array Oper} {rest : List Oper} {o : Oper} {a : Act} {w : World} {Q : Exit → Act → World → Prop} (hg : o.guard = none) (t : TypeId) (parts : Array (Nat × Operand)) (ho : o.op = .build t parts) (cells : Array Value)
    (hb : P.built t (parts.map fun (i, x) => (i, a.eval x)).toList = some cells) (h : wpList P ops Q rest (a.put o.dst (.agg cells)) w) : wpList P ops Q (o :: rest) a w :=
  wpList_build hg t parts ho (by rw [hb]; rfl) (by rw [hb]; exact h)
/-- A store of a whole struct into a block of its own: the world behind it has a name. -/
theorem wpList_store_blk {P : Program} {ops : Array Oper} {rest : List Oper} {o : Oper} {a : Act} {w : World} {Q : Exit → Act → World → Prop} (hgd : o.guard = none) (ty : TypeId) (x y : Operand) (ho : o.op = .store ty x y)
    (g : Nat) (cells : Array Value) (hx : a.eval x = .pointer (some ⟨g, 0, none⟩)) (hy : a.eval y = .agg cells)
    (t : TypeId) (old : Array Value) (hg : Blk w g t old) (hi : (P.info? ty).map (·.size) = some cells.size)
    (hold : old.size = cells.size) (h1 : cells.toList.all (·.oneCell') = true)
    (h : ∀ w', Blk w' g t cells → Fr [g] w w' → wpList P ops Q rest (a.put o.dst undef) w') : wpList P ops Q (o :: rest) a w :=
  wpList_store_row hgd ty x y ho g cells hx hy t old hg hi hold (by rw [← h1]; simp) (h _ (setRow_heap w g old cells t (0, 0) hg) ((Fr.refl [g] w).setRow (.inl (by simp)) cells))
section
variable {X : Type} {e size : Nat} {enc : X → List Value} {w w' : World} {L : List X}
/-- A row's own block. -/
theorem OwnL.blk {A : Option Addr} {n cap : Nat} (h : OwnL e size enc w (.slice A n cap) L) : n = L.length ∧ ((A = none ∧ L = [] ∧ cap = 0) ∨ ∃ g cur, A = some ⟨g, 0, none⟩ ∧ Blk w g e cur ∧ n ≤ cap ∧ cap ≤ maxLen ∧ cur.size = cap * size ∧ cur.toList.take (n * size) = L.flatMap enc) := by
  rcases h.2 with ⟨h0, h1⟩ | ⟨g, c, cur, hv, _, hg, r⟩
  · injection h0 with e1 e2 e3
    subst e1 e2 e3
    exact ⟨h1.symm, .inl ⟨rfl, List.eq_nil_of_length_eq_zero h1, rfl⟩⟩
  · injection hv with e1 e2 e3
    subst e1 e2 e3
    exact ⟨rfl, .inr ⟨g, cur, rfl, hg, r⟩⟩
theorem OwnL.of_blk {g n cap : Nat} {cur : Array Value} (henc : ∀ x, (enc x).length = size) (hb : Blk w g e cur) (hn : n = L.length) (hc : n ≤ cap) (hm : cap ≤ maxLen) (hs : cur.size = cap * size) (ht : ∀ k, k < n * size → cur[k]? = (L.flatMap enc)[k]?) :
    OwnL e size enc w (.slice (some ⟨g, 0, none⟩) n cap) L := by
  subst hn
  refine ⟨flat_len henc L, .inr ⟨g, cap, cur, rfl, Nat.zero_le _, hb, hc, hm, hs, ?_⟩⟩
  apply List.ext_getElem?
  intro k
  by_cases hk : k < L.length * size
  · rw [List.getElem?_take_of_lt hk, ← ht k hk]
    simp
  · rw [List.getElem?_eq_none (by rw [List.length_take]; omega), List.getElem?_eq_none (by rw [flat_len henc]; omega)]
theorem OwnL.cur_get {n size : Nat} {cur : Array Value} {fl : List Value} (h : cur.toList.take (n * size) = fl) {k : Nat} (hk : k < n * size) : cur[k]? = fl[k]? := by
  rw [← h, List.getElem?_take_of_lt hk]
  simp
/-- An element is written. -/
theorem OwnL.put (henc : ∀ x, (enc x).length = size) {g n cap : Nat} (h : OwnL e size enc w (.slice (some ⟨g, 0, none⟩) n cap) L) {i : Nat} (hi : i < n) (x : X) :
    OwnL e size enc (w.setCells g (i * size) (enc x)) (.slice (some ⟨g, 0, none⟩) n cap) (L.set i x) := by
  obtain ⟨hn, h0 | ⟨g', cur, hA, hb, hc, hm, hs, ht⟩⟩ := h.blk
  · cases h0.1
  · injection hA with hA
    injection hA with hA
    subst hA
    have hle : i * size + size ≤ n * size := by
      have := Nat.mul_le_mul_right size (show i + 1 ≤ n from hi)
      rw [Nat.add_mul] at this
      omega
    have hle2 : n * size ≤ cap * size := Nat.mul_le_mul_right _ hc
    refine OwnL.of_blk henc (Blk.puts _ _ hb) (by rw [List.length_set]; exact hn) hc hm (by rw [wr_size, hs]) (fun k hk => ?_)
    rw [wr_get _ _ _ _ (by rw [henc, hs]; omega), henc]
    have hpos : 0 < size := by
      rcases Nat.eq_zero_or_pos size with h1 | h1
      · subst h1; omega
      · exact h1
    have hq : k / size < L.length := by
      rw [Nat.div_lt_iff_lt_mul hpos, ← hn]
      exact hk
    have hk2 : k = k / size * size + k % size := by rw [Nat.mul_comm]; exact (Nat.div_add_mod k size).symm
    have hr : k % size < size := Nat.mod_lt _ hpos
    have h2 := flat_get henc (L.set i x) (k / size) (by rw [List.length_set]; exact hq) (k % size) hr
    rw [← hk2] at h2
    rw [h2]
    by_cases hki : k / size = i
    · have h3 : i * size ≤ k ∧ k < i * size + size := by rw [← hki]; omega
      rw [if_pos h3]
      have h4 : (L.set i x)[k / size]'(by rw [List.length_set]; exact hq) = x := by simp [hki]
      rw [h4, show k - i * size = k % size by rw [← hki]; omega]
    · have h3 : ¬ (i * size ≤ k ∧ k < i * size + size) := by
        rintro ⟨ha, hb'⟩
        apply hki
        have e1 : i ≤ k / size := by rw [Nat.le_div_iff_mul_le hpos]; exact ha
        have e2 : k / size < i + 1 := by rw [Nat.div_lt_iff_lt_mul hpos, Nat.add_mul]; omega
        omega
      rw [if_neg h3, OwnL.cur_get ht hk]
      have h5 := flat_get henc L (k / size) hq (k % size) hr
      rw [← hk2] at h5
      rw [h5]
      congr 2
      rw [List.getElem_set_ne (fun h => hki h.symm)]
/-- Fewer elements of a row. -/
theorem OwnL.shrink (henc : ∀ x, (enc x).length = size) {g n cap : Nat} (h : OwnL e size enc w (.slice (some ⟨g, 0, none⟩) n cap) L) {m : Nat} (hm : m ≤ n) : OwnL e size enc w (.slice (some ⟨g, 0, none⟩) m cap) (L.take m) := by
  obtain ⟨hn, h0 | ⟨g', cur, hA, hb, hc, hmx, hs, ht⟩⟩ := h.blk
  · cases h0.1
  · injection hA with hA
    injection hA with hA
    subst hA
    have hle : m * size ≤ n * size := Nat.mul_le_mul_right _ hm
    refine OwnL.of_blk henc hb (by rw [List.length_take]; omega) (by omega) hmx hs (fun k hk => ?_)
    rw [OwnL.cur_get ht (by omega), flat_take henc, List.getElem?_take_of_lt hk]
/-- What is written behind the first m elements leaves these. -/
theorem OwnL.tail (henc : ∀ x, (enc x).length = size) {g n cap o : Nat} (h : OwnL e size enc w (.slice (some ⟨g, 0, none⟩) n cap) L) {m : Nat} (hm : m ≤ n) (vs : List Value) (ho : m * size ≤ o) (hv : o + vs.length ≤ cap * size) : OwnL e size enc (w.setCells g o vs) (.slice (some ⟨g, 0, none⟩) m cap) (L.take m) := by
  obtain ⟨hn, h0 | ⟨g', cur, hA, hb, hc, hmx, hs, ht⟩⟩ := h.blk
  · cases h0.1
  · injection hA with hA
    injection hA with hA
    subst hA
    have hle : m * size ≤ n * size := Nat.mul_le_mul_right _ hm
    refine OwnL.of_blk henc (Blk.puts _ _ hb) (by rw [List.length_take]; omega) (by omega) hmx (by rw [wr_size, hs]) (fun k hk => ?_)
    rw [wr_get _ _ _ _ (by rw [hs]; exact hv), if_neg (by omega), OwnL.cur_get ht (by omega), flat_take henc, List.getElem?_take_of_lt hk]
end
end Go.Proofs.YtciaallekkdnhaaGreat
namespace Go.Proofs.YtciaallekkdnhaaGreat
open Go.RowKit

section
variable {P : Program}
theorem blk_cells {w : World} {g t : Nat} {cur : Array Value} (h : Blk w g t cur) {o m : Nat} (hm : o + m ≤ cur.size) : (∀ j, j < m → (w.cell? ⟨g, o + j, none⟩).isSome = true) ∧ ∀ j, j < m → w.frozen? ⟨g, o + j, none⟩ = false :=
  ⟨fun j hj => by rw [h.cell, Array.getElem?_eq_getElem (by omega)]; rfl, fun j _ => h.frozen _⟩
/-- clear(s): zero values. -/
theorem run_clear_put (w : World) (t e ty : TypeId) (z : Value) (ht : P.underlying t = some (.slice e)) (hv : ∀ w, (zeroValue e).run P w = .ok z w) (b o n c tb : Nat) (cur : Array Value) (hn : 0 < n) (hb : Blk w b tb cur) (size : Nat) (hz : (Builtin.zeroCells z.cells n).toList.length = n * size)
    (h1 : ∀ v ∈ (Builtin.zeroCells z.cells n).toList, v.oneCell' = true) (hm : o + n * size ≤ cur.size) :
    (Builtin.clear_ #[t] ty #[.slice (some ⟨b, o, none⟩) n c]).run P w = .ok (.tuple #[]) (w.setCells b o (Builtin.zeroCells z.cells n).toList) := by
  obtain ⟨hc, hf⟩ := blk_cells hb (by rw [← hz] at hm; exact hm)
  have hst := run_storeCells_cells (P := P) b o (Builtin.zeroCells z.cells n).toList 0 w (by simpa using hc) (by simpa using hf) h1
  simp only [Nat.add_zero] at hst
  obtain ⟨m, rfl⟩ : ∃ m, n = m + 1 := ⟨n - 1, by omega⟩
  simp [Builtin.clear_, run_underlying ht, hv, hst]
/-- copy(d, s) of elements of any size. -/
theorem run_copy_put (w : World) (dT sT ty elem : TypeId) (size : Nat) (b o dLen dCap tb : Nat) (cur : Array Value) (a : Addr) (sLen sCap : Nat) (cs : List Value)
    (hu : P.underlying dT = some (.slice elem)) (hs : (P.info? elem).map (·.size) = some size) (m : Nat) (hn : m = Nat.min sLen dLen) (hl : cs.length = m * size)
    (hsrc : ∀ j v, cs[j]? = some v → w.cell? (a.add j) = some v) (hb : Blk w b tb cur) (hm : o + m * size ≤ cur.size) (h1 : ∀ v ∈ cs, v.oneCell' = true) :
    (Builtin.copy_ #[dT, sT] ty #[.slice (some ⟨b, o, none⟩) dLen dCap, .slice (some a) sLen sCap]).run P w = .ok (goInt m) (w.setCells b o cs) := by
  have hl1 := run_loadCells_list (P := P) w a cs hsrc
  obtain ⟨hc, hf⟩ := blk_cells hb (by rw [← hl] at hm; exact hm)
  have hst := run_storeCells_cells (P := P) b o cs 0 w (by simpa using hc) (by simpa using hf) h1
  cases hq : P.info? elem with
  | none => simp [hq] at hs
  | some i =>
    have hi : i.size = size := by simpa [hq] using hs
    rw [hl] at hl1
    simp [Builtin.copy_, run_underlying hu, Builtin.lenOf, Builtin.firstCells, sizeOf, typeInfo, hq, hi, ← hn, hl1, hst]
/-- A store of a struct somewhere in a block. -/
theorem wpList_store_put {ops : Array Oper} {rest : List Oper} {o : Oper} {a : Act} {w : World} {Q : Exit → Act → World → Prop} (hgd : o.guard = none) (ty : TypeId) (x y : Operand) (ho : o.op = .store ty x y)
    (g off : Nat) (cells : Array Value) (hx : a.eval x = .pointer (some ⟨g, off, none⟩)) (hy : a.eval y = .agg cells)
    (t : TypeId) (cur : Array Value) (hg : Blk w g t cur) (hi : (P.info? ty).map (·.size) = some cells.size)
    (hm : off + cells.size ≤ cur.size) (h1 : cells.toList.all (·.oneCell') = true)
    (h : wpList P ops Q rest (a.put o.dst undef) (w.setCells g off cells.toList)) : wpList P ops Q (o :: rest) a w :=
  wpList_plain hgd fun _ hK => by
    have hK' := hK _ _ h
    obtain ⟨hc, hf⟩ := blk_cells hg (m := cells.toList.length) (by simpa using hm)
    have hst := run_storeCells_cells (P := P) g off cells.toList 0 w (by simpa using hc) (by simpa using hf) (fun v hv => List.all_eq_true.1 h1 v hv)
    simp only [Nat.add_zero] at hst
    cases hq : P.info? ty with
    | none => simp [hq] at hi
    | some i =>
      have hs : cells.size = i.size := by simp [hq] at hi; omega
      have hrun : (storeVar ty ⟨g, off, none⟩ (.agg cells)).run P w = .ok () (w.setCells g off cells.toList) := by
        simp [storeVar, sizeOf, typeInfo, hq, Value.cells, hs, hst]
      unfold Oper.wp execOp
      simp only [ho, hx, hy, Instr.storeAt, Instr.sureAddr, Sem.run_bind, Sem.run_pure, Result.andThen_ok, hrun]
      exact hK'
end
section
variable {P : Program}
/-- copy, its run known. -/
theorem wp_copyP (w : World) {o : Oper} {a : Act} {K : Act → World → Prop} {Q : Exit → Act → World → Prop} (d s : Operand) (t t' : TypeId)
    (ho : o.op = .call { callee := .builtin .copy, args := #[d, s], argTypes := #[t, t'] }) (v u : Value) (hd : a.eval d = v) (hs : a.eval s = u) {v' : Value} {w' : World}
    (hr : (Builtin.copy_ #[t, t'] o.type #[v, u]).run P w = .ok v' w') (h : K (a.put o.dst v') w') : o.wp P a w K Q := by
  unfold Oper.wp execOp
  simp only [ho, resolve, invoke, builtin, Sem.run_bind, Sem.run_pure, Result.andThen_ok, List.map_toArray, List.map_cons, List.map_nil, hd, hs, hr]
  exact h
theorem wpList_copyP (w : World) {ops : Array Oper} {rest : List Oper} {o : Oper} {a : Act} {Q : Exit → Act → World → Prop} (hgd : o.guard = none) (d s : Operand) (t t' : TypeId)
    (ho : o.op = .call { callee := .builtin .copy, args := #[d, s], argTypes := #[t, t'] }) (v u : Value) (hd : a.eval d = v) (hs : a.eval s = u) {v' : Value} {w' : World}
    (hr : (Builtin.copy_ #[t, t'] o.type #[v, u]).run P w = .ok v' w') (h : wpList P ops Q rest (a.put o.dst v') w') : wpList P ops Q (o :: rest) a w :=
  wpList_plain hgd fun _ hK => wp_copyP w d s t t' ho v u hd hs hr (hK _ _ h)
theorem step_copyP {ops : Array Oper} {o : Oper} {a : Act} {w : World} {K : Act → World → Prop} {Q : Exit → Act → World → Prop} {E : Prop}
    (hg : o.guard = none) (d x : Operand) (dT sT : TypeId) (hop : o.op = Op.call { callee := Callee.builtin Builtin.copy, args := #[d, x], argTypes := #[dT, sT] })
    (v u : Value) (hd : a.eval d = v) (hx : a.eval x = u) {v' : Value} {w' : World} (hr : (Builtin.copy_ #[dT, sT] o.type #[v, u]).run P w = .ok v' w') (hK : K (a.put o.dst v') w') :
    if Region.wanted o (yielded ops a.tmps) = true then Oper.wp P o a w K Q else E := by
  rw [if_pos (by simp [Region.wanted, hg])]
  exact wp_copyP w d x dT sT hop v u hd hx hr hK
end
section
variable {X : Type} {e size : Nat} {enc : X → List Value} {w w' : World} {L : List X}
theorem flat_ins (henc : ∀ x, (enc x).length = size) (L : List X) (x : X) {i : Nat} (hi : i ≤ L.length) {k : Nat} : ((L.take i ++ x :: L.drop i).flatMap enc)[k]? = if k < i * size then ((L.take i).flatMap enc)[k]? else if k < i * size + size then (enc x)[k - i * size]? else ((L.drop i).flatMap enc)[k - (i * size + size)]? := by
  have hl : ((L.take i).flatMap enc).length = i * size := by rw [flat_len henc, List.length_take, Nat.min_eq_left hi]
  rw [List.flatMap_append, List.flatMap_cons]
  by_cases h1 : k < i * size
  · rw [if_pos h1, List.getElem?_append_left (by omega)]
  · rw [if_neg h1, List.getElem?_append_right (by omega), hl]
    by_cases h2 : k < i * size + size
    · rw [if_pos h2, List.getElem?_append_left (by rw [henc]; omega)]
    · rw [if_neg h2, List.getElem?_append_right (by rw [henc]; omega), henc]
      congr 1
      omega
/-- What stood from i on moved up, an element put at i. -/
theorem OwnL.insA (henc : ∀ x, (enc x).length = size) {g i cap m : Nat} {cur : Array Value} (hb : Blk w g e cur) (hs : cur.size = cap * size) (hi : i ≤ L.length) (hm : m = L.length + 1) (hc : m ≤ cap) (hmx : cap ≤ maxLen) (hcur : ∀ k, k < i * size → cur[k]? = ((L.take i).flatMap enc)[k]?) (x : X) :
    OwnL e size enc ((w.setCells g (i * size + size) ((L.drop i).flatMap enc)).setCells g (i * size) (enc x)) (.slice (some ⟨g, 0, none⟩) m cap) (L.take i ++ x :: L.drop i) := by
  have hdl : ((L.drop i).flatMap enc).length = (L.length - i) * size := by rw [flat_len henc, List.length_drop]
  have h1 : (L.length - i) * size + (i * size + size) = m * size := by rw [hm, Nat.add_mul, ← Nat.add_assoc, ← Nat.add_mul, Nat.sub_add_cancel hi, Nat.one_mul]
  have h2 : m * size ≤ cap * size := Nat.mul_le_mul_right _ hc
  refine OwnL.of_blk henc (Blk.puts _ _ (Blk.puts _ _ hb)) (by simp [hm]; omega) hc hmx (by rw [wr_size, wr_size, hs]) (fun k hk => ?_)
  rw [wr_get _ _ _ _ (by rw [wr_size, henc, hs]; omega), henc, wr_get _ _ _ _ (by rw [hdl, hs]; omega), hdl, flat_ins henc L x hi]
  by_cases c1 : k < i * size
  · rw [if_neg (by omega), if_neg (by omega), if_pos c1, hcur k c1]
  · by_cases c2 : k < i * size + size
    · rw [if_pos (by omega), if_neg c1, if_pos c2]
    · rw [if_neg (by omega), if_pos (by omega), if_neg c1, if_neg c2]
theorem OwnL.insB (henc : ∀ x, (enc x).length = size) {g i cap m : Nat} {cur : Array Value} (hb : Blk w g e cur) (hs : cur.size = cap * size) (hi : i ≤ L.length) (hm : m = L.length + 1) (hc : m ≤ cap) (hmx : cap ≤ maxLen) (hcur : ∀ k, k < i * size → cur[k]? = ((L.take i).flatMap enc)[k]?) (x : X) :
    OwnL e size enc ((w.setCells g (i * size) (enc x)).setCells g (i * size + size) ((L.drop i).flatMap enc)) (.slice (some ⟨g, 0, none⟩) m cap) (L.take i ++ x :: L.drop i) := by
  have hdl : ((L.drop i).flatMap enc).length = (L.length - i) * size := by rw [flat_len henc, List.length_drop]
  have h1 : (L.length - i) * size + (i * size + size) = m * size := by rw [hm, Nat.add_mul, ← Nat.add_assoc, ← Nat.add_mul, Nat.sub_add_cancel hi, Nat.one_mul]
  have h2 : m * size ≤ cap * size := Nat.mul_le_mul_right _ hc
  refine OwnL.of_blk henc (Blk.puts _ _ (Blk.puts _ _ hb)) (by simp [hm]; omega) hc hmx (by rw [wr_size, wr_size, hs]) (fun k hk => ?_)
  rw [wr_get _ _ _ _ (by rw [wr_size, hdl, hs]; omega), hdl, wr_get _ _ _ _ (by rw [henc, hs]; omega), henc, flat_ins henc L x hi]
  by_cases c1 : k < i * size
  · rw [if_neg (by omega), if_neg (by omega), if_pos c1, hcur k c1]
  · by_cases c2 : k < i * size + size
    · rw [if_neg (by omega), if_pos (by omega), if_neg c1, if_pos c2]
    · rw [if_pos (by omega), if_neg c1, if_neg c2]
end
/-- A store of an element of a row of one's own: the world behind it has a name. -/
theorem wpList_store_own {P : Program} {X : Type} {e size : Nat} {enc : X → List Value} {L : List X} {ops : Array Oper} {rest : List Oper} {o : Oper} {a : Act} {w : World} {Q : Exit → Act → World → Prop} (hgd : o.guard = none) (ty : TypeId) (x y : Operand) (ho : o.op = .store ty x y)
    (g off : Nat) (cells : Array Value) (hx : a.eval x = .pointer (some ⟨g, off, none⟩)) (hy : a.eval y = .agg cells)
    (i n cap : Nat) (v : X) (hown : OwnL e size enc w (.slice (some ⟨g, 0, none⟩) n cap) L) (henc : ∀ x, (enc x).length = size) (hone : ∀ x, ∀ u ∈ enc x, u.oneCell' = true) (hi : i < n) (hoff : off = i * size) (hcs : cells = (enc v).toArray)
    (hsz : (P.info? ty).map (·.size) = some size)
    (h : ∀ w', OwnL e size enc w' (.slice (some ⟨g, 0, none⟩) n cap) (L.set i v) → Fr [g] w w' → wpList P ops Q rest (a.put o.dst undef) w') : wpList P ops Q (o :: rest) a w := by
  subst hoff hcs
  have hcl : (enc v).toArray.size = size := by simp [henc]
  obtain ⟨-, h9 | ⟨g9, cur9, h91, hb9, hnc9, hcm9, hs9, ht9⟩⟩ := hown.blk
  · cases h9.1
  · injection h91 with h91
    injection h91 with h91
    subst h91
    have hle : i * size + size ≤ cap * size := by
      have := Nat.mul_le_mul_right size (show i + 1 ≤ cap by omega)
      rw [Nat.add_mul] at this
      omega
    exact wpList_store_put hgd ty x y ho g (i * size) (enc v).toArray hx hy e cur9 hb9 (by rw [hsz, hcl]) (by rw [hcl, hs9]; exact hle) (List.all_eq_true.2 (fun u hu => hone v u (by simpa using hu))) (h _ (by simpa using hown.put henc hi v) (Fr.puts _ _ (Fr.refl [g] w) (.inl (by simp))))
/-- The place of the first element of which p holds; -1 where there is none. -/
def idxP {X : Type} (p : X → Bool) : List X → Nat → Int
  | [], _ => -1
  | x :: l, i => if p x = true then i else idxP p l (i + 1)
theorem idxP_miss {X : Type} {p : X → Bool} : ∀ {l : List X} (i : Nat), (∀ x ∈ l, p x = false) → idxP p l i = -1
  | [], _, _ => rfl
  | x :: l, i, h => by
    rw [idxP, if_neg (by rw [h x (by simp)]; simp)]
    exact idxP_miss (i + 1) (fun y hy => h y (by simp [hy]))
theorem idxP_hit {X : Type} {p : X → Bool} : ∀ {l : List X} (i k : Nat) (hk : k < l.length), (∀ x ∈ l.take k, p x = false) → p l[k] = true → idxP p l i = ((i + k : Nat) : Int)
  | x :: l, i, 0, _, _, h => by
    rw [idxP, if_pos (by simpa using h)]
    rfl
  | x :: l, i, k + 1, hk, ha, h => by
    rw [idxP, if_neg (by rw [ha x (by simp)]; simp)]
    rw [idxP_hit (i + 1) k (by simpa using hk) (fun y hy => ha y (by simp [hy])) (by simpa using h)]
    congr 1
    omega
/-- Either p holds nowhere, or there is a first place. -/
theorem first_or {X : Type} (p : X → Bool) : ∀ l : List X, (∀ x ∈ l, p x = false) ∨ ∃ k, ∃ hk : k < l.length, (∀ x ∈ l.take k, p x = false) ∧ p l[k] = true
  | [] => .inl (by simp)
  | x :: l => by
    cases hp : p x with
    | true => exact .inr ⟨0, by simp, by simp, by simpa using hp⟩
    | false =>
      rcases first_or p l with h | ⟨k, hk, h1, h2⟩
      · exact .inl (fun y hy => by rcases List.mem_cons.1 hy with rfl | hy; exact hp; exact h y hy)
      · exact .inr ⟨k + 1, by simpa using hk, fun y hy => by
          rw [List.take_succ_cons] at hy
          rcases List.mem_cons.1 hy with rfl | hy
          · exact hp
          · exact h1 y hy, by simpa using h2⟩
end Go.Proofs.YtciaallekkdnhaaGreat

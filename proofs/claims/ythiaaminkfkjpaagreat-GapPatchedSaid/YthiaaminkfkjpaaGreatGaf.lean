/-
  PLAIN LAWS of the reference of a state: its rows as an ascending list.
-/
import Derived.Test.YthiaaminkfkjpaaGreatGae
namespace Go.Proofs.YthiaaminkfkjpaaGreat

theorem Rw.chg_bounds {c : Chg} (h : Rw.chg c = true) : 0 ≤ c.t ∧ c.t ≤ 3 ∧ 1 ≤ c.k ∧ c.k ≤ 1000000 := by
  simp only [Rw.chg, Bool.and_eq_true] at h
  obtain ⟨⟨h1, h2⟩, h3⟩ := h
  have hr : ∀ a b d, Rw.row c.t c.k a b d = true → 0 ≤ c.t ∧ c.t ≤ 3 ∧ 1 ≤ c.k ∧ c.k ≤ 1000000 := by
    intro a b d hh
    simp only [Rw.row, Rw.inI, Bool.and_eq_true, decide_eq_true_eq] at hh
    omega
  cases hh : c.had
  · cases ha : c.has
    · simp [Rw.turns, hh, ha] at h1
    · rw [ha] at h3
      exact hr _ _ _ h3
  · rw [hh] at h2
    exact hr _ _ _ h2
theorem Rw.chg_id {c : Chg} (h : Rw.chg c = true) : (idOf c.t c.k).1 = (c.t, c.k) := by
  obtain ⟨h1, h2, h3, h4⟩ := Rw.chg_bounds h
  exact idOf_val (okI_mk (by omega) (by omega)) (okI_mk (by omega) (by omega))
/-- Ascending changes, each valid. -/
theorem Rw.chgs_all : ∀ (cs : List Chg) (a b : Int), Rw.chgs a b cs = true → (∀ c ∈ cs, Rw.chg c = true ∧ (a < c.t ∨ (a = c.t ∧ b < c.k))) ∧ cs.Pairwise (fun c d => c.t < d.t ∨ (c.t = d.t ∧ c.k < d.k))
  | [], _, _, _ => ⟨by simp, List.Pairwise.nil⟩
  | c :: cs, a, b, h => by
    simp only [Rw.chgs, Bool.and_eq_true, Rw.behind, decide_eq_true_eq] at h
    obtain ⟨⟨h1, h2⟩, h3⟩ := h
    obtain ⟨h4, h5⟩ := Rw.chgs_all cs c.t c.k h3
    refine ⟨fun d hd => ?_, List.pairwise_cons.2 ⟨fun d hd => (h4 d hd).2, h5⟩⟩
    rcases List.mem_cons.1 hd with rfl | hd
    · exact ⟨h1, h2⟩
    · have := h4 d hd
      exact ⟨this.1, by omega⟩
theorem Rw.valid_all {r : Rec} (h : Rw.valid r = true) : (∀ c ∈ r.cs, Rw.chg c = true) ∧ r.cs.Pairwise (fun c d => idOf c.t c.k ≠ idOf d.t d.k) := by
  simp only [Rw.valid, Bool.and_eq_true] at h
  obtain ⟨h1, h2⟩ := Rw.chgs_all _ _ _ h.2
  refine ⟨fun c hc => (h1 c hc).1, ?_⟩
  have h3 : ∀ c ∈ r.cs, (idOf c.t c.k).1 = (c.t, c.k) := fun c hc => Rw.chg_id (h1 c hc).1
  refine List.Pairwise.imp_of_mem (fun {c d} hc hd hlt e => ?_) h2
  have e1 := congrArg Subtype.val e
  rw [h3 c hc, h3 d hd] at e1
  simp at e1
  omega

namespace Sm
theorem put1_other {M : List (IdK × RowV)} {c : Chg} {i : IdK} (h : i ≠ idOf c.t c.k) : mget (put1 M c) i = mget M i := by
  unfold put1
  split
  · exact mget_put_other h
  · exact mget_del_other h
theorem put1_nd {M : List (IdK × RowV)} (h : Nd M) (c : Chg) : Nd (put1 M c) := by
  unfold put1
  split
  · exact h.put _ _
  · exact h.del _
theorem put1_len {M : List (IdK × RowV)} (h : Nd M) {c : Chg} (hm : meets M c = true) : ((put1 M c).length : Int) = grow M.length c := by
  unfold meets at hm
  unfold put1 grow
  cases hg : mget M (idOf c.t c.k) with
  | none =>
    rw [hg] at hm
    have hh : c.had = false := by simpa using hm
    cases ha : c.has
    · rw [if_neg (by simp), mdel_none hg, hh]
      simp
    · rw [if_pos rfl, length_mput h, hg, hh]
      simp
  | some u =>
    rw [hg] at hm
    have hh : c.had = true := by
      simp only [Bool.and_eq_true] at hm
      exact hm.1
    cases ha : c.has
    · have := length_mdel (x := idOf c.t c.k) h
      rw [hg] at this
      rw [if_neg (by simp), hh]
      simp at this ⊢
      omega
    · rw [if_pos rfl, length_mput h, hg, hh]
      simp
theorem put1_key {M : List (IdK × RowV)} (h : ∀ e ∈ M, e.1.1 = (e.2.t, e.2.k)) {c : Chg} (hc : Rw.chg c = true) : ∀ e ∈ put1 M c, e.1.1 = (e.2.t, e.2.k) := by
  unfold put1
  intro e he
  split at he
  · rcases mem_mput.1 he with rfl | ⟨he, _⟩
    · exact Rw.chg_id hc
    · exact h e he
  · exact h e (mem_mdel.1 he).1
theorem meets_congr {M M' : List (IdK × RowV)} {c : Chg} (h : mget M' (idOf c.t c.k) = mget M (idOf c.t c.k)) : meets M' c = meets M c := by
  unfold meets
  rw [h]
theorem fold_ok : ∀ (cs : List Chg) (M M' : List (IdK × RowV)), Nd M' → (∀ e ∈ M', e.1.1 = (e.2.t, e.2.k)) → (∀ c ∈ cs, Rw.chg c = true) → cs.Pairwise (fun c d => idOf c.t c.k ≠ idOf d.t d.k) →
    (∀ c ∈ cs, mget M' (idOf c.t c.k) = mget M (idOf c.t c.k)) → fitsGo M M'.length cs = true → Nd (cs.foldl put1 M') ∧ (∀ e ∈ cs.foldl put1 M', e.1.1 = (e.2.t, e.2.k)) ∧ (cs.foldl put1 M').length ≤ 2000
  | [], _, M', h1, h2, _, _, _, h6 => by
    simp only [fitsGo, decide_eq_true_eq] at h6
    exact ⟨h1, h2, by simpa using (by omega : M'.length ≤ 2000)⟩
  | c :: cs, M, M', h1, h2, h3, h4, h5, h6 => by
    simp only [fitsGo, Bool.and_eq_true] at h6
    obtain ⟨h4a, h4b⟩ := List.pairwise_cons.1 h4
    have hm : meets M' c = true := by rw [meets_congr (h5 c (by simp))]; exact h6.1
    have hl := put1_len h1 hm
    refine fold_ok cs M (put1 M' c) (put1_nd h1 c) (put1_key h2 (h3 c (by simp))) (fun d hd => h3 d (by simp [hd])) h4b (fun d hd => ?_) (by rw [hl]; exact h6.2)
    rw [put1_other (fun e => h4a d hd e.symm)]
    exact h5 d (by simp [hd])
theorem fold_len : ∀ (cs : List Chg) (M : List (IdK × RowV)), Nd M → Nd (cs.foldl put1 M) ∧ (cs.foldl put1 M).length ≤ M.length + cs.length
  | [], M, h => ⟨h, by simp⟩
  | c :: cs, M, h => by
    obtain ⟨h1, h2⟩ := fold_len cs (put1 M c) (put1_nd h c)
    refine ⟨h1, ?_⟩
    have h3 : (put1 M c).length ≤ M.length + 1 := by
      unfold put1
      split
      · rw [length_mput h]
        split <;> omega
      · have := length_mdel (x := idOf c.t c.k) h
        split at this <;> omega
    simp only [List.foldl_cons, List.length_cons]
    omega

theorem fold_key : ∀ (cs : List Chg) (M : List (IdK × RowV)), (∀ e ∈ M, e.1.1 = (e.2.t, e.2.k)) → (∀ c ∈ cs, Rw.chg c = true) → ∀ e ∈ cs.foldl put1 M, e.1.1 = (e.2.t, e.2.k)
  | [], _, h, _ => h
  | c :: cs, M, h, hc => fold_key cs (put1 M c) (put1_key h (hc c (by simp))) fun d hd => hc d (by simp [hd])
theorem fold_other : ∀ (cs : List Chg) (M : List (IdK × RowV)) (i : IdK), (∀ c ∈ cs, i ≠ idOf c.t c.k) → mget (cs.foldl put1 M) i = mget M i
  | [], _, _, _ => rfl
  | c :: cs, M, i, h => (fold_other cs (put1 M c) i fun d hd => h d (by simp [hd])).trans (put1_other (h c (by simp)))
theorem fitsGo_meets : ∀ (cs : List Chg) (M : List (IdK × RowV)) (n : Int), fitsGo M n cs = true → ∀ c ∈ cs, meets M c = true
  | [], _, _, _ => by simp
  | c :: cs, M, n, h => by
    simp only [fitsGo, Bool.and_eq_true] at h
    intro d hd
    rcases List.mem_cons.1 hd with rfl | hd
    · exact h.1
    · exact fitsGo_meets cs M _ h.2 d hd
/-- Each change meets what is there when its turn comes. -/
theorem fits_mid {s : Sta} (h : Ok s) {r : Rec} (hf : fits s r = true) (k : Nat) (hk : k < r.cs.length) :
    Nd ((r.cs.take k).foldl put1 s.M) ∧ (∀ e ∈ (r.cs.take k).foldl put1 s.M, e.1.1 = (e.2.t, e.2.k)) ∧ meets ((r.cs.take k).foldl put1 s.M) r.cs[k] = true ∧ ((r.cs.take k).foldl put1 s.M).length ≤ 2000 + k := by
  simp only [fits, Bool.and_eq_true, decide_eq_true_eq] at hf
  obtain ⟨⟨hv, _⟩, hg⟩ := hf
  obtain ⟨a1, a2⟩ := Rw.valid_all hv
  obtain ⟨b1, b2⟩ := fold_len (r.cs.take k) s.M h.nd
  refine ⟨b1, fold_key _ _ h.key fun c hc => a1 c (List.mem_of_mem_take hc), ?_, ?_⟩
  · rw [meets_congr (fold_other _ _ _ fun c hc => ?_)]
    · exact fitsGo_meets _ _ _ hg _ (List.getElem_mem hk)
    · obtain ⟨i, hi, rfl⟩ := List.getElem_of_mem hc
      rw [List.length_take] at hi
      rw [List.getElem_take]
      exact fun e => List.pairwise_iff_getElem.1 a2 i k (by omega) hk (by omega) e.symm
  · rw [List.length_take] at b2
    have := h.len
    omega
theorem Ok.applied {s : Sta} (h : Ok s) (r : Rec) : Ok (Sm.apply s r) := by
  unfold Sm.apply
  split
  · rename_i hf
    have hf' := hf
    simp only [fits, Bool.and_eq_true, decide_eq_true_eq] at hf'
    obtain ⟨⟨hv, hp⟩, hg⟩ := hf'
    obtain ⟨a1, a2⟩ := Rw.valid_all hv
    obtain ⟨b1, b2, b3⟩ := fold_ok r.cs s.M s.M h.nd h.key a1 a2 (fun _ _ => rfl) hg
    have hr : 1 ≤ r.p ∧ r.p ≤ 10000 := by
      simp only [Rw.valid, Rw.inI, Bool.and_eq_true, decide_eq_true_eq] at hv
      omega
    exact ⟨by show 0 ≤ r.p; omega, hr.2, b1, b2, b3⟩
  · exact h
end Sm
end Go.Proofs.YthiaaminkfkjpaaGreat
namespace Go.Proofs.YthiaaminkfkjpaaGreat

@[reducible] def RowV.cells (r : RowV) : List Value := [.int .i64 r.t, .int .i64 r.k, .int .i64 r.x, .int .i64 r.y, .int .i64 r.z]
theorem RowV.cells_len (r : RowV) : r.cells.length = 5 := rfl
theorem RowV.cells_one (r : RowV) : ∀ u ∈ r.cells, u.oneCell' = true := by
  intro u hu
  simp only [List.mem_cons, List.not_mem_nil, or_false] at hu
  rcases hu with rfl | rfl | rfl | rfl | rfl <;> rfl

namespace Sm
/-- Ahead of a table and a key. -/
def bef (r : RowV) (t k : Int) : Bool := decide (r.t < t ∨ (r.t = t ∧ r.k < k))
def Srt (L : List RowV) : Prop := L.Pairwise fun a b => a.t < b.t ∨ (a.t = b.t ∧ a.k < b.k)
/-- n is where a table and a key have their place. -/
structure Plc (L : List RowV) (t k : Int) (n : Nat) : Prop where
  le : n ≤ L.length
  lo : ∀ i (h : i < L.length), i < n → bef L[i] t k = true
  hi : ∀ i (h : i < L.length), n ≤ i → bef L[i] t k = false
/-- A list of the rows of a state. -/
structure Sim (M : List (IdK × RowV)) (L : List RowV) : Prop where
  perm : L.Perm (M.map (·.2))
  srt : Srt L
theorem Sim.len {M : List (IdK × RowV)} {L : List RowV} (h : Sim M L) : L.length = M.length := by simpa using h.perm.length_eq
theorem Sim.nil : Sim [] [] := ⟨List.Perm.refl _, List.Pairwise.nil⟩
def KeyOk (M : List (IdK × RowV)) : Prop := ∀ e ∈ M, e.1.1 = (e.2.t, e.2.k)
theorem Srt.get {L : List RowV} (h : Srt L) {i j : Nat} (hi : i < L.length) (hj : j < L.length) (hij : i < j) : L[i].t < L[j].t ∨ (L[i].t = L[j].t ∧ L[i].k < L[j].k) := List.pairwise_iff_getElem.1 h i j hi hj hij
theorem Srt.inj {L : List RowV} (h : Srt L) {a b : RowV} (ha : a ∈ L) (hb : b ∈ L) (h1 : a.t = b.t) (h2 : a.k = b.k) : a = b := by
  obtain ⟨i, hi, rfl⟩ := List.getElem_of_mem ha
  obtain ⟨j, hj, rfl⟩ := List.getElem_of_mem hb
  rcases Nat.lt_trichotomy i j with hij | rfl | hij
  · have := h.get hi hj hij; omega
  · rfl
  · have := h.get hj hi hij; omega
theorem mem_of_mget {M : List (IdK × RowV)} (hn : Nd M) (hk : KeyOk M) {t k : Int} (ht : okI t) (hkk : okI k) {r : RowV} : mget M (idOf t k) = some r ↔ r ∈ M.map (·.2) ∧ r.t = t ∧ r.k = k := by
  rw [mget_iff hn]
  constructor
  · intro h
    have h1 := hk _ h
    dsimp only at h1
    rw [idOf_val ht hkk] at h1
    injection h1 with h2 h3
    exact ⟨List.mem_map.2 ⟨_, h, rfl⟩, h2.symm, h3.symm⟩
  · rintro ⟨h1, h2, h3⟩
    obtain ⟨⟨i, r'⟩, h4, rfl⟩ := List.mem_map.1 h1
    have h5 := hk _ h4
    dsimp only at h5 h2 h3 ⊢
    have : i = idOf t k := Subtype.ext (by rw [h5, idOf_val ht hkk, h2, h3])
    rw [← this]
    exact h4
section
variable {M : List (IdK × RowV)} {L : List RowV} {t k : Int} {n : Nat}
/-- Whether the row at the place is the one that is looked for. -/
theorem Plc.hit (hs : Sim M L) (hn : Nd M) (hk : KeyOk M) (ht : okI t) (hkk : okI k) (_hp : Plc L t k n) (h : n < L.length) (e1 : L[n].t = t) (e2 : L[n].k = k) : mget M (idOf t k) = some L[n] :=
  (mem_of_mget hn hk ht hkk).2 ⟨hs.perm.mem_iff.1 (List.getElem_mem h), e1, e2⟩
theorem Plc.miss (hs : Sim M L) (hn : Nd M) (hk : KeyOk M) (ht : okI t) (hkk : okI k) (hp : Plc L t k n) (h : ∀ h : n < L.length, ¬ (L[n].t = t ∧ L[n].k = k)) : mget M (idOf t k) = none := by
  cases hg : mget M (idOf t k) with
  | none => rfl
  | some r =>
    exfalso
    obtain ⟨h1, h2, h3⟩ := (mem_of_mget hn hk ht hkk).1 hg
    obtain ⟨i, hi, rfl⟩ := List.getElem_of_mem (hs.perm.mem_iff.2 h1)
    rcases Nat.lt_or_ge i n with hin | hin
    · have := hp.lo i hi hin
      unfold bef at this
      simp only [decide_eq_true_eq] at this
      omega
    · have hnl : n < L.length := by omega
      have h4 := hp.hi n hnl (Nat.le_refl _)
      unfold bef at h4
      simp only [decide_eq_false_iff_not] at h4
      rcases Nat.lt_or_ge n i with h5 | h5
      · have := hs.srt.get hnl hi h5
        omega
      · have : i = n := by omega
        subst this
        exact h hnl ⟨h2, h3⟩
/-- Where there is a row of this table and key, it is at the place. -/
theorem Plc.at_ (hs : Sim M L) (hn : Nd M) (hk : KeyOk M) (ht : okI t) (hkk : okI k) (hp : Plc L t k n) {r : RowV} (hg : mget M (idOf t k) = some r) : ∃ h : n < L.length, L[n] = r := by
  by_cases h : ∀ h : n < L.length, ¬ (L[n].t = t ∧ L[n].k = k)
  · rw [Plc.miss hs hn hk ht hkk hp h] at hg
    cases hg
  · simp only [Classical.not_forall, Classical.not_not] at h
    obtain ⟨h1, h2, h3⟩ := h
    refine ⟨h1, ?_⟩
    have := Plc.hit hs hn hk ht hkk hp h1 h2 h3
    rw [hg] at this
    exact (Option.some.inj this).symm
theorem srt_mid {A B : List RowV} {x : RowV} (h : Srt (A ++ B)) (h1 : ∀ a ∈ A, bef a x.t x.k = true) (h2 : ∀ b ∈ B, x.t < b.t ∨ (x.t = b.t ∧ x.k < b.k)) : Srt (A ++ x :: B) := by
  unfold Srt at h ⊢
  rw [List.pairwise_append] at h ⊢
  obtain ⟨ha, hb, hab⟩ := h
  refine ⟨ha, List.pairwise_cons.2 ⟨h2, hb⟩, fun a haA b hb => ?_⟩
  rcases List.mem_cons.1 hb with rfl | hb
  · have := h1 a haA
    unfold bef at this
    simpa using this
  · exact hab a haA b hb
/-- What the reference does to the list for a change. -/
theorem Sim.put1 (hs : Sim M L) (hn : Nd M) (hk : KeyOk M) {c : Chg} (ht : okI c.t) (hkk : okI c.k) (hp : Plc L c.t c.k n) (hm : meets M c = true) :
    n + (if c.had = true then 1 else 0) ≤ L.length ∧ Sim (put1 M c) (L.take n ++ ((if c.has = true then [after c] else []) ++ L.drop (n + if c.had = true then 1 else 0))) := by
  have hlt : ∀ a ∈ L.take n, bef a c.t c.k = true := by
    intro a ha
    obtain ⟨i, hi, rfl⟩ := List.getElem_of_mem ha
    rw [List.length_take] at hi
    rw [List.getElem_take]
    exact hp.lo i (by omega) (by omega)
  have hpl := hp.le
  -- the rest of the list, and what is deleted
  obtain ⟨hle, hrest, hdel⟩ : n + (if c.had = true then 1 else 0) ≤ L.length ∧ (∀ b ∈ L.drop (n + if c.had = true then 1 else 0), c.t < b.t ∨ (c.t = b.t ∧ c.k < b.k)) ∧
      (L.take n ++ L.drop (n + if c.had = true then 1 else 0)).Perm ((mdel M (idOf c.t c.k)).map (·.2)) := by
    unfold meets at hm
    cases hg : mget M (idOf c.t c.k) with
    | none =>
      rw [hg] at hm
      have hh : c.had = false := by simpa using hm
      rw [hh]
      simp only [Bool.false_eq_true, if_false, Nat.add_zero]
      refine ⟨hpl, fun b hb => ?_, ?_⟩
      · obtain ⟨i, hi, rfl⟩ := List.getElem_of_mem hb
        rw [List.length_drop] at hi
        rw [List.getElem_drop]
        have h1 := hp.hi (n + i) (by omega) (by omega)
        unfold bef at h1
        simp only [decide_eq_false_iff_not] at h1
        have h2 : ¬ (L[n + i].t = c.t ∧ L[n + i].k = c.k) := fun h2 => by
          have := (mem_of_mget hn hk ht hkk (r := L[n + i])).2 ⟨hs.perm.mem_iff.1 (List.getElem_mem _), h2.1, h2.2⟩
          rw [hg] at this
          cases this
        omega
      · rw [List.take_append_drop, mdel_none hg]
        exact hs.perm
    | some r =>
      rw [hg] at hm
      have hh : c.had = true := by
        simp only [Bool.and_eq_true] at hm
        exact hm.1
      rw [hh]
      simp only [if_true]
      obtain ⟨hnl, her⟩ := Plc.at_ hs hn hk ht hkk hp hg
      obtain ⟨hin, e1, e2⟩ := (mem_of_mget hn hk ht hkk).1 hg
      refine ⟨hnl, fun b hb => ?_, ?_⟩
      · obtain ⟨i, hi, rfl⟩ := List.getElem_of_mem hb
        rw [List.length_drop] at hi
        rw [List.getElem_drop]
        have := hs.srt.get hnl (j := n + 1 + i) (by omega) (by omega)
        rw [her] at this
        omega
      · have h1 : L = L.take n ++ (r :: L.drop (n + 1)) := by
          rw [← her, ← List.drop_eq_getElem_cons hnl, List.take_append_drop]
        have h2 : ((r :: (L.take n ++ L.drop (n + 1)))).Perm (M.map (·.2)) := by
          refine List.Perm.trans ?_ hs.perm
          conv => rhs; rw [h1]
          exact List.perm_middle.symm
        have h3 : M.Perm ((idOf c.t c.k, r) :: mdel M (idOf c.t c.k)) := by
          have hmem := (mget_iff hn).1 hg
          clear hm hs hp hlt hnl her h1 h2 hk hpl hin
          induction M with
          | nil => simp at hmem
          | cons a M ih =>
            obtain ⟨n1, n2⟩ := List.pairwise_cons.1 hn
            by_cases ha : a.1 = idOf c.t c.k
            · have e3 : mget (a :: M) (idOf c.t c.k) = some a.2 := by simp [mget, ha]
              rw [e3] at hg
              have e4 : mget M (idOf c.t c.k) = none := mget_none.2 fun q hq e => n1 q hq (ha.trans e.symm)
              have e5 : mdel (a :: M) (idOf c.t c.k) = mdel M (idOf c.t c.k) := List.filter_cons_of_neg (by simp [ha])
              rw [e5, mdel_none e4, ← ha, ← Option.some.inj hg]
            · have e3 : mget (a :: M) (idOf c.t c.k) = mget M (idOf c.t c.k) := by simp [mget, ha]
              have e5 : mdel (a :: M) (idOf c.t c.k) = a :: mdel M (idOf c.t c.k) := List.filter_cons_of_pos (by simp [ha])
              rw [e3] at hg
              rw [e5]
              exact ((ih n2 hg ((mget_iff n2).1 hg)).cons a).trans (List.Perm.swap _ _ _)
        have h4 := h2.trans (h3.map (·.2))
        exact h4.cons_inv
  refine ⟨hle, ?_⟩
  have hsub : Srt (L.take n ++ L.drop (n + if c.had = true then 1 else 0)) := by
    refine List.Pairwise.sublist ?_ hs.srt
    conv => rhs; rw [← List.take_append_drop n L]
    refine List.Sublist.append (List.Sublist.refl _) ?_
    rw [← List.drop_drop]
    exact List.drop_sublist _ _
  cases hha : c.has
  · simp only [Bool.false_eq_true, if_false, List.nil_append]
    exact ⟨by unfold Sm.put1; rw [hha]; simpa using hdel, hsub⟩
  · simp only [if_true, List.singleton_append]
    refine ⟨?_, srt_mid hsub hlt hrest⟩
    unfold Sm.put1
    rw [if_pos hha]
    unfold mput
    rw [List.map_cons]
    exact List.perm_middle.trans (hdel.cons _)
theorem put1_keyOk (hk : KeyOk M) {c : Chg} (hc : Rw.chg c = true) : KeyOk (Sm.put1 M c) := put1_key hk hc
end
end Sm
end Go.Proofs.YthiaaminkfkjpaaGreat

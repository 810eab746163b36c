/-
  PLAIN LAWS of the reference of a state: its rows as an ascending list.
-/
import Derived.Test.YthiaaminkfkjpaaEah
namespace Go.Proofs.Ythiaaminkfkjpaa

@[reducible] def RowV.cells (r : RowV) : List Value := [.int .i64 r.t, .int .i64 r.k, .int .i64 r.x, .int .i64 r.y, .int .i64 r.z]
theorem RowV.cells_len (r : RowV) : r.cells.length = 5 := rfl
theorem RowV.cells_one (r : RowV) : ∀ u ∈ r.cells, u.oneCell' = true := by
  intro u hu
  simp only [List.mem_cons, List.not_mem_nil, or_false] at hu
  rcases hu with rfl | rfl | rfl | rfl | rfl <;> rfl

namespace Sm
/-- Ahead of a table and a key. -/
def bef (r : RowV) (t k : Int) : Bool := decide (r.t < t ∨ (r.t = t ∧ r.k < k))
def Srt (L : List RowV) : Prop := L.Pairwise fun a b => a.t < b.t ∨ (a.t = b.t ∧ a.k < b.k)
/-- n is where a table and a key have their place. -/
structure Plc (L : List RowV) (t k : Int) (n : Nat) : Prop where
  le : n ≤ L.length
  lo : ∀ i (h : i < L.length), i < n → bef L[i] t k = true
  hi : ∀ i (h : i < L.length), n ≤ i → bef L[i] t k = false
/-- A list of the rows of a state. -/
structure Sim (M : List (IdK × RowV)) (L : List RowV) : Prop where
  perm : L.Perm (M.map (·.2))
  srt : Srt L
theorem Sim.len {M : List (IdK × RowV)} {L : List RowV} (h : Sim M L) : L.length = M.length := by simpa using h.perm.length_eq
theorem Sim.nil : Sim [] [] := ⟨List.Perm.refl _, List.Pairwise.nil⟩
def KeyOk (M : List (IdK × RowV)) : Prop := ∀ e ∈ M, e.1.1 = (e.2.t, e.2.k)
theorem Srt.get {L : List RowV} (h : Srt L) {i j : Nat} (hi : i < L.length) (hj : j < L.length) (hij : i < j) : L[i].t < L[j].t ∨ (L[i].t = L[j].t ∧ L[i].k < L[j].k) := List.pairwise_iff_getElem.1 h i j hi hj hij
theorem Srt.inj {L : List RowV} (h : Srt L) {a b : RowV} (ha : a ∈ L) (hb : b ∈ L) (h1 : a.t = b.t) (h2 : a.k = b.k) : a = b := by
  obtain ⟨i, hi, rfl⟩ := List.getElem_of_mem ha
  obtain ⟨j, hj, rfl⟩ := List.getElem_of_mem hb
  rcases Nat.lt_trichotomy i j with hij | rfl | hij
  · have := h.get hi hj hij; omega
  · rfl
  · have := h.get hj hi hij; omega
theorem mem_of_mget {M : List (IdK × RowV)} (hn : Nd M) (hk : KeyOk M) {t k : Int} (ht : okI t) (hkk : okI k) {r : RowV} : mget M (idOf t k) = some r ↔ r ∈ M.map (·.2) ∧ r.t = t ∧ r.k = k := by
  rw [mget_iff hn]
  constructor
  · intro h
    have h1 := hk _ h
    dsimp only at h1
    rw [idOf_val ht hkk] at h1
    injection h1 with h2 h3
    exact ⟨List.mem_map.2 ⟨_, h, rfl⟩, h2.symm, h3.symm⟩
  · rintro ⟨h1, h2, h3⟩
    obtain ⟨⟨i, r'⟩, h4, rfl⟩ := List.mem_map.1 h1
    have h5 := hk _ h4
    dsimp only at h5 h2 h3 ⊢
    have : i = idOf t k := Subtype.ext (by rw [h5, idOf_val ht hkk, h2, h3])
    rw [← this]
    exact h4
section
variable {M : List (IdK × RowV)} {L : List RowV} {t k : Int} {n : Nat}
/-- Whether the row at the place is the one that is looked for. -/
theorem Plc.hit (hs : Sim M L) (hn : Nd M) (hk : KeyOk M) (ht : okI t) (hkk : okI k) (_hp : Plc L t k n) (h : n < L.length) (e1 : L[n].t = t) (e2 : L[n].k = k) : mget M (idOf t k) = some L[n] :=
  (mem_of_mget hn hk ht hkk).2 ⟨hs.perm.mem_iff.1 (List.getElem_mem h), e1, e2⟩
theorem Plc.miss (hs : Sim M L) (hn : Nd M) (hk : KeyOk M) (ht : okI t) (hkk : okI k) (hp : Plc L t k n) (h : ∀ h : n < L.length, ¬ (L[n].t = t ∧ L[n].k = k)) : mget M (idOf t k) = none := by
  cases hg : mget M (idOf t k) with
  | none => rfl
  | some r =>
    exfalso
    obtain ⟨h1, h2, h3⟩ := (mem_of_mget hn hk ht hkk).1 hg
    obtain ⟨i, hi, rfl⟩ := List.getElem_of_mem (hs.perm.mem_iff.2 h1)
    rcases Nat.lt_or_ge i n with hin | hin
    · have := hp.lo i hi hin
      unfold bef at this
      simp only [decide_eq_true_eq] at this
      omega
    · have hnl : n < L.length := by omega
      have h4 := hp.hi n hnl (Nat.le_refl _)
      unfold bef at h4
      simp only [decide_eq_false_iff_not] at h4
      rcases Nat.lt_or_ge n i with h5 | h5
      · have := hs.srt.get hnl hi h5
        omega
      · have : i = n := by omega
        subst this
        exact h hnl ⟨h2, h3⟩
/-- Where there is a row of this table and key, it is at the place. -/
theorem Plc.at_ (hs : Sim M L) (hn : Nd M) (hk : KeyOk M) (ht : okI t) (hkk : okI k) (hp : Plc L t k n) {r : RowV} (hg : mget M (idOf t k) = some r) : ∃ h : n < L.length, L[n] = r := by
  by_cases h : ∀ h : n < L.length, ¬ (L[n].t = t ∧ L[n].k = k)
  · rw [Plc.miss hs hn hk ht hkk hp h] at hg
    cases hg
  · simp only [Classical.not_forall, Classical.not_not] at h
    obtain ⟨h1, h2, h3⟩ := h
    refine ⟨h1, ?_⟩
    have := Plc.hit hs hn hk ht hkk hp h1 h2 h3
    rw [hg] at this
    exact (Option.some.inj this).symm
theorem srt_mid {A B : List RowV} {x : RowV} (h : Srt (A ++ B)) (h1 : ∀ a ∈ A, bef a x.t x.k = true) (h2 : ∀ b ∈ B, x.t < b.t ∨ (x.t = b.t ∧ x.k < b.k)) : Srt (A ++ x :: B) := by
  unfold Srt at h ⊢
  rw [List.pairwise_append] at h ⊢
  obtain ⟨ha, hb, hab⟩ := h
  refine ⟨ha, List.pairwise_cons.2 ⟨h2, hb⟩, fun a haA b hb => ?_⟩
  rcases List.mem_cons.1 hb with rfl | hb
  · have := h1 a haA
    unfold bef at this
    simpa using this
  · exact hab a haA b hb
/-- What the reference does to the list for a change. -/
theorem Sim.put1 (hs : Sim M L) (hn : Nd M) (hk : KeyOk M) {c : Chg} (ht : okI c.t) (hkk : okI c.k) (hp : Plc L c.t c.k n) (hm : meets M c = true) :
    n + (if c.had = true then 1 else 0) ≤ L.length ∧ Sim (put1 M c) (L.take n ++ ((if c.has = true then [after c] else []) ++ L.drop (n + if c.had = true then 1 else 0))) := by
  have hlt : ∀ a ∈ L.take n, bef a c.t c.k = true := by
    intro a ha
    obtain ⟨i, hi, rfl⟩ := List.getElem_of_mem ha
    rw [List.length_take] at hi
    rw [List.getElem_take]
    exact hp.lo i (by omega) (by omega)
  have hpl := hp.le
  -- the rest of the list, and what is deleted
  obtain ⟨hle, hrest, hdel⟩ : n + (if c.had = true then 1 else 0) ≤ L.length ∧ (∀ b ∈ L.drop (n + if c.had = true then 1 else 0), c.t < b.t ∨ (c.t = b.t ∧ c.k < b.k)) ∧
      (L.take n ++ L.drop (n + if c.had = true then 1 else 0)).Perm ((mdel M (idOf c.t c.k)).map (·.2)) := by
    unfold meets at hm
    cases hg : mget M (idOf c.t c.k) with
    | none =>
      rw [hg] at hm
      have hh : c.had = false := by simpa using hm
      rw [hh]
      simp only [Bool.false_eq_true, if_false, Nat.add_zero]
      refine ⟨hpl, fun b hb => ?_, ?_⟩
      · obtain ⟨i, hi, rfl⟩ := List.getElem_of_mem hb
        rw [List.length_drop] at hi
        rw [List.getElem_drop]
        have h1 := hp.hi (n + i) (by omega) (by omega)
        unfold bef at h1
        simp only [decide_eq_false_iff_not] at h1
        have h2 : ¬ (L[n + i].t = c.t ∧ L[n + i].k = c.k) := fun h2 => by
          have := (mem_of_mget hn hk ht hkk (r := L[n + i])).2 ⟨hs.perm.mem_iff.1 (List.getElem_mem _), h2.1, h2.2⟩
          rw [hg] at this
          cases this
        omega
      · rw [List.take_append_drop, mdel_none hg]
        exact hs.perm
    | some r =>
      rw [hg] at hm
      have hh : c.had = true := by
        simp only [Bool.and_eq_true] at hm
        exact hm.1
      rw [hh]
      simp only [if_true]
      obtain ⟨hnl, her⟩ := Plc.at_ hs hn hk ht hkk hp hg
      obtain ⟨hin, e1, e2⟩ := (mem_of_mget hn hk ht hkk).1 hg
      refine ⟨hnl, fun b hb => ?_, ?_⟩
      · obtain ⟨i, hi, rfl⟩ := List.getElem_of_mem hb
        rw [List.length_drop] at hi
        rw [List.getElem_drop]
        have := hs.srt.get hnl (j := n + 1 + i) (by omega) (by omega)
        rw [her] at this
        omega
      · have h1 : L = L.take n ++ (r :: L.drop (n + 1)) := by
          rw [← her, ← List.drop_eq_getElem_cons hnl, List.take_append_drop]
        have h2 : ((r :: (L.take n ++ L.drop (n + 1)))).Perm (M.map (·.2)) := by
          refine List.Perm.trans ?_ hs.perm
          conv => rhs; rw [h1]
          exact List.perm_middle.symm
        have h3 : M.Perm ((idOf c.t c.k, r) :: mdel M (idOf c.t c.k)) := by
          have hmem := (mget_iff hn).1 hg
          clear hm hs hp hlt hnl her h1 h2 hk hpl hin
          induction M with
          | nil => simp at hmem
          | cons a M ih =>
            obtain ⟨n1, n2⟩ := List.pairwise_cons.1 hn
            by_cases ha : a.1 = idOf c.t c.k
            · have e3 : mget (a :: M) (idOf c.t c.k) = some a.2 := by simp [mget, ha]
              rw [e3] at hg
              have e4 : mget M (idOf c.t c.k) = none := mget_none.2 fun q hq e => n1 q hq (ha.trans e.symm)
              have e5 : mdel (a :: M) (idOf c.t c.k) = mdel M (idOf c.t c.k) := List.filter_cons_of_neg (by simp [ha])
              rw [e5, mdel_none e4, ← ha, ← Option.some.inj hg]
            · have e3 : mget (a :: M) (idOf c.t c.k) = mget M (idOf c.t c.k) := by simp [mget, ha]
              have e5 : mdel (a :: M) (idOf c.t c.k) = a :: mdel M (idOf c.t c.k) := List.filter_cons_of_pos (by simp [ha])
              rw [e3] at hg
              rw [e5]
              exact ((ih n2 hg ((mget_iff n2).1 hg)).cons a).trans (List.Perm.swap _ _ _)
        have h4 := h2.trans (h3.map (·.2))
        exact h4.cons_inv
  refine ⟨hle, ?_⟩
  have hsub : Srt (L.take n ++ L.drop (n + if c.had = true then 1 else 0)) := by
    refine List.Pairwise.sublist ?_ hs.srt
    conv => rhs; rw [← List.take_append_drop n L]
    refine List.Sublist.append (List.Sublist.refl _) ?_
    rw [← List.drop_drop]
    exact List.drop_sublist _ _
  cases hha : c.has
  · simp only [Bool.false_eq_true, if_false, List.nil_append]
    exact ⟨by unfold Sm.put1; rw [hha]; simpa using hdel, hsub⟩
  · simp only [if_true, List.singleton_append]
    refine ⟨?_, srt_mid hsub hlt hrest⟩
    unfold Sm.put1
    rw [if_pos hha]
    unfold mput
    rw [List.map_cons]
    exact List.perm_middle.trans (hdel.cons _)
theorem put1_keyOk (hk : KeyOk M) {c : Chg} (hc : Rw.chg c = true) : KeyOk (Sm.put1 M c) := put1_key hk hc
end
end Sm
end Go.Proofs.Ythiaaminkfkjpaa

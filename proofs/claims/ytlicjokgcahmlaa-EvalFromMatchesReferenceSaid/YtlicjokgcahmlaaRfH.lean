/-
  PLAIN LAWS of rows that are picked: there is one list of them; a row inserted in its place.
-/
import Derived.Test.YtlicjokgcahmlaaRfP
import Derived.Test.YtlicjokgcahmlaaStI
namespace Go.Proofs.Ytlicjokgcahmlaa

theorem ahead2_total {c : Int} {a b : RowV} (h1 : ¬ ahead2 c a b) (h2 : ¬ ahead2 c b a) : a.value c = b.value c ∧ a.k = b.k := by
  unfold ahead2 at h1 h2
  omega
theorem ahead2_irrefl {c : Int} {a : RowV} : ¬ ahead2 c a a := by
  unfold ahead2
  omega
theorem ahead2_asymm {c : Int} {a b : RowV} (h : ahead2 c a b) : ¬ ahead2 c b a := by
  unfold ahead2 at *
  omega
/-- Rows of one table are told apart by their keys. -/
def KeyApart (R : List RowV) : Prop := ∀ a ∈ R, ∀ b ∈ R, a.k = b.k → a = b
theorem picked_uniq : ∀ {R R' : List RowV} {c : Int}, R.Perm R' → KeyApart R → R.Pairwise (fun x y => ¬ ahead2 c y x) → R'.Pairwise (fun x y => ¬ ahead2 c y x) → R = R'
  | [], R', _, hp, _, _, _ => by rw [hp.nil_eq]
  | a :: R, [], _, hp, _, _, _ => by have := hp.length_eq; simp at this
  | a :: R, b :: R', c, hp, hk, h1, h2 => by
    obtain ⟨h3, h4⟩ := List.pairwise_cons.1 h1
    obtain ⟨h5, h6⟩ := List.pairwise_cons.1 h2
    have hb : b ∈ a :: R := hp.mem_iff.2 (by simp)
    have ha : a ∈ b :: R' := hp.mem_iff.1 (by simp)
    have e : a = b := by
      rcases List.mem_cons.1 ha with e | ha
      · exact e
      · rcases List.mem_cons.1 hb with e | hb
        · exact e.symm
        · exact hk a (by simp) b (by simp [hb]) (ahead2_total (h5 a ha) (h3 b hb)).2
    subst e
    rw [picked_uniq hp.cons_inv (fun x hx y hy => hk x (by simp [hx]) y (by simp [hy])) h4 h6]
theorem keyApart_filter {s : Sm.Sta} (h : Sm.Ok s) (t : Int) {p : RowV → Bool} (hp : ∀ r, p r = true → r.t = t) : KeyApart ((s.M.map (·.2)).filter p) := by
  intro a ha b hb hk
  obtain ⟨ha1, ha2⟩ := List.mem_filter.1 ha
  obtain ⟨hb1, hb2⟩ := List.mem_filter.1 hb
  obtain ⟨⟨i, a'⟩, hia, rfl⟩ := List.mem_map.1 ha1
  obtain ⟨⟨j, b'⟩, hjb, rfl⟩ := List.mem_map.1 hb1
  dsimp only at hk ha2 hb2 ⊢
  have e1 := h.key _ hia
  have e2 := h.key _ hjb
  dsimp only at e1 e2
  have hij : i = j := Subtype.ext (by rw [e1, e2, hp _ ha2, hp _ hb2, hk])
  subst hij
  have h1 := (mget_iff h.nd).2 hia
  have h2 := (mget_iff h.nd).2 hjb
  rw [h1] at h2
  exact Option.some.inj h2
theorem Picked.uniq {s : Sm.Sta} {c t : Int} {p : RowV → Bool} {R R' : List RowV} (h : Picked s c p R) (h' : Picked s c p R') (ho : Sm.Ok s) (hp : ∀ r, p r = true → r.t = t) : R = R' :=
  picked_uniq (h.perm.trans h'.perm.symm) (fun a ha b hb => keyApart_filter ho t hp a (h.perm.mem_iff.1 ha) b (h.perm.mem_iff.1 hb)) h.srt h'.srt
theorem inTab_t {t : Int} (r : RowV) (h : inTab t r = true) : r.t = t := by simpa [inTab] using h
theorem inRng_t {t c lo hi : Int} (r : RowV) (h : inRng t c lo hi r = true) : r.t = t := by
  simp only [inRng, Bool.and_eq_true, decide_eq_true_eq] at h
  exact h.1
theorem value_zero (r : RowV) : r.value 0 = r.k := rfl
/-- The rows of a table in the reference's list are the rows that are picked. -/
theorem picked_filter {s : Sm.Sta} {L : List RowV} (h : Sm.Sim s.M L) (t : Int) : Picked s 0 (inTab t) (L.filter (inTab t)) := by
  refine ⟨h.perm.filter _, ?_⟩
  refine List.Pairwise.imp_of_mem (fun {a b} ha hb hab => ?_) (List.Pairwise.filter _ h.srt)
  have e1 := inTab_t a (List.mem_filter.1 ha).2
  have e2 := inTab_t b (List.mem_filter.1 hb).2
  unfold ahead2
  rw [value_zero, value_zero]
  omega
/-- A row is inserted behind those whose values are not greater. -/
theorem insert_srt {c : Int} {R : List RowV} {x : RowV} {k : Nat} (h : R.Pairwise (ahead2 c)) (hlo : ∀ i (hi : i < R.length), i < k → R[i].value c ≤ x.value c) (hhi : ∀ i (hi : i < R.length), k ≤ i → x.value c < R[i].value c) (hk : ∀ a ∈ R, a.k < x.k) :
    (R.take k ++ x :: R.drop k).Pairwise (ahead2 c) := by
  have h' := h
  rw [← List.take_append_drop k R, List.pairwise_append] at h'
  obtain ⟨h1, h2, h3⟩ := h'
  rw [List.pairwise_append]
  refine ⟨h1, List.pairwise_cons.2 ⟨fun b hb => ?_, h2⟩, fun a ha b hb => ?_⟩
  · obtain ⟨i, hi, rfl⟩ := List.getElem_of_mem hb
    rw [List.length_drop] at hi
    rw [List.getElem_drop]
    exact .inl (hhi (k + i) (by omega) (by omega))
  · rcases List.mem_cons.1 hb with rfl | hb
    · obtain ⟨i, hi, rfl⟩ := List.getElem_of_mem ha
      rw [List.length_take] at hi
      rw [List.getElem_take]
      have e1 := hlo i (by omega) (by omega)
      have e2 := hk _ (List.getElem_mem (show i < R.length by omega))
      unfold ahead2
      omega
    · exact h3 a ha b hb
theorem insert_perm {R : List RowV} {x : RowV} (k : Nat) : (R.take k ++ x :: R.drop k).Perm (R ++ [x]) := by
  refine List.perm_middle.trans ?_
  rw [List.take_append_drop]
  exact (List.perm_append_singleton x R).symm
end Go.Proofs.Ytlicjokgcahmlaa

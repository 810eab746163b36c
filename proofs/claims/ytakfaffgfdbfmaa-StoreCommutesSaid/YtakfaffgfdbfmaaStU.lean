/-
  THE PLAIN LAW OF UNDO: a record with old and new exchanged takes a state back.
-/
import Derived.Test.YtakfaffgfdbfmaaStP
namespace Go.Proofs.Ytakfaffgfdbfmaa
namespace Sm

theorem perm_of_mget {M M' : List (IdK × RowV)} (h : Nd M) (h' : Nd M') (he : ∀ i, mget M i = mget M' i) : M.Perm M' := by
  have nd : ∀ {L : List (IdK × RowV)}, Nd L → L.Nodup := fun hL => List.Pairwise.imp (fun hne e => hne (by rw [e])) hL
  refine (List.perm_ext_iff_of_nodup (nd h) (nd h')).2 fun e => ?_
  obtain ⟨i, r⟩ := e
  rw [← mget_iff h, ← mget_iff h', he]
theorem fitsGo_iff : ∀ (cs : List Chg) (M : List (IdK × RowV)) (n : Int), fitsGo M n cs = true ↔ (∀ c ∈ cs, meets M c = true) ∧ cs.foldl grow n ≤ 2000
  | [], M, n => by simp [fitsGo]
  | c :: cs, M, n => by
    simp only [fitsGo, Bool.and_eq_true, fitsGo_iff cs M, List.mem_cons, forall_eq_or_imp, List.foldl_cons]
    constructor
    · rintro ⟨a, b, d⟩
      exact ⟨⟨a, b⟩, d⟩
    · rintro ⟨⟨a, b⟩, d⟩
      exact ⟨a, b, d⟩
theorem fold_at : ∀ (cs : List Chg) (M : List (IdK × RowV)), cs.Pairwise (fun c d => idOf c.t c.k ≠ idOf d.t d.k) → ∀ c ∈ cs, mget (cs.foldl put1 M) (idOf c.t c.k) = if c.has = true then some (after c) else none
  | [], _, _, _, h => by simp at h
  | d :: cs, M, hp, c, hc => by
    obtain ⟨h1, h2⟩ := List.pairwise_cons.1 hp
    rw [List.foldl_cons]
    rcases List.mem_cons.1 hc with rfl | hc
    · rw [fold_other cs _ _ fun d hd => h1 d hd]
      unfold put1
      split
      · exact mget_put_same
      · exact mget_del_same
    · exact fold_at cs _ h2 c hc
theorem fold_grow : ∀ (cs : List Chg) (M : List (IdK × RowV)), Nd M → cs.Pairwise (fun c d => idOf c.t c.k ≠ idOf d.t d.k) → (∀ c ∈ cs, meets M c = true) → ((cs.foldl put1 M).length : Int) = cs.foldl grow M.length
  | [], _, _, _, _ => rfl
  | c :: cs, M, h, hp, hm => by
    obtain ⟨h1, h2⟩ := List.pairwise_cons.1 hp
    rw [List.foldl_cons, List.foldl_cons, ← put1_len h (hm c (by simp))]
    refine fold_grow cs (put1 M c) (put1_nd h c) h2 fun d hd => ?_
    rw [meets_congr (put1_other (h1 d hd).symm)]
    exact hm d (by simp [hd])

/-- A change with old and new exchanged. -/
def swapC (c : Chg) : Chg := ⟨c.t, c.k, c.has, c.n0, c.n1, c.n2, c.had, c.o0, c.o1, c.o2⟩
def undoR (p : Int) (r : Rec) : Rec := ⟨p, r.cs.map swapC⟩
theorem grow_swap (cs : List Chg) : ∀ n : Int, (cs.map swapC).foldl grow (cs.foldl grow n) = n := by
  have add : ∀ (cs : List Chg) (n m : Int), cs.foldl grow (n + m) = cs.foldl grow n + m := by
    intro cs
    induction cs with
    | nil => intro n m; rfl
    | cons c cs ih =>
      intro n m
      rw [List.foldl_cons, List.foldl_cons, ← ih]
      congr 1
      unfold grow
      split <;> split <;> omega
  induction cs with
  | nil => intro n; rfl
  | cons c cs ih =>
    intro n
    rw [List.map_cons, List.foldl_cons, List.foldl_cons]
    have e1 : grow n c = n + (grow 0 c) := by unfold grow; split <;> split <;> omega
    have e2 : ∀ m, grow m (swapC c) = m + (-(grow 0 c)) := by intro m; unfold grow swapC; dsimp only; split <;> split <;> omega
    rw [e1, add, e2, Int.add_assoc, Int.add_right_neg, Int.add_zero]
    exact ih n
theorem chg_swap (c : Chg) : Rw.chg (swapC c) = Rw.chg c := by
  have e1 : Rw.differs (swapC c) = Rw.differs c := by
    unfold Rw.differs swapC
    exact decide_eq_decide.2 ⟨fun h => h.imp Ne.symm (Or.imp Ne.symm Ne.symm), fun h => h.imp Ne.symm (Or.imp Ne.symm Ne.symm)⟩
  have e2 : Rw.turns (swapC c) = Rw.turns c := by
    unfold Rw.turns
    rw [e1]
    unfold swapC
    dsimp only
    cases c.had <;> cases c.has <;> simp
  unfold Rw.chg
  rw [e2]
  unfold swapC
  dsimp only
  rw [Bool.and_assoc, Bool.and_comm (Rw.sound _ _ c.has _ _ _), ← Bool.and_assoc]
theorem chgs_swap : ∀ (cs : List Chg) (a b : Int), Rw.chgs a b (cs.map swapC) = Rw.chgs a b cs
  | [], _, _ => rfl
  | c :: cs, a, b => by
    rw [List.map_cons]
    unfold Rw.chgs
    rw [chg_swap, chgs_swap cs]
    rfl
theorem valid_undo {p : Int} {r : Rec} (h : Rw.valid r = true) (h1 : 1 ≤ p) (h2 : p ≤ 10000) : Rw.valid (undoR p r) = true := by
  simp only [Rw.valid, Bool.and_eq_true] at h ⊢
  refine ⟨⟨by unfold undoR Rw.inI; exact decide_eq_true ⟨h1, h2⟩, by simpa [undoR] using h.1.2⟩, ?_⟩
  unfold undoR
  rw [chgs_swap]
  exact h.2

/-- THE PLAIN LAW: behind a record that was applied, the exchanged one fits, and leaves the rows that were. -/
theorem undo {s s1 : Sta} {r : Rec} (h : Ok s) (h1 : Ok s1) (hf : fits s r = true) (hp : s1.M.Perm (apply s r).M) (hpos : s1.pos < 10000) :
    fits s1 (undoR (s1.pos + 1) r) = true ∧ (apply s1 (undoR (s1.pos + 1) r)).M.Perm s.M := by
  have hf0 := hf
  simp only [fits, Bool.and_eq_true, decide_eq_true_eq] at hf
  obtain ⟨⟨hv, _⟩, hg⟩ := hf
  obtain ⟨hm, hn⟩ := (fitsGo_iff _ _ _).1 hg
  obtain ⟨hch, hpw⟩ := Rw.valid_all hv
  have eM : (apply s r).M = r.cs.foldl put1 s.M := by unfold apply; rw [if_pos hf0]
  rw [eM] at hp
  have hv' := valid_undo (p := s1.pos + 1) hv (by have := h1.p0; omega) (by omega)
  obtain ⟨hch', hpw'⟩ := Rw.valid_all hv'
  have hget : ∀ i, mget s1.M i = mget (r.cs.foldl put1 s.M) i := fun i => mget_perm h1.nd hp
  have hm' : ∀ c ∈ (undoR (s1.pos + 1) r).cs, meets s1.M c = true := by
    intro c hc
    obtain ⟨d, hd, rfl⟩ := List.mem_map.1 hc
    unfold meets
    have e := (hget (idOf d.t d.k)).trans (fold_at r.cs s.M hpw d hd)
    rw [show idOf (swapC d).t (swapC d).k = idOf d.t d.k from rfl, e]
    unfold swapC after
    cases d.has <;> simp
  have hlen : (s1.M.length : Int) = r.cs.foldl grow s.M.length := by rw [hp.length_eq]; exact fold_grow r.cs s.M h.nd hpw hm
  have hfit : fits s1 (undoR (s1.pos + 1) r) = true := by
    simp only [fits, Bool.and_eq_true, decide_eq_true_eq]
    refine ⟨⟨hv', rfl⟩, (fitsGo_iff _ _ _).2 ⟨hm', ?_⟩⟩
    rw [hlen]
    show (r.cs.map swapC).foldl grow _ ≤ 2000
    rw [grow_swap]
    have := h.len
    omega
  refine ⟨hfit, ?_⟩
  have eM' : (apply s1 (undoR (s1.pos + 1) r)).M = (r.cs.map swapC).foldl put1 s1.M := by unfold apply; rw [if_pos hfit]; rfl
  have hok := h1.applied (undoR (s1.pos + 1) r)
  rw [eM']
  refine perm_of_mget (by rw [← eM']; exact hok.nd) h.nd fun i => ?_
  by_cases hi : ∃ c ∈ r.cs, i = idOf c.t c.k
  · obtain ⟨c, hc, rfl⟩ := hi
    have e := fold_at (r.cs.map swapC) s1.M hpw' (swapC c) (List.mem_map.2 ⟨c, hc, rfl⟩)
    rw [show idOf (swapC c).t (swapC c).k = idOf c.t c.k from rfl] at e
    rw [e]
    have hmc := hm c hc
    unfold meets at hmc
    cases hg : mget s.M (idOf c.t c.k) with
    | none =>
      rw [hg] at hmc
      have : c.had = false := by simpa using hmc
      show (if c.had = true then _ else _) = _
      rw [this]
      rfl
    | some x =>
      rw [hg] at hmc
      simp only [Bool.and_eq_true, decide_eq_true_eq] at hmc
      obtain ⟨h1, h2, h3, h4⟩ := hmc
      have hk := h.key _ ((mget_iff h.nd).1 hg)
      rw [Rw.chg_id (hch c hc)] at hk
      show (if c.had = true then some (after (swapC c)) else none) = _
      rw [h1, if_pos rfl]
      obtain ⟨xt, xk, x0, x1, x2⟩ := x
      dsimp only at hk h2 h3 h4
      injection hk with e1 e2
      subst h2 h3 h4
      simp [after, swapC, e1, e2]
  · have hi1 : ∀ c ∈ r.cs, i ≠ idOf c.t c.k := fun c hc e => hi ⟨c, hc, e⟩
    rw [fold_other (r.cs.map swapC) s1.M i (fun c hc => by
      obtain ⟨d, hd, rfl⟩ := List.mem_map.1 hc
      exact hi1 d hd), hget, fold_other r.cs s.M i hi1]
end Sm
end Go.Proofs.Ytakfaffgfdbfmaa

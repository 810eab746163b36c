/-
  What Apply gives for the result of a query.
-/
import Derived.Test.YtciaallekkdnhaaGreatKc
import Derived.Test.YtciaallekkdnhaaGreatJf
import Derived.Test.YtciaallekkdnhaaGreatJx
import Derived.Test.YtciaallekkdnhaaGreatJy
import Derived.Test.YtciaallekkdnhaaGreatJn
import Derived.Test.YtciaallekkdnhaaGreatJl
namespace Go.Proofs.YtciaallekkdnhaaGreat
open Go.RowKit

namespace Em
def tot (l : List Int) : Int := l.foldl (· + ·) 0
theorem foldl_add (l : List Int) : ∀ a : Int, l.foldl (· + ·) a = a + tot l := by
  unfold tot
  induction l with
  | nil => intro a; simp
  | cons x l ih => intro a; rw [List.foldl_cons, List.foldl_cons, ih, ih (0 + x)]; omega
theorem tot_append (a b : List Int) : tot (a ++ b) = tot a + tot b := by
  unfold tot
  rw [List.foldl_append, foldl_add b]
  rfl
theorem count_eq (l : List RowV) : ∀ r : Res, l.foldl count r = ⟨r.rows, r.value + l.length, r.found⟩ := by
  induction l with
  | nil => intro r; simp
  | cons x l ih => intro r; rw [List.foldl_cons, ih]; simp only [count, List.length_cons]; congr 1; omega
theorem plus_eq (l : List Int) : ∀ r : Res, l.foldl plus r = ⟨r.rows, r.value + tot l, r.found⟩ := by
  induction l with
  | nil => intro r; simp [tot]
  | cons x l ih =>
    intro r
    rw [List.foldl_cons, ih]
    simp only [plus]
    have : tot (x :: l) = x + tot l := by unfold tot; rw [List.foldl_cons, foldl_add]; unfold tot; omega
    rw [this]
    congr 1
    omega
theorem of_count {s : Sm.Sta} {q : Qry} (hv : valid q = true) (hk : q.kind = 3) : of s q = ⟨[], (scan s q).length, false⟩ := by
  unfold of res
  rw [if_pos hv, if_pos hk, count_eq]
  simp [zero]
theorem of_sum {s : Sm.Sta} {q : Qry} (hv : valid q = true) (hk : q.kind = 4) : of s q = ⟨[], tot (meas q (scan s q)), false⟩ := by
  unfold of res
  rw [if_pos hv, if_neg (by omega), if_pos hk, plus_eq]
  simp [zero]
theorem of_join {s : Sm.Sta} {q : Qry} (hv : valid q = true) (hk : q.kind = 7) : of s q = ⟨joined q (scan s q) (tab s q.other), 0, false⟩ := res_join hv hk
theorem of_rows {s : Sm.Sta} {q : Qry} (hv : valid q = true) (hk : q.kind = 1 ∨ q.kind = 2) : of s q = ⟨scan s q, 0, false⟩ :=
  res_rows hv (by omega) (by omega) (by omega) (by omega) (by omega)
/-- The least of a list, 0 of none. -/
structure IsMin (l : List Int) (v : Int) (f : Bool) : Prop where
  found : f = !l.isEmpty
  none : l = [] → v = 0
  mem : l ≠ [] → v ∈ l
  le : ∀ x ∈ l, v ≤ x
structure IsMax (l : List Int) (v : Int) (f : Bool) : Prop where
  found : f = !l.isEmpty
  none : l = [] → v = 0
  mem : l ≠ [] → v ∈ l
  le : ∀ x ∈ l, x ≤ v
theorem least_is (l : List Int) : ∃ v f, l.foldl least zero = ⟨[], v, f⟩ ∧ IsMin l v f := by
  have key : ∀ (l : List Int) (p : List Int) (v : Int) (f : Bool), IsMin p v f → ∃ v' f', l.foldl least ⟨[], v, f⟩ = ⟨[], v', f'⟩ ∧ IsMin (p ++ l) v' f' := by
    intro l
    induction l with
    | nil => intro p v f h; exact ⟨v, f, rfl, by simpa using h⟩
    | cons x l ih =>
      intro p v f h
      rw [List.foldl_cons]
      have hs : IsMin (p ++ [x]) (if f = false ∨ x < v then x else v) true := by
        refine ⟨by simp, by simp, fun _ => ?_, fun y hy => ?_⟩
        · split
          · simp
          · rename_i hc
            have hp : p ≠ [] := fun e => hc (.inl (by rw [h.found, e]; rfl))
            exact List.mem_append_left _ (h.mem hp)
        · rcases List.mem_append.1 hy with hy | hy
          · have := h.le y hy
            split
            · rename_i hc
              rcases hc with hc | hc
              · have hp : p = [] := by
                  have := h.found
                  rw [hc] at this
                  simpa using this.symm
                rw [hp] at hy
                cases hy
              · omega
            · exact this
          · rw [List.mem_singleton] at hy
            subst hy
            split
            · omega
            · rename_i hc
              omega
      obtain ⟨v', f', e, h'⟩ := ih (p ++ [x]) _ _ hs
      exact ⟨v', f', e, by simpa using h'⟩
  exact key l [] 0 false ⟨rfl, fun _ => rfl, fun h => absurd rfl h, by simp⟩
theorem most_is (l : List Int) : ∃ v f, l.foldl most zero = ⟨[], v, f⟩ ∧ IsMax l v f := by
  have key : ∀ (l : List Int) (p : List Int) (v : Int) (f : Bool), IsMax p v f → ∃ v' f', l.foldl most ⟨[], v, f⟩ = ⟨[], v', f'⟩ ∧ IsMax (p ++ l) v' f' := by
    intro l
    induction l with
    | nil => intro p v f h; exact ⟨v, f, rfl, by simpa using h⟩
    | cons x l ih =>
      intro p v f h
      rw [List.foldl_cons]
      have hs : IsMax (p ++ [x]) (if f = false ∨ v < x then x else v) true := by
        refine ⟨by simp, by simp, fun _ => ?_, fun y hy => ?_⟩
        · split
          · simp
          · rename_i hc
            have hp : p ≠ [] := fun e => hc (.inl (by rw [h.found, e]; rfl))
            exact List.mem_append_left _ (h.mem hp)
        · rcases List.mem_append.1 hy with hy | hy
          · have := h.le y hy
            split
            · rename_i hc
              rcases hc with hc | hc
              · have hp : p = [] := by
                  have := h.found
                  rw [hc] at this
                  simpa using this.symm
                rw [hp] at hy
                cases hy
              · omega
            · exact this
          · rw [List.mem_singleton] at hy
            subst hy
            split
            · omega
            · rename_i hc
              omega
      obtain ⟨v', f', e, h'⟩ := ih (p ++ [x]) _ _ hs
      exact ⟨v', f', e, by simpa using h'⟩
  exact key l [] 0 false ⟨rfl, fun _ => rfl, fun h => absurd rfl h, by simp⟩
theorem of_min {s : Sm.Sta} {q : Qry} (hv : valid q = true) (hk : q.kind = 5) : ∃ v f, of s q = ⟨[], v, f⟩ ∧ IsMin (meas q (scan s q)) v f := by
  obtain ⟨v, f, e, h⟩ := least_is (meas q (scan s q))
  refine ⟨v, f, ?_, h⟩
  unfold of res
  rw [if_pos hv, if_neg (by omega), if_neg (by omega), if_pos hk, e]
theorem of_max {s : Sm.Sta} {q : Qry} (hv : valid q = true) (hk : q.kind = 6) : ∃ v f, of s q = ⟨[], v, f⟩ ∧ IsMax (meas q (scan s q)) v f := by
  obtain ⟨v, f, e, h⟩ := most_is (meas q (scan s q))
  refine ⟨v, f, ?_, h⟩
  unfold of res
  rw [if_pos hv, if_neg (by omega), if_neg (by omega), if_neg (by omega), if_pos hk, e]
theorem scan_len {s : Sm.Sta} (h : Sm.Ok s) (q : Qry) : (scan s q).length ≤ 2000 := (sel_picked s _ _).len h
theorem scan_mem {s : Sm.Sta} (h : Sm.Sound s) {q : Qry} {r : RowV} (hr : r ∈ scan s q) : Rw.row r.t r.k r.x r.y r.z = true := (sel_picked s _ _).vals h hr
theorem tot_bound (B : Int) : ∀ l : List Int, (∀ x ∈ l, -B ≤ x ∧ x ≤ B) → -(B * l.length) ≤ tot l ∧ tot l ≤ B * l.length
  | [], _ => by simp [tot]
  | x :: l, h => by
    have ih := tot_bound B l (fun y hy => h y (by simp [hy]))
    have hx := h x (by simp)
    have e : tot (x :: l) = x + tot l := by unfold tot; rw [List.foldl_cons, foldl_add]; unfold tot; omega
    rw [e, List.length_cons]
    have e2 : B * ((l.length + 1 : Nat) : Int) = B * l.length + B := by rw [Int.natCast_add, Int.mul_add]; simp
    omega
end Em
end Go.Proofs.YtciaallekkdnhaaGreat
namespace Go.Proofs.YtciaallekkdnhaaGreat

namespace Pm
/-- What a state's rows keep to. -/
structure MOk (M : List (IdK × RowV)) : Prop where
  nd : Nd M
  key : ∀ e ∈ M, e.1.1 = (e.2.t, e.2.k)
theorem MOk.put1 {M : List (IdK × RowV)} (h : MOk M) {c : Chg} (hc : Rw.chg c = true) : MOk (Sm.put1 M c) := ⟨Sm.put1_nd h.nd c, Sm.put1_key h.key hc⟩
theorem MOk.of {s : Sm.Sta} (h : Sm.Ok s) : MOk s.M := ⟨h.nd, h.key⟩
theorem own_iff {c : Chg} {x : RowV} : own c x = true ↔ x.t = c.t ∧ x.k = c.k := by unfold own; simp
theorem rows_del {M : List (IdK × RowV)} (h : MOk M) {c : Chg} (hc : Rw.chg c = true) : (mdel M (idOf c.t c.k)).map (·.2) = (M.map (·.2)).filter (fun r => !own c r) := by
  unfold mdel
  rw [List.filter_map]
  congr 1
  apply List.filter_congr
  intro e he
  have hk := h.key e he
  have hid := Rw.chg_id hc
  have hx : (e.1 = idOf c.t c.k) ↔ own c e.2 = true := by
    rw [own_iff]
    constructor
    · intro hx
      have h1 := congrArg Subtype.val hx
      rw [hk, hid] at h1
      exact ⟨congrArg Prod.fst h1, congrArg Prod.snd h1⟩
    · rintro ⟨h1, h2⟩
      exact Subtype.ext (by rw [hk, hid, h1, h2])
  simp only [Function.comp]
  by_cases ho : own c e.2 = true
  · have h1 := hx.2 ho
    simp [ho, h1]
  · have h1 : ¬ e.1 = idOf c.t c.k := fun h => ho (hx.1 h)
    simp [ho, h1]
theorem rows_put1 {M : List (IdK × RowV)} (h : MOk M) {c : Chg} (hc : Rw.chg c = true) : (Sm.put1 M c).map (·.2) = (aft c).toList ++ (M.map (·.2)).filter (fun r => !own c r) := by
  unfold Sm.put1 aft
  split
  · unfold mput
    rw [List.map_cons, rows_del h hc]
    rfl
  · rw [rows_del h hc]
    rfl
theorem bef_get {M : List (IdK × RowV)} (h : MOk M) {c : Chg} (hc : Rw.chg c = true) (hm : Sm.meets M c = true) : mget M (idOf c.t c.k) = bef c := by
  unfold Sm.meets at hm
  cases hg : mget M (idOf c.t c.k) with
  | none =>
    rw [hg] at hm
    have hm' : c.had = false := by simpa using hm
    unfold bef
    rw [hm']
    rfl
  | some r =>
    rw [hg] at hm
    simp only [Bool.and_eq_true, decide_eq_true_eq] at hm
    obtain ⟨h1, h2, h3, h4⟩ := hm
    have hk := h.key _ ((mget_iff h.nd).1 hg)
    rw [Rw.chg_id hc] at hk
    have e1 : c.t = r.t := congrArg Prod.fst hk
    have e2 : c.k = r.k := congrArg Prod.snd hk
    unfold bef
    rw [if_pos h1, e1, e2, ← h2, ← h3, ← h4]
theorem rows_old {M : List (IdK × RowV)} (h : MOk M) {c : Chg} (hc : Rw.chg c = true) (hm : Sm.meets M c = true) : (M.map (·.2)).Perm ((bef c).toList ++ (M.map (·.2)).filter (fun r => !own c r)) := by
  rw [← rows_del h hc]
  have hb := bef_get h hc hm
  cases hg : bef c with
  | none =>
    rw [hg] at hb
    rw [mdel_none hb]
    exact List.Perm.refl _
  | some r =>
    rw [hg] at hb
    have hp : M.Perm (mput M (idOf c.t c.k) r) := Sm.perm_of_mget h.nd (h.nd.put _ _) (fun i => by
      by_cases hi : i = idOf c.t c.k
      · subst hi
        rw [hb, mget_put_same]
      · rw [mget_put_other hi])
    have := hp.map (·.2)
    unfold mput at this
    simpa using this
theorem filter_opt (p : RowV → Bool) (o : Option RowV) : o.toList.filter p = (o.filter p).toList := by
  cases o with
  | none => rfl
  | some r => by_cases h : p r = true <;> simp [Option.filter, h]
theorem filter_swap (p r : RowV → Bool) (l : List RowV) : (l.filter p).filter r = (l.filter r).filter p := by
  rw [List.filter_filter, List.filter_filter]
  congr 1
  funext x
  exact Bool.and_comm _ _
theorem inq_rng (q : Qry) : inq q = inRng q.table q.column q.low q.high := rfl

/-- An element put ahead of the first one of which p holds. -/
theorem ins_perm {X : Type} (p : X → Bool) (x : X) : ∀ l : List X, (ins p x l).Perm (x :: l)
  | [] => List.Perm.refl _
  | y :: l => by
    unfold ins
    split
    · exact List.Perm.refl _
    · exact ((ins_perm p x l).cons y).trans (List.Perm.swap x y l)
theorem ins_mem {X : Type} {p : X → Bool} {x y : X} {l : List X} : y ∈ ins p x l ↔ y = x ∨ y ∈ l := by rw [(ins_perm p x l).mem_iff, List.mem_cons]
theorem behind_iff {q : Qry} {a x : RowV} : behind q a x = true ↔ ahead2 q.column a x := by
  unfold behind ahead2
  simp only [Bool.or_eq_true, Bool.and_eq_true, decide_eq_true_eq]
  omega
theorem ins_srt {q : Qry} {a : RowV} : ∀ {l : List RowV}, l.Pairwise (fun x y => ¬ ahead2 q.column y x) → (ins (behind q a) a l).Pairwise (fun x y => ¬ ahead2 q.column y x)
  | [], _ => by simp [ins]
  | y :: l, h => by
    obtain ⟨h1, h2⟩ := List.pairwise_cons.1 h
    unfold ins
    split
    · rename_i hb
      rw [behind_iff] at hb
      refine List.pairwise_cons.2 ⟨fun z hz => ?_, h⟩
      rcases List.mem_cons.1 hz with rfl | hz
      · exact ahead2_asymm hb
      · have := h1 z hz
        unfold ahead2 at *
        omega
    · rename_i hb
      rw [behind_iff] at hb
      refine List.pairwise_cons.2 ⟨fun z hz => ?_, ins_srt h2⟩
      rcases ins_mem.1 hz with rfl | hz
      · exact hb
      · exact h1 z hz

/-- One change, and the scan of a query. -/
structure Step (q : Qry) (c : Chg) (L L' : List RowV) : Prop where
  old : L.Perm ((B q c).toList ++ L.filter fun x => !own c x)
  new : L' = rows q L c
  new' : L'.Perm ((A q c).toList ++ L.filter fun x => !own c x)
  tab : ∀ r ∈ L, r.t = q.table
  srt : L.Pairwise (fun x y => ¬ ahead2 q.column y x)
theorem aft_t {c : Chg} {r : RowV} (h : aft c = some r) : r.t = c.t ∧ r.k = c.k := by
  unfold aft at h
  split at h
  · injection h with h
    subst h
    exact ⟨rfl, rfl⟩
  · cases h
theorem bef_t {c : Chg} {r : RowV} (h : bef c = some r) : r.t = c.t ∧ r.k = c.k := by
  unfold bef at h
  split at h
  · injection h with h
    subst h
    exact ⟨rfl, rfl⟩
  · cases h
theorem keyApartM {M : List (IdK × RowV)} (h : MOk M) {a b : RowV} (ha : a ∈ M.map (·.2)) (hb : b ∈ M.map (·.2)) (ht : a.t = b.t) (hk : a.k = b.k) : a = b := by
  obtain ⟨⟨i, a'⟩, hia, rfl⟩ := List.mem_map.1 ha
  obtain ⟨⟨j, b'⟩, hjb, rfl⟩ := List.mem_map.1 hb
  dsimp only at hk ht ⊢
  have e1 := h.key _ hia
  have e2 := h.key _ hjb
  dsimp only at e1 e2
  have hij : i = j := Subtype.ext (by rw [e1, e2, ht, hk])
  subst hij
  have h1 := (mget_iff h.nd).2 hia
  have h2 := (mget_iff h.nd).2 hjb
  rw [h1] at h2
  exact Option.some.inj h2
theorem step {s s' : Sm.Sta} (q : Qry) {c : Chg} (h : MOk s.M) (hc : Rw.chg c = true) (hm : Sm.meets s.M c = true) (hM : s'.M = Sm.put1 s.M c) : Step q c (Em.scan s q) (Em.scan s' q) := by
  have hs := Em.sel_picked s q.column (inRng q.table q.column q.low q.high)
  have hs' := Em.sel_picked s' q.column (inRng q.table q.column q.low q.high)
  have hp := hs.perm
  have hp' := hs'.perm
  rw [← inq_rng] at hp hp'
  have h0 : ((Em.scan s q).filter fun x => !own c x).Perm (((s.M.map (·.2)).filter (fun r => !own c r)).filter (inq q)) := by
    rw [filter_swap]
    exact hp.filter _
  have ho : (Em.scan s q).Perm ((B q c).toList ++ (Em.scan s q).filter fun x => !own c x) := by
    refine hp.trans (((rows_old h hc hm).filter (inq q)).trans ?_)
    rw [List.filter_append, filter_opt]
    exact List.Perm.append (List.Perm.refl _) h0.symm
  have hn : (Em.scan s' q).Perm ((A q c).toList ++ (Em.scan s q).filter fun x => !own c x) := by
    refine hp'.trans ?_
    rw [hM, rows_put1 h hc, List.filter_append, filter_opt]
    exact List.Perm.append (List.Perm.refl _) h0.symm
  have hsrt : (Em.scan s q).Pairwise (fun x y => ¬ ahead2 q.column y x) := hs.srt
  have hsrt0 : ((Em.scan s q).filter fun x => !own c x).Pairwise (fun x y => ¬ ahead2 q.column y x) := hsrt.filter _
  refine ⟨ho, ?_, hn, fun r hr => inRng_t r (List.mem_filter.1 (hp.mem_iff.1 hr)).2, hsrt⟩
  have h' : MOk s'.M := by
    rw [hM]
    exact h.put1 hc
  refine picked_uniq (c := q.column) ?_ ?_ hs'.srt ?_
  · refine hn.trans ?_
    unfold rows
    cases A q c with
    | none => exact List.Perm.refl _
    | some a => exact (ins_perm _ _ _).symm
  · intro a ha b hb hk
    have h1 := List.mem_filter.1 (hp'.mem_iff.1 ha)
    have h2 := List.mem_filter.1 (hp'.mem_iff.1 hb)
    exact keyApartM h' h1.1 h2.1 ((inRng_t a h1.2).trans (inRng_t b h2.2).symm) hk
  · unfold rows
    cases A q c with
    | none => exact hsrt0
    | some a => exact ins_srt hsrt0
section
variable {q : Qry} {c : Chg} {L L' : List RowV}
theorem Step.rest (h : Step q c L L') (hb : B q c = none) : L.filter (fun x => !own c x) = L := by
  have hl := h.old.length_eq
  rw [hb] at hl
  exact List.filter_eq_self.2 (List.length_filter_eq_length_iff.1 (by simpa using hl.symm))
theorem Step.same (h : Step q c L L') (hb : B q c = none) (ha : A q c = none) : L' = L := by
  rw [h.new]
  unfold rows
  rw [ha]
  exact h.rest hb
theorem Step.count (h : Step q c L L') : (L'.length : Int) = L.length + (if (A q c).isSome = true then 1 else 0) - (if (B q c).isSome = true then 1 else 0) := by
  have h1 := h.old.length_eq
  have h2 := h.new'.length_eq
  rw [List.length_append] at h1 h2
  cases hA : A q c <;> cases hB : B q c <;> rw [hA] at h2 <;> rw [hB] at h1 <;> simp at h1 h2 ⊢ <;> omega
end
theorem tot_cons (x : Int) (l : List Int) : Em.tot (x :: l) = x + Em.tot l := by
  have := Em.tot_append [x] l
  simpa [Em.tot] using this
theorem tot_perm {a b : List Int} (h : a.Perm b) : Em.tot a = Em.tot b := by
  induction h with
  | nil => rfl
  | cons x _ ih => rw [tot_cons, tot_cons, ih]
  | swap x y l => rw [tot_cons, tot_cons, tot_cons, tot_cons]; omega
  | trans _ _ h1 h2 => exact h1.trans h2
theorem meas_opt (q : Qry) (o : Option RowV) (l : List RowV) : Em.tot (Em.meas q (o.toList ++ l)) = me q o + Em.tot (Em.meas q l) := by
  unfold Em.meas
  rw [List.map_append, Em.tot_append]
  cases o with
  | none => rfl
  | some r => simp [me, Em.tot]
section
variable {q : Qry} {c : Chg} {L L' : List RowV}
theorem Step.sum (h : Step q c L L') : Em.tot (Em.meas q L') = Em.tot (Em.meas q L) + (Pm.now q c - Pm.old q c) := by
  have h1 := tot_perm (h.old.map (·.value q.by_))
  have h2 := tot_perm (h.new'.map (·.value q.by_))
  have e1 := meas_opt q (B q c) (L.filter fun x => !own c x)
  have e2 := meas_opt q (A q c) (L.filter fun x => !own c x)
  unfold Em.meas at *
  unfold Pm.now Pm.old
  omega
end
/-- The best of a list, by a kind's order. -/
structure IsExt (k : Int) (l : List Int) (v : Int) (f : Bool) : Prop where
  mem : f = true → v ∈ l
  none : f = false → v = 0 ∧ ∀ x, x ∉ l
  le : ∀ x ∈ l, better k x v = false
theorem IsExt.congr {k : Int} {l l' : List Int} {v : Int} {f : Bool} (h : IsExt k l v f) (hl : ∀ x, x ∈ l ↔ x ∈ l') : IsExt k l' v f :=
  ⟨fun hf => (hl v).1 (h.mem hf), fun hf => ⟨(h.none hf).1, fun x hx => (h.none hf).2 x ((hl x).2 hx)⟩, fun x hx => h.le x ((hl x).2 hx)⟩
theorem better_eq {k a b : Int} (h1 : better k a b = false) (h2 : better k b a = false) : a = b := by
  unfold better at h1 h2
  split at h1 <;> simp_all <;> omega
theorem better_irrefl (k a : Int) : better k a a = false := by unfold better; split <;> simp
theorem better_trans {k a b d : Int} (h1 : better k a b = false) (h2 : better k b d = false) : better k a d = false := by
  unfold better at *
  split at h1 <;> simp_all <;> omega
theorem better_asymm {k a b : Int} (h : better k a b = true) : better k b a = false := by
  unfold better at *
  split at h <;> simp_all <;> omega
theorem IsExt.uniq {k : Int} {l : List Int} {v v' : Int} {f f' : Bool} (h : IsExt k l v f) (h' : IsExt k l v' f') : v = v' ∧ f = f' := by
  cases f <;> cases f'
  · exact ⟨(h.none rfl).1.trans (h'.none rfl).1.symm, rfl⟩
  · exact absurd (h'.mem rfl) ((h.none rfl).2 _)
  · exact absurd (h.mem rfl) ((h'.none rfl).2 _)
  · exact ⟨better_eq (h'.le v (h.mem rfl)) (h.le v' (h'.mem rfl)), rfl⟩
theorem IsExt.of_min {l : List Int} {v : Int} {f : Bool} (h : Em.IsMin l v f) : IsExt 5 l v f := by
  refine ⟨fun hf => h.mem (fun e => ?_), fun hf => ?_, fun x hx => ?_⟩
  · rw [h.found, e] at hf
    cases hf
  · have e : l = [] := by
      cases l with
      | nil => rfl
      | cons x l => rw [h.found] at hf; cases hf
    exact ⟨h.none e, fun x hx => by rw [e] at hx; cases hx⟩
  · have := h.le x hx
    unfold better
    rw [if_pos rfl]
    exact decide_eq_false (by omega)
theorem IsExt.of_max {l : List Int} {v : Int} {f : Bool} (h : Em.IsMax l v f) : IsExt 6 l v f := by
  refine ⟨fun hf => h.mem (fun e => ?_), fun hf => ?_, fun x hx => ?_⟩
  · rw [h.found, e] at hf
    cases hf
  · have e : l = [] := by
      cases l with
      | nil => rfl
      | cons x l => rw [h.found] at hf; cases hf
    exact ⟨h.none e, fun x hx => by rw [e] at hx; cases hx⟩
  · have := h.le x hx
    unfold better
    rw [if_neg (by decide)]
    exact decide_eq_false (by omega)
/-- What a change makes of the best. -/
def extV (k v : Int) (f : Bool) (b a : Option Int) : Option (Int × Bool) :=
  if (b.isSome && (!f || !better k v (b.getD 0))) = true then
    (if (a.isSome && (f && !better k v (a.getD 0))) = true then some (a.getD 0, f) else none)
  else if a.isSome = true then some (if (!f || better k (a.getD 0) v) = true then a.getD 0 else v, true)
  else some (v, f)
theorem extV_is {k : Int} {l l' l0 : List Int} {b a : Option Int} (hl : ∀ x, x ∈ l ↔ b = some x ∨ x ∈ l0) (hl' : ∀ x, x ∈ l' ↔ a = some x ∨ x ∈ l0) {v v' : Int} {f f' : Bool} (h : IsExt k l v f) (hx : extV k v f b a = some (v', f')) : IsExt k l' v' f' := by
  unfold extV at hx
  by_cases h1 : (b.isSome && (!f || !better k v (b.getD 0))) = true
  · rw [if_pos h1] at hx
    split at hx
    case isFalse => cases hx
    case isTrue h2 =>
      simp only [Option.some.injEq, Prod.mk.injEq] at hx
      obtain ⟨e1, e2⟩ := hx
      obtain ⟨a, rfl⟩ : ∃ x, a = some x := by
        cases a with
        | none => simp at h2
        | some x => exact ⟨x, rfl⟩
      simp only [Option.isSome_some, Option.getD_some, Bool.true_and, Bool.and_eq_true, Bool.not_eq_true'] at h2 e1
      subst e1
      rw [h2.1] at e2
      subst e2
      refine ⟨fun _ => (hl' _).2 (.inl rfl), fun hf => (by cases hf), fun x hx => ?_⟩
      rcases (hl' x).1 hx with e | hx
      · injection e with e
        subst e
        exact better_irrefl k _
      · exact better_trans (h.le x ((hl x).2 (.inr hx))) h2.2
  · rw [if_neg h1] at hx
    have hv : f = true → v ∈ l0 := fun hf => by
      rcases (hl v).1 (h.mem hf) with e | hm
      · rw [e, hf, Option.getD_some, better_irrefl] at h1
        exact absurd rfl h1
      · exact hm
    cases a with
    | none =>
      simp only [Option.isSome_none, Bool.false_eq_true, if_false, Option.some.injEq, Prod.mk.injEq] at hx
      obtain ⟨rfl, rfl⟩ := hx
      refine ⟨fun hf => (hl' v).2 (.inr (hv hf)), fun hf => ⟨(h.none hf).1, fun x hx => ?_⟩, fun x hx => ?_⟩
      · rcases (hl' x).1 hx with e | hx
        · cases e
        · exact (h.none hf).2 x ((hl x).2 (.inr hx))
      · rcases (hl' x).1 hx with e | hx
        · cases e
        · exact h.le x ((hl x).2 (.inr hx))
    | some y =>
      simp only [Option.isSome_some, if_true, Option.getD_some, Option.some.injEq, Prod.mk.injEq] at hx
      obtain ⟨e1, rfl⟩ := hx
      cases f with
      | false =>
        have e1' : y = v' := by simpa using e1
        subst e1'
        refine ⟨fun _ => (hl' _).2 (.inl rfl), fun hf => (by cases hf), fun x hx => ?_⟩
        rcases (hl' x).1 hx with e | hx
        · injection e with e
          subst e
          exact better_irrefl k _
        · exact absurd ((hl x).2 (.inr hx)) ((h.none rfl).2 x)
      | true =>
        simp only [Bool.not_true, Bool.false_or] at e1
        by_cases hb : better k y v = true
        · rw [if_pos hb] at e1
          subst e1
          refine ⟨fun _ => (hl' _).2 (.inl rfl), fun hf => (by cases hf), fun x hx => ?_⟩
          rcases (hl' x).1 hx with e | hx
          · injection e with e
            subst e
            exact better_irrefl k _
          · exact better_trans (h.le x ((hl x).2 (.inr hx))) (better_asymm hb)
        · rw [if_neg hb] at e1
          subst e1
          refine ⟨fun _ => (hl' _).2 (.inr (hv rfl)), fun hf => (by cases hf), fun x hx => ?_⟩
          rcases (hl' x).1 hx with e | hx
          · injection e with e
            subst e
            simpa using hb
          · exact h.le x ((hl x).2 (.inr hx))
theorem me_getD (q : Qry) (o : Option RowV) : me q o = (o.map (·.value q.by_)).getD 0 := by cases o <;> rfl
section
variable {q : Qry} {c : Chg} {L L' : List RowV}
theorem Step.mem (h : Step q c L L') (x : Int) : x ∈ Em.meas q L ↔ (B q c).map (·.value q.by_) = some x ∨ x ∈ Em.meas q (L.filter fun x => !own c x) := by
  unfold Em.meas
  rw [(h.old.map _).mem_iff, List.map_append, List.mem_append]
  refine or_congr ?_ Iff.rfl
  cases B q c <;> simp [eq_comm]
theorem Step.mem' (h : Step q c L L') (x : Int) : x ∈ Em.meas q L' ↔ (A q c).map (·.value q.by_) = some x ∨ x ∈ Em.meas q (L.filter fun x => !own c x) := by
  unfold Em.meas
  rw [(h.new'.map _).mem_iff, List.map_append, List.mem_append]
  refine or_congr ?_ Iff.rfl
  cases A q c <;> simp [eq_comm]
theorem Step.ext (h : Step q c L L') {v v' : Int} {f f' : Bool} {r' : Res} (hi : IsExt q.kind (Em.meas q L) v f) (hi' : IsExt q.kind (Em.meas q L') v' f') (hx : Pm.ext q ⟨[], v, f⟩ c = some r') : r' = ⟨[], v', f'⟩ := by
  have e : Pm.ext q ⟨[], v, f⟩ c = (extV q.kind v f ((B q c).map (·.value q.by_)) ((A q c).map (·.value q.by_))).map fun p => ⟨[], p.1, p.2⟩ := by
    unfold Pm.ext extV Pm.old Pm.now
    simp only [Option.isSome_map, ← me_getD]
    split
    · split <;> rfl
    · split <;> rfl
  rw [e] at hx
  cases hv : extV q.kind v f ((B q c).map (·.value q.by_)) ((A q c).map (·.value q.by_)) with
  | none => rw [hv] at hx; cases hx
  | some p =>
    rw [hv] at hx
    injection hx with hx
    subst hx
    obtain ⟨e1, e2⟩ := (extV_is h.mem h.mem' hi hv).uniq hi'
    rw [← e1, ← e2]
theorem Step.ext0 (h : Step q c L L') {v v' : Int} {f f' : Bool} (hi : IsExt q.kind (Em.meas q L) v f) (hi' : IsExt q.kind (Em.meas q L') v' f') (h1 : oneE q c = false) (h2 : Pm.old q c = Pm.now q c) : v = v' ∧ f = f' := by
  refine (hi.congr (fun x => ?_)).uniq hi'
  rw [h.mem, h.mem']
  unfold oneE at h1
  unfold Pm.old Pm.now at h2
  cases hA : A q c <;> cases hB : B q c <;> rw [hA, hB] at h1 h2 <;> simp [me] at h1 h2 ⊢
  rw [h2]
end

/-- The pairs of a join, by the partners. -/
def jp (P : Int → Option RowV) (b : Int) (L : List RowV) : List (RowV × RowV) := L.flatMap fun r => match P (r.value b) with
  | some x => [(r, x)]
  | none => []
theorem jp_cons (P : Int → Option RowV) (b : Int) (r : RowV) (L : List RowV) : jp P b (r :: L) = (match P (r.value b) with | some x => [(r, x)] | none => []) ++ jp P b L := by
  unfold jp
  rw [List.flatMap_cons]
theorem jp_flat (q : Qry) (T : List RowV) : ∀ L : List RowV, flat (jp (Em.partner T q.other) q.by_ L) = Em.joined q L T
  | [] => rfl
  | r :: L => by
    have ih := jp_flat q T L
    unfold flat Em.joined at *
    rw [jp_cons, List.flatMap_append, List.flatMap_cons, ih]
    congr 1
    unfold Em.pair
    cases Em.partner T q.other (r.value q.by_) <;> rfl
theorem jp_pairs (q : Qry) (T : List RowV) : ∀ L : List RowV, pairs (Em.joined q L T) = jp (Em.partner T q.other) q.by_ L
  | [] => rfl
  | r :: L => by
    have ih := jp_pairs q T L
    unfold Em.joined at *
    rw [jp_cons, List.flatMap_cons]
    cases h : Em.partner T q.other (r.value q.by_) with
    | none =>
      have e : Em.pair q T r = [] := by
        unfold Em.pair
        rw [h]
      rw [e, List.nil_append, ih]
      rfl
    | some x =>
      have e : Em.pair q T r = [r, x] := by
        unfold Em.pair
        rw [h]
      rw [e, ← ih]
      rfl
theorem jp_mem {P : Int → Option RowV} {b : Int} {L : List RowV} {p : RowV × RowV} : p ∈ jp P b L ↔ p.1 ∈ L ∧ P (p.1.value b) = some p.2 := by
  unfold jp
  rw [List.mem_flatMap]
  constructor
  · rintro ⟨r, hr, hp⟩
    cases hP : P (r.value b) with
    | none => rw [hP] at hp; cases hp
    | some x =>
      rw [hP] at hp
      have e : p = (r, x) := by simpa using hp
      subst e
      exact ⟨hr, hP⟩
  · rintro ⟨h1, h2⟩
    exact ⟨p.1, h1, by rw [h2]; simp⟩
theorem jp_filter (P : Int → Option RowV) (b : Int) (g : RowV → Bool) : ∀ L : List RowV, (jp P b L).filter (fun p => g p.1) = jp P b (L.filter g)
  | [] => rfl
  | r :: L => by
    have ih := jp_filter P b g L
    rw [jp_cons, List.filter_append, ih, List.filter_cons]
    cases hg : g r
    · rw [if_neg (by simp)]
      cases P (r.value b) <;> simp [hg]
    · rw [if_pos rfl, jp_cons]
      cases P (r.value b) <;> simp [hg]
theorem ins_all {X : Type} {p : X → Bool} {x : X} : ∀ {l : List X}, (∀ y ∈ l, p y = true) → ins p x l = x :: l
  | [], _ => rfl
  | y :: l, h => by unfold ins; rw [if_pos (h y (by simp))]
/-- A row with a partner, put into its place. -/
theorem jp_ins {P : Int → Option RowV} {q : Qry} {a x : RowV} (hP : P (a.value q.by_) = some x) : ∀ {l : List RowV}, l.Pairwise (fun x y => ¬ ahead2 q.column y x) → jp P q.by_ (ins (behind q a) a l) = ins (fun p => behind q a p.1) (a, x) (jp P q.by_ l)
  | [], _ => by
    show jp P q.by_ [a] = [(a, x)]
    rw [jp_cons, hP]
    rfl
  | y :: l, h => by
    obtain ⟨h1, h2⟩ := List.pairwise_cons.1 h
    have ih := jp_ins hP h2
    by_cases hb : behind q a y = true
    · rw [ins_all (l := jp P q.by_ (y :: l)) (fun p hp => ?_)]
      · unfold ins
        rw [if_pos hb, jp_cons, hP]
        rfl
      · obtain ⟨hm, -⟩ := jp_mem.1 hp
        rcases List.mem_cons.1 hm with e | hm
        · rw [e]
          exact hb
        · have h3 := h1 _ hm
          rw [behind_iff] at hb ⊢
          unfold ahead2 at *
          omega
    · have e1 : ins (behind q a) a (y :: l) = y :: ins (behind q a) a l := by
        rw [ins, if_neg hb]
      rw [e1, jp_cons, jp_cons, ih]
      cases P (y.value q.by_) with
      | none => rfl
      | some z =>
        show (y, z) :: _ = ins _ _ ((y, z) :: _)
        rw [ins, if_neg hb]
        rfl
theorem jp_ins0 {P : Int → Option RowV} {b : Int} {g : RowV → Bool} {a : RowV} (hP : P (a.value b) = none) : ∀ l : List RowV, jp P b (ins g a l) = jp P b l
  | [] => by
    show jp P b [a] = []
    rw [jp_cons, hP]
    rfl
  | y :: l => by
    unfold ins
    split
    · rw [jp_cons, hP]
      rfl
    · rw [jp_cons, jp_cons, jp_ins0 hP l]
theorem partner_iff {s : Sm.Sta} (h : MOk s.M) {t k : Int} {x : RowV} : Em.partner (Em.tab s t) t k = some x ↔ x ∈ s.M.map (·.2) ∧ x.t = t ∧ x.k = k := by
  have hp := Em.sel_picked s 0 (inTab t)
  have hm : ∀ r, r ∈ Em.tab s t ↔ r ∈ s.M.map (·.2) ∧ r.t = t := fun r => by
    unfold Em.tab
    rw [hp.perm.mem_iff, List.mem_filter]
    simp [inTab]
  unfold Em.partner
  constructor
  · intro hf
    have h1 := List.find?_some hf
    have h2 := List.mem_of_find?_eq_some hf
    simp only [Bool.and_eq_true, decide_eq_true_eq] at h1
    exact ⟨((hm x).1 h2).1, h1⟩
  · rintro ⟨h1, h2, h3⟩
    cases hf : (Em.tab s t).find? (fun x => decide (x.t = t) && decide (x.k = k)) with
    | none =>
      have h4 := List.find?_eq_none.1 hf x ((hm x).2 ⟨h1, h2⟩)
      simp [h2, h3] at h4
    | some r =>
      have h4 := List.find?_some hf
      have h5 := List.mem_of_find?_eq_some hf
      simp only [Bool.and_eq_true, decide_eq_true_eq] at h4
      rw [keyApartM h ((hm r).1 h5).1 h1 (by omega) (by omega)]
theorem partner_step {s s' : Sm.Sta} {c : Chg} (h : MOk s.M) (hc : Rw.chg c = true) (hM : s'.M = Sm.put1 s.M c) (t k : Int) : Em.partner (Em.tab s' t) t k = if c.t = t ∧ k = c.k then aft c else Em.partner (Em.tab s t) t k := by
  have h' : MOk s'.M := by
    rw [hM]
    exact h.put1 hc
  apply Option.ext
  intro x
  rw [partner_iff h', hM, rows_put1 h hc, List.mem_append, List.mem_filter, Option.mem_toList]
  split
  · rename_i hk
    constructor
    · rintro ⟨h1 | h1, h2, h3⟩
      · exact h1
      · have : own c x = true := own_iff.2 ⟨by omega, by omega⟩
        rw [this] at h1
        simp at h1
    · intro hx
      have := aft_t hx
      exact ⟨.inl hx, by omega, by omega⟩
  · rename_i hk
    rw [partner_iff h]
    constructor
    · rintro ⟨h1 | h1, h2, h3⟩
      · have := aft_t h1
        exact absurd ⟨by omega, by omega⟩ hk
      · exact ⟨h1.1, h2, h3⟩
    · rintro ⟨h1, h2, h3⟩
      refine ⟨.inr ⟨h1, ?_⟩, h2, h3⟩
      cases ho : own c x with
      | false => rfl
      | true =>
        have := own_iff.1 ho
        exact absurd ⟨by omega, by omega⟩ hk
theorem jp_congr {P P' : Int → Option RowV} {b : Int} : ∀ {L : List RowV}, (∀ r ∈ L, P' (r.value b) = P (r.value b)) → jp P' b L = jp P b L
  | [], _ => rfl
  | r :: L, h => by
    rw [jp_cons, jp_cons, h r (by simp), jp_congr (fun r hr => h r (by simp [hr]))]
/-- The other table's row is gone. -/
theorem jp_gone {P P' : Int → Option RowV} {b k : Int} (hk : ∀ n x, P n = some x → x.k = n) (hP : ∀ n, P' n = if n = k then none else P n) : ∀ L : List RowV, (jp P b L).filter (fun p => !decide (p.2.k = k)) = jp P' b L
  | [] => rfl
  | r :: L => by
    rw [jp_cons, jp_cons, List.filter_append, jp_gone hk hP L, hP]
    congr 1
    cases hx : P (r.value b) with
    | none => by_cases e : r.value b = k <;> simp [e]
    | some x =>
      have := hk _ _ hx
      by_cases e : r.value b = k <;> simp [this, e]
theorem jp_turn {P P' : Int → Option RowV} {b k : Int} {y : RowV} (hk : ∀ n x, P n = some x → x.k = n) (hP : ∀ n, P' n = if n = k then some y else P n) (hy : ∃ x, P k = some x) : ∀ L : List RowV, ((jp P b L).map fun p => if p.2.k = k then (p.1, y) else p) = jp P' b L
  | [] => rfl
  | r :: L => by
    rw [jp_cons, jp_cons, List.map_append, jp_turn hk hP hy L, hP]
    congr 1
    cases hx : P (r.value b) with
    | none =>
      by_cases e : r.value b = k
      · obtain ⟨x, h2⟩ := hy
        rw [e, h2] at hx
        cases hx
      · simp [e]
    | some x =>
      have := hk _ _ hx
      by_cases e : r.value b = k <;> simp [this, e]
theorem kind_of {q : Qry} (hv : Em.valid q = true) : 1 ≤ q.kind ∧ q.kind ≤ 7 := by
  unfold Em.valid at hv
  repeat' split at hv
  all_goals first | omega | cases hv
theorem anyE_none {q : Qry} {c : Chg} (h : anyE q c = false) : B q c = none ∧ A q c = none := by
  unfold anyE at h
  cases hB : B q c <;> cases hA : A q c <;> simp [hB, hA] at h ⊢
theorem sc_off {q : Qry} {o : Option RowV} (h : ∀ r, o = some r → r.t ≠ q.table) : sc q o = none := by
  unfold sc
  cases o with
  | none => rfl
  | some r =>
    have h1 := h r rfl
    have h2 : inq q r = false := by
      unfold inq
      rw [decide_eq_false h1, Bool.false_and]
    simp [Option.filter, h2]
theorem sc_some {q : Qry} {o : Option RowV} {r : RowV} (h : sc q o = some r) : o = some r ∧ inq q r = true := by
  unfold sc at h
  cases o with
  | none => cases h
  | some x =>
    simp [Option.filter] at h
    obtain ⟨h1, h2⟩ := h
    subst h2
    exact ⟨rfl, h1⟩
/-- The pairs of a join behind a change of the scanned table. -/
theorem left_of {s s' : Sm.Sta} {q : Qry} {c : Chg} {l : List (RowV × RowV)} (h : MOk s.M) (hc : Rw.chg c = true) (hm : Sm.meets s.M c = true) (hM : s'.M = Sm.put1 s.M c) (hA : anyE q c = true) (hne : ¬ c.t = q.other)
    (hl : left q (jp (Em.partner (Em.tab s q.other) q.other) q.by_ (Em.scan s q)) c = some l) : l = jp (Em.partner (Em.tab s' q.other) q.other) q.by_ (Em.scan s' q) := by
  have st := step q h hc hm hM
  have hP : Em.partner (Em.tab s' q.other) q.other = Em.partner (Em.tab s q.other) q.other := by
    funext k
    rw [partner_step h hc hM, if_neg (fun hx => hne hx.1)]
  rw [hP, st.new]
  have hct : c.t = q.table := by
    unfold anyE at hA
    rw [Bool.or_eq_true] at hA
    rcases hA with h1 | h1
    · cases hB : B q c with
      | none => rw [hB] at h1; cases h1
      | some b =>
        obtain ⟨h2, h3⟩ := sc_some hB
        rw [← (bef_t h2).1]
        exact inRng_t b h3
    · cases hB : A q c with
      | none => rw [hB] at h1; cases h1
      | some b =>
        obtain ⟨h2, h3⟩ := sc_some hB
        rw [← (aft_t h2).1]
        exact inRng_t b h3
  generalize hPP : Em.partner (Em.tab s q.other) q.other = P at *
  have hkP : ∀ n x, P n = some x → x.k = n := fun n x hx => by
    rw [← hPP] at hx
    exact ((partner_iff h).1 hx).2.2
  generalize Em.scan s q = L at *
  have hrest : rest (jp P q.by_ L) c = jp P q.by_ (L.filter fun x => !own c x) := by
    unfold rest
    rw [jp_filter P q.by_ (fun r => !decide (r.k = c.k)) L]
    congr 1
    apply List.filter_congr
    intro r hr
    have := st.tab r hr
    unfold own
    rw [decide_eq_true (show r.t = c.t by omega)]
    rfl
  have hs0 : (L.filter fun x => !own c x).Pairwise (fun x y => ¬ ahead2 q.column y x) := st.srt.filter _
  unfold left at hl
  unfold rows
  cases hAq : A q c with
  | none =>
    rw [hAq] at hl
    injection hl with hl
    rw [← hl, hrest]
  | some a =>
    rw [hAq] at hl
    dsimp only at hl ⊢
    have hnow : now q c = a.value q.by_ := by
      unfold now
      rw [hAq]
      rfl
    cases hf : (jp P q.by_ L).find? (fun p => decide (p.2.k = now q c)) with
    | some p =>
      rw [hf] at hl
      injection hl with hl
      have h1 := List.find?_some hf
      have h2 := jp_mem.1 (List.mem_of_find?_eq_some hf)
      have h3 : P (a.value q.by_) = some p.2 := by
        have h4 := hkP _ _ h2.2
        have h5 : p.2.k = now q c := by simpa using h1
        rw [← hnow, ← h5, h4]
        exact h2.2
      rw [← hl, hrest, jp_ins h3 hs0]
    | none =>
      rw [hf] at hl
      dsimp only at hl
      split at hl
      case isFalse => cases hl
      case isTrue hx =>
        injection hl with hl
        rw [← hl, hrest]
        simp only [Bool.and_eq_true, decide_eq_true_eq] at hx
        refine (jp_ins0 (?_ : P (a.value q.by_) = none) _).symm
        cases hPa : P (a.value q.by_) with
        | none => rfl
        | some x =>
          exfalso
          obtain ⟨b, hb⟩ := Option.isSome_iff_exists.1 hx.1
          have hbL : b ∈ L := st.old.mem_iff.2 (by rw [hb]; simp)
          have hold : old q c = b.value q.by_ := by
            unfold old
            rw [hb]
            rfl
          have h4 := List.find?_eq_none.1 hf (b, x) (jp_mem.2 ⟨hbL, by rw [← hold, hx.2, hnow]; exact hPa⟩)
          have h5 := hkP _ _ hPa
          simp [h5, hnow] at h4
/-- The pairs of a join behind a change of the other table. -/
theorem other_of {s s' : Sm.Sta} {q : Qry} {c : Chg} (h : MOk s.M) (hc : Rw.chg c = true) (hm : Sm.meets s.M c = true) (hM : s'.M = Sm.put1 s.M c) (hne : ¬ q.table = q.other) (hct : c.t = q.other) (hh : c.had = true) :
    other (jp (Em.partner (Em.tab s q.other) q.other) q.by_ (Em.scan s q)) c = jp (Em.partner (Em.tab s' q.other) q.other) q.by_ (Em.scan s' q) := by
  have st := step q h hc hm hM
  have hB : B q c = none := sc_off (fun r hr => by have := (bef_t hr).1; omega)
  have hA : A q c = none := sc_off (fun r hr => by have := (aft_t hr).1; omega)
  rw [st.same hB hA]
  have hkP : ∀ n x, Em.partner (Em.tab s q.other) q.other n = some x → x.k = n := fun n x hx => ((partner_iff h).1 hx).2.2
  have hP : ∀ n, Em.partner (Em.tab s' q.other) q.other n = if n = c.k then aft c else Em.partner (Em.tab s q.other) q.other n := fun n => by
    rw [partner_step h hc hM]
    by_cases e : n = c.k
    · rw [if_pos ⟨hct, e⟩, if_pos e]
    · rw [if_neg (fun hx => e hx.2), if_neg e]
  have hy : ∃ x, Em.partner (Em.tab s q.other) q.other c.k = some x := by
    have hb := bef_get h hc hm
    have e1 : bef c = some ⟨c.t, c.k, c.o0, c.o1, c.o2⟩ := by
      unfold bef
      rw [if_pos hh]
    rw [e1] at hb
    exact ⟨_, (partner_iff h).2 ⟨List.mem_map.2 ⟨_, (mget_iff h.nd).1 hb, rfl⟩, hct, rfl⟩⟩
  unfold other
  cases ha : aft c with
  | none =>
    rw [ha] at hP
    exact jp_gone hkP hP _
  | some y =>
    rw [ha] at hP
    exact jp_turn hkP hP hy _
/-- What a result that is patched is. -/
theorem patch_of {s s' : Sm.Sta} {q : Qry} {c : Chg} {r' : Res} (hv : Em.valid q = true) (h : MOk s.M) (hc : Rw.chg c = true) (hm : Sm.meets s.M c = true) (hM : s'.M = Sm.put1 s.M c) (hp : patch q (Em.of s q) c = some r') : r' = Em.of s' q := by
  have st := step q h hc hm hM
  have hk := kind_of hv
  have ht : touches q c = tk q c := by
    unfold touches
    rw [hv, hc]
    rfl
  unfold patch at hp
  rw [ht] at hp
  unfold tk pk at hp
  by_cases k3 : q.kind = 3
  · rw [if_pos k3, if_pos k3, Em.of_count hv k3] at hp
    rw [Em.of_count hv k3]
    have hcnt := st.count
    split at hp
    · rename_i h1
      injection hp with hp
      rw [← hp]
      unfold oneE at h1
      cases hA : A q c <;> cases hB : B q c <;> rw [hA, hB] at h1 hcnt <;> simp at h1 hcnt ⊢ <;> omega
    · rename_i h1
      injection hp with hp
      rw [← hp]
      unfold oneE at h1
      cases hA : A q c <;> cases hB : B q c <;> rw [hA, hB] at h1 hcnt <;> simp at h1 hcnt ⊢ <;> omega
  rw [if_neg k3, if_neg k3] at hp
  by_cases k4 : q.kind = 4
  · rw [if_pos k4, if_pos k4, Em.of_sum hv k4] at hp
    rw [Em.of_sum hv k4]
    have hsum := st.sum
    split at hp
    · injection hp with hp
      rw [← hp, hsum]
    · rename_i h1
      injection hp with hp
      rw [← hp, hsum]
      have h2 : old q c = now q c := by simpa using h1
      rw [h2, Int.sub_self, Int.add_zero]
  rw [if_neg k4, if_neg k4] at hp
  by_cases k56 : q.kind = 5 ∨ q.kind = 6
  · rw [if_pos k56, if_pos k56] at hp
    have hi : ∀ s, ∃ v f, Em.of s q = ⟨[], v, f⟩ ∧ IsExt q.kind (Em.meas q (Em.scan s q)) v f := fun s => by
      rcases k56 with k | k
      · obtain ⟨v, f, e, hx⟩ := Em.of_min (s := s) hv k
        exact ⟨v, f, e, by rw [k]; exact .of_min hx⟩
      · obtain ⟨v, f, e, hx⟩ := Em.of_max (s := s) hv k
        exact ⟨v, f, e, by rw [k]; exact .of_max hx⟩
    obtain ⟨v, f, e, hx⟩ := hi s
    obtain ⟨v', f', e', hx'⟩ := hi s'
    rw [e] at hp
    rw [e']
    split at hp
    · exact st.ext hx hx' hp
    · rename_i h1
      injection hp with hp
      rw [← hp]
      simp only [Bool.or_eq_true, not_or, Bool.not_eq_true, Bool.not_eq_false', decide_eq_true_eq] at h1
      obtain ⟨h2, h3⟩ := st.ext0 hx hx' h1.1 h1.2
      rw [h2, h3]
  rw [if_neg k56, if_neg k56] at hp
  by_cases k7 : q.kind = 7
  · rw [if_pos k7, if_pos k7, Em.of_join hv k7] at hp
    rw [Em.of_join hv k7]
    split at hp
    · rename_i hto
      split at hp
      · cases hp
      · rename_i hne
        rw [jp_pairs] at hp
        unfold join at hp
        by_cases hct : c.t = q.other
        · rw [if_pos hct] at hp
          split at hp
          · rename_i hh
            injection hp with hp
            rw [← hp, other_of h hc hm hM hne hct hh]
            dsimp only
            rw [jp_flat]
          · cases hp
        · rw [if_neg hct] at hp
          have hA : anyE q c = true := by simpa [hct] using hto
          cases hl : left q (jp (Em.partner (Em.tab s q.other) q.other) q.by_ (Em.scan s q)) c with
          | none => rw [hl] at hp; cases hp
          | some l =>
            rw [hl] at hp
            injection hp with hp
            rw [← hp, left_of h hc hm hM hA hct hl]
            dsimp only
            rw [jp_flat]
    · rename_i h1
      injection hp with hp
      rw [← hp]
      simp only [Bool.or_eq_true, not_or, Bool.not_eq_true, decide_eq_true_eq] at h1
      obtain ⟨hB, hA⟩ := anyE_none h1.1
      have e : jp (Em.partner (Em.tab s' q.other) q.other) q.by_ (Em.scan s q) = jp (Em.partner (Em.tab s q.other) q.other) q.by_ (Em.scan s q) := jp_congr (fun r _ => by
        rw [partner_step h hc hM, if_neg (fun hx => h1.2 hx.1)])
      rw [st.same hB hA, ← jp_flat, ← jp_flat, e]
  · rw [if_neg k7, if_neg k7] at hp
    have k12 : q.kind = 1 ∨ q.kind = 2 := by omega
    rw [Em.of_rows hv k12] at hp
    rw [Em.of_rows hv k12]
    split at hp
    · injection hp with hp
      rw [← hp, st.new]
    · rename_i h1
      injection hp with hp
      obtain ⟨hB, hA⟩ := anyE_none (by simpa using h1)
      rw [← hp, st.same hB hA]
/-- A record's changes, one after the other. -/
theorem go_of {q : Qry} (hv : Em.valid q = true) : ∀ (cs : List Chg) {s s' : Sm.Sta} {t : Bool} {x : Res × Bool}, MOk s.M → (∀ c ∈ cs, Rw.chg c = true) → cs.Pairwise (fun c d => idOf c.t c.k ≠ idOf d.t d.k) → (∀ c ∈ cs, Sm.meets s.M c = true) → s'.M = cs.foldl Sm.put1 s.M → go q cs (Em.of s q) t = some x →
    x.1 = Em.of s' q ∧ x.2 = (t || cs.any (touches q))
  | [], s, s', t, x, h, _, _, _, hM, hg => by
    unfold go at hg
    injection hg with hg
    subst hg
    refine ⟨?_, by simp⟩
    show Em.of s q = Em.of s' q
    unfold Em.of Em.scan Em.tab Em.sel
    rw [hM]
    rfl
  | c :: cs, s, s', t, x, h, hc, hd, hm, hM, hg => by
    unfold go at hg
    cases hp : patch q (Em.of s q) c with
    | none => rw [hp] at hg; cases hg
    | some r' =>
      rw [hp] at hg
      dsimp only at hg
      obtain ⟨hd1, hd2⟩ := List.pairwise_cons.1 hd
      have e := patch_of (s' := ⟨Sm.put1 s.M c, 0⟩) hv h (hc c (by simp)) (hm c (by simp)) rfl hp
      rw [e] at hg
      obtain ⟨e1, e2⟩ := go_of hv cs (s := ⟨Sm.put1 s.M c, 0⟩) (s' := s') (h.put1 (hc c (by simp))) (fun d hd => hc d (by simp [hd])) hd2 (fun d hdm => by
        rw [Sm.meets_congr (Sm.put1_other (Ne.symm (hd1 d hdm)))]
        exact hm d (by simp [hdm])) hM hg
      exact ⟨e1, by rw [e2, List.any_cons, Bool.or_assoc]⟩
theorem apply_of {s : Sm.Sta} {q : Qry} {r : Rec} {x : Res × Bool} (hv : Em.valid q = true) (ho : Sm.Ok s) (hf : Sm.fits s r = true) (hx : apply q (Em.of s q) r.cs = some x) : x.1 = Em.of (Sm.apply s r) q ∧ x.2 = r.cs.any (touches q) := by
  have hf' := hf
  simp only [Sm.fits, Bool.and_eq_true, decide_eq_true_eq] at hf'
  obtain ⟨h1, h2⟩ := Rw.valid_all hf'.1.1
  have hg := go_of hv r.cs (s' := Sm.apply s r) (.of ho) h1 h2 (Sm.fitsGo_meets _ _ _ hf'.2) (by unfold Sm.apply; rw [if_pos hf]) hx
  exact ⟨hg.1, by rw [hg.2]; rfl⟩
/-- What does not touch, and what is not known. -/
theorem go_none {q : Qry} : ∀ (cs : List Chg) (r : Res) (t : Bool), go q cs r t = none → cs.any (touches q) = true
  | [], _, _, h => by cases h
  | c :: cs, r, t, h => by
    unfold go at h
    rw [List.any_cons]
    cases hp : patch q r c with
    | none =>
      unfold patch at hp
      split at hp
      · rename_i ht
        rw [ht]
        rfl
      · cases hp
    | some r' =>
      rw [hp] at h
      rw [go_none cs _ _ h, Bool.or_true]
theorem go_still {q : Qry} : ∀ (cs : List Chg) (r : Res) (t : Bool), cs.any (touches q) = false → go q cs r t = some (r, t)
  | [], _, _, _ => rfl
  | c :: cs, r, t, h => by
    rw [List.any_cons, Bool.or_eq_false_iff] at h
    unfold go patch
    rw [h.1, if_neg (by simp)]
    dsimp only
    rw [Bool.or_false]
    exact go_still cs r t h.2
end Pm
end Go.Proofs.YtciaallekkdnhaaGreat
namespace Go.Proofs.YtciaallekkdnhaaGreat
open Go.RowKit

namespace Em
theorem of_bounds {s : Sm.Sta} (ho : Sm.Ok s) (hs : Sm.Sound s) (q : Qry) : (of s q).rows.length ≤ 4000 ∧ -2000000000000 ≤ (of s q).value ∧ (of s q).value ≤ 2000000000000 := by
  have hl := scan_len ho q
  have hm : ∀ x ∈ meas q (scan s q), -1000000000 ≤ x ∧ x ≤ 1000000000 := fun x hx => by
    unfold meas at hx
    obtain ⟨r, hr, rfl⟩ := List.mem_map.1 hx
    exact RowV.value_bounds (scan_mem hs hr) _
  cases hv : valid q with
  | false =>
    have e : of s q = ⟨[], 0, false⟩ := res_bad hv
    rw [e]
    simp
  | true =>
    have hk := Pm.kind_of hv
    by_cases k3 : q.kind = 3
    · rw [of_count hv k3]
      dsimp only [List.length_nil]
      omega
    by_cases k4 : q.kind = 4
    · rw [of_sum hv k4]
      have h1 := tot_bound 1000000000 _ hm
      have h2 : (meas q (scan s q)).length = (scan s q).length := by unfold meas; simp
      rw [h2] at h1
      dsimp only [List.length_nil]
      omega
    by_cases k5 : q.kind = 5
    · obtain ⟨v, f, e, hx⟩ := of_min (s := s) hv k5
      rw [e]
      dsimp only [List.length_nil]
      by_cases hn : meas q (scan s q) = []
      · have := hx.none hn
        omega
      · have := hm _ (hx.mem hn)
        omega
    by_cases k6 : q.kind = 6
    · obtain ⟨v, f, e, hx⟩ := of_max (s := s) hv k6
      rw [e]
      dsimp only [List.length_nil]
      by_cases hn : meas q (scan s q) = []
      · have := hx.none hn
        omega
      · have := hm _ (hx.mem hn)
        omega
    by_cases k7 : q.kind = 7
    · rw [of_join hv k7]
      have h1 := joined_len q (tab s q.other) (scan s q)
      dsimp only
      omega
    · rw [of_rows hv (by omega)]
      dsimp only
      omega
end Em
theorem OwnR.keepS {w w' : World} {v : Value} {out : List Rec} {b m : Nat} {s : Sm.Sta} (h : OwnR w v out) (hs : StaAt w b m s) (hf : Fr [b, m] w w') : OwnR w' v out := by
  obtain ⟨us, h1, _⟩ := id h
  exact h.fr hf (fun g hg => by
    have e1 := h1.ne hs.blk (by decide) hg
    have e2 := h1.ne_map hs.map hg
    simp [e1, e2]) (NoC.cons (noC_blk hs.blk (by decide)) (NoC.cons (noC_map hs.map) NoC.nil))
/-- Between two records. -/
structure PgAt (w0 wr : World) (bs ms gq : Nat) (l : List Rec) (A2 : Option Addr) (n2 c2 : Nat) (q : Qry) (s : Sm.Sta) : Prop where
  sta : StaAt wr bs ms s
  row : OwnR wr (.slice A2 n2 c2) l
  q : QAt wr gq q
  fr : Fr [] w0 wr
  new : w0.heap.size ≤ bs ∧ w0.heap.size ≤ ms
section
variable {w0 wr w' : World} {bs ms gq : Nat} {l : List Rec} {A2 : Option Addr} {n2 c2 : Nat} {q : Qry} {s : Sm.Sta}
theorem PgAt.fr0 (h : PgAt w0 wr bs ms gq l A2 n2 c2 q s) (hf : Fr [] wr w') : PgAt w0 w' bs ms gq l A2 n2 c2 q s :=
  ⟨h.sta.fr0 hf, h.row.keep0 hf, h.q.fr hf (by simp), h.fr.trans hf, h.new⟩
theorem PgAt.nq (h : PgAt w0 wr bs ms gq l A2 n2 c2 q s) : gq ∉ [bs, ms] := by
  have h1 : gq ≠ bs := Blk.ne h.q h.sta.blk (by decide)
  have h2 : ms ≠ gq := h.sta.map.ne h.q
  simp [h1, Ne.symm h2]
theorem PgAt.recs (h : PgAt w0 wr bs ms gq l A2 n2 c2 q s) : RecsAt wr A2 l ∧ n2 = l.length ∧ l.length ≤ c2 := by
  obtain ⟨h1, h2⟩ := h.row.recs
  refine ⟨h1, h2, ?_⟩
  subst h2
  exact h.row.cap
theorem PgAt.apply (h : PgAt w0 wr bs ms gq l A2 n2 c2 q s) {r : Rec} {A : Option Addr} {n cap : Nat} {p : Int} (hc : HoldsC wr A r.cs) (hlen : r.cs.length ≤ 8) (hn : n = r.cs.length) (hp : p = r.p) (hf : Sm.fits s r = true) :
    Calls Tryz.prog 30 #[.pointer (some ⟨bs, 0, none⟩), .agg #[.int .i64 p, .slice A n cap]] wr fun e w' => e = .returned (.int .i64 0) ∧ PgAt w0 w' bs ms gq l A2 n2 c2 q (Sm.apply s r) ∧ Fr [bs, ms] wr w' := by
  refine (sapply_n bs ms s r A n cap p wr h.sta hc hlen hn hp).mono ?_
  rintro e w' ⟨he, h1, h2⟩
  rw [Lg.code_zero.2 hf] at he
  exact ⟨he, ⟨h1, h.row.keepS h.sta h2, h.q.fr h2 h.nq, h.fr.trans' h2 (fun x hx => .inr (by
    simp only [List.mem_cons, List.not_mem_nil, or_false] at hx
    have := h.new
    rcases hx with rfl | rfl <;> omega)), h.new⟩, h2⟩
end
/-- Rows stay where a state changes. -/
theorem AtL.frS {w w' : World} {A : Option Addr} {L : List RowV} {bs ms : Nat} {s : Sm.Sta} (h : AtL RowV.cells 5 w A L) (hs : StaAt w bs ms s) (hf : Fr [bs, ms] w w') : AtL RowV.cells 5 w' A L := by
  intro hl
  obtain ⟨b, off, e, hlt, hc⟩ := h hl
  have h4 := hc 0 hl 4 (by decide)
  have hs4 : (RowV.cells L[0])[4]? = some (.int .i64 L[0].z) := rfl
  rw [hs4] at h4
  have h1 : b ≠ bs := by
    rintro rfl
    rw [hs.blk.cell] at h4
    have : (off + 0 * 5 + 4) < 2 := by
      have h5 := Array.getElem?_eq_some_iff.1 h4
      exact h5.1
    omega
  have h2 : b ≠ ms := by
    rintro rfl
    obtain ⟨es, clock, hm, -⟩ := hs.map
    have h5 : w.cell? ⟨b, off + 0 * 5 + 4, none⟩ = none := by
      unfold World.cell?
      simp [hm]
    rw [h5] at h4
    cases h4
  exact ⟨b, off, e, Nat.lt_of_lt_of_le hlt hf.size, fun i hi j hj => (hf.cell hlt (by simp [h1, h2])).trans (hc i hi j hj)⟩
/-- A result in memory. -/
structure RvAt (wr : World) (g : Nat) (A : Option Addr) (n c : Nat) (r : Res) : Prop where
  blk : R7At wr g (.slice A n c) r.value r.found
  rows : AtL RowV.cells 5 wr A r.rows
  len : n = r.rows.length
theorem RvAt.fr0 {w w' : World} {g : Nat} {A : Option Addr} {n c : Nat} {r : Res} (h : RvAt w g A n c r) (hf : Fr [] w w') : RvAt w' g A n c r :=
  ⟨h.blk.fr hf (by simp), h.rows.fr0 hf, h.len⟩
theorem RvAt.frS {w w' : World} {g : Nat} {A : Option Addr} {n c : Nat} {r : Res} {bs ms : Nat} {s : Sm.Sta} (h : RvAt w g A n c r) (hs : StaAt w bs ms s) (hf : Fr [bs, ms] w w') : RvAt w' g A n c r :=
  ⟨h.blk.fr hf (by
    have h1 : g ≠ bs := Blk.ne h.blk hs.blk (by decide)
    have h2 : ms ≠ g := hs.map.ne h.blk
    simp [h1, Ne.symm h2]), h.rows.frS hs hf, h.len⟩
/-- The result of a query, its rows laid. -/
structure RwAt (w0 wr : World) (A : Option Addr) (n : Nat) (r : Res) : Prop where
  rows : AtL RowV.cells 5 wr A r.rows
  len : n = r.rows.length
  fr : Fr [] w0 wr
  new : ∀ ad, A = some ad → w0.heap.size ≤ ad.block
theorem PgAt.of {w0 wr : World} {bs ms gq : Nat} {l : List Rec} {A2 : Option Addr} {n2 c2 : Nat} {q : Qry} {s : Sm.Sta} (h : PgAt w0 wr bs ms gq l A2 n2 c2 q s) (hs : Sm.Sound s) (hv : Em.valid q = true) :
    Calls Tryz.prog 31 #[.pointer (some ⟨bs, 0, none⟩), q.val] wr fun e w' => ∃ A n c, e = .returned (.tuple #[.agg #[.slice A n c, .int .i64 (Em.of s q).value, .bool (Em.of s q).found], .int .i64 0]) ∧ RwAt wr w' A n (Em.of s q) := by
  refine (eof_any bs ms s q wr h.sta hs).mono ?_
  rintro e w' ⟨v, rfl, hr⟩
  have hc : Em.code q = 0 := by unfold Em.code; rw [hv]; rfl
  obtain ⟨A, n, c, hv5⟩ : ∃ A n c, v = .slice A n c := (match hr.own.val with | ⟨_, _, hv⟩ => ⟨_, _, _, hv⟩)
  subst hv5
  have h1 := OwnL.rowsAt hr.own
  exact ⟨A, n, c, by rw [hc], h1.1, h1.2, hr.fr, fun ad e => by
    subst e
    exact hr.new ad.block rfl⟩
/-- The box of a result that has been laid. -/
theorem RvAt.of {w0 wr : World} {A : Option Addr} {n c : Nat} {r : Res} (h : RwAt w0 wr A n r) : RvAt (wr.alloc (.cells #[.slice A n c, .int .i64 r.value, .bool r.found] 71)) wr.heap.size A n c r :=
  ⟨R7At.new wr _ _ _, h.rows.fr0 ((Fr.refl [] wr).alloc _), h.len⟩
/-- What Apply gives. -/
def AOut (J : Option (Res × Bool)) (r : Res) (t k : Bool) : Prop := (k = true ∧ J = some (r, t)) ∨ (k = false ∧ J = none ∧ t = true ∧ r = ⟨[], 0, false⟩)
/-- A result that Apply has laid. -/
structure ApAt (w w' : World) (J : Option (Res × Bool)) (A : Option Addr) (n : Nat) (r : Res) (t k : Bool) (b : Nat) : Prop where
  out : AOut J r t k
  rows : AtL RowV.cells 5 w' A r.rows
  len : n = r.rows.length
  le : n ≤ b
  fr : Fr [] w w'
theorem RvAt.ofA {w0 wr : World} {J : Option (Res × Bool)} {A : Option Addr} {n c b : Nat} {r : Res} {t k : Bool} (h : ApAt w0 wr J A n r t k b) : RvAt (wr.alloc (.cells #[.slice A n c, .int .i64 r.value, .bool r.found] 71)) wr.heap.size A n c r :=
  ⟨R7At.new wr _ _ _, h.rows.fr0 ((Fr.refl [] wr).alloc _), h.len⟩
/-- The box was laid ahead of the call. -/
theorem RvAt.ofB {w0 wz : World} {J : Option (Res × Bool)} {A : Option Addr} {n c b g : Nat} {r : Res} {t k : Bool} {v : Value} {m : Int} {f : Bool} (h : ApAt w0 wz J A n r t k b) (hb : Blk wz g 71 #[v, .int .i64 m, .bool f]) :
    RvAt (((wz.setCell ⟨g, 0, none⟩ (.slice A n c)).setCell ⟨g, 1, none⟩ (.int .i64 r.value)).setCell ⟨g, 2, none⟩ (.bool r.found)) g A n c r ∧ Fr [g] wz (((wz.setCell ⟨g, 0, none⟩ (.slice A n c)).setCell ⟨g, 1, none⟩ (.int .i64 r.value)).setCell ⟨g, 2, none⟩ (.bool r.found)) := by
  obtain ⟨h1, h2⟩ := set3 (v' := .slice A n c) (m' := r.value) (f' := r.found) hb
  exact ⟨⟨h1, h.rows.ne_small hb (by simp) h2, h.len⟩, h2⟩
/-- One result put in the place of another. -/
theorem RvAt.put {w : World} {g : Nat} {A : Option Addr} {n c : Nat} {r : Res} {g' : Nat} {A' : Option Addr} {n' c' : Nat} {r' : Res} (h : RvAt w g A n c r) (hr : RvAt w g' A' n' c' r') :
    RvAt (((w.setCell ⟨g, 0, none⟩ (.slice A' n' c')).setCell ⟨g, 1, none⟩ (.int .i64 r'.value)).setCell ⟨g, 2, none⟩ (.bool r'.found)) g A' n' c' r' ∧ Fr [g] w (((w.setCell ⟨g, 0, none⟩ (.slice A' n' c')).setCell ⟨g, 1, none⟩ (.int .i64 r'.value)).setCell ⟨g, 2, none⟩ (.bool r'.found)) := by
  obtain ⟨h1, h2⟩ := set3 (v' := .slice A' n' c') (m' := r'.value) (f' := r'.found) h.blk
  exact ⟨⟨h1, hr.rows.ne_small h.blk (by simp) h2, hr.len⟩, h2⟩
theorem RvAt.frG {w w' : World} {g : Nat} {A : Option Addr} {n c : Nat} {r : Res} {g' : Nat} {A' : Option Addr} {n' c' : Nat} {r' : Res} (h : RvAt w g A n c r) (hr : RvAt w g' A' n' c' r') (hf : Fr [g'] w w') (hne : g ≠ g') : RvAt w' g A n c r :=
  ⟨h.blk.fr hf (by simp [hne]), h.rows.ne_small hr.blk (by simp) hf, h.len⟩
/-- The log's record at an index: its cells and its changes. -/
theorem PgAt.open_ {w0 wr : World} {bs ms gq : Nat} {l : List Rec} {A2 : Option Addr} {n2 c2 : Nat} {q : Qry} {s : Sm.Sta} (h : PgAt w0 wr bs ms gq l A2 n2 c2 q s) {k : Nat} (hk : k < l.length) :
    ∃ bb off Ak ck, A2 = some ⟨bb, off, none⟩ ∧ bb < wr.heap.size ∧ wr.cell? ⟨bb, off + k * 2, none⟩ = some (.int .i64 l[k].p) ∧ wr.cell? ⟨bb, off + k * 2 + 1, none⟩ = some (.slice Ak l[k].cs.length ck) ∧ HoldsC wr Ak l[k].cs ∧ l[k].cs.length ≤ 8 := h.recs.1.open_ hk
end Go.Proofs.YtciaallekkdnhaaGreat
namespace Go.Proofs.YtciaallekkdnhaaGreat
open Go.RowKit

namespace Pm
/-- What Apply gives for the result of a query. -/
theorem patched {s : Sm.Sta} {q : Qry} {r : Rec} {R R' N : Res} {t k : Bool} (hv : Em.valid q = true) (ho : Sm.Ok s) (hf : Sm.fits s r = true) (hR : Em.of s q = R) (hN : Em.of (Sm.apply s r) q = N) (h : AOut (Pm.apply q R r.cs) R' t k) :
    (k = true → R' = N) ∧ (k = false → t = true ∧ R' = ⟨[], 0, false⟩) ∧ (t = false → R = R') ∧ t = r.cs.any (touches q) := by
  subst hR hN
  rcases h with ⟨rfl, h⟩ | ⟨rfl, h, rfl, rfl⟩
  · obtain ⟨h1, h2⟩ := apply_of hv ho hf h
    dsimp only at h1 h2
    refine ⟨fun _ => h1, fun h => (by cases h), fun ht => ?_, h2⟩
    rw [ht] at h2
    have h3 := go_still r.cs (Em.of s q) false h2.symm
    unfold apply at h
    rw [h3] at h
    injection h with h
    injection h
  · exact ⟨fun h => (by cases h), fun _ => ⟨rfl, rfl⟩, fun h => (by cases h), (go_none r.cs _ _ h).symm⟩
end Pm

end Go.Proofs.YtciaallekkdnhaaGreat

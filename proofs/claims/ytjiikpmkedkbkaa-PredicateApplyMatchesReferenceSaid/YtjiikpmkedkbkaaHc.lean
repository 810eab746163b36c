/-
  The reference of a state: Rows.
-/
import Derived.Test.YtjiikpmkedkbkaaHa
import Derived.Test.YtjiikpmkedkbkaaHb
import Derived.Test.YtjiikpmkedkbkaaGap
import Derived.StillTailTactics
import Derived.Test.YtjiikpmkedkbkaaGaf
import Derived.Test.YtjiikpmkedkbkaaGal
import Derived.Test.YtjiikpmkedkbkaaGae
namespace Go.Proofs.Ytjiikpmkedkbkaa
open Go.RowKit Go.Sort

instance : Inhabited RowV := ⟨⟨0, 0, 0, 0, 0⟩⟩

theorem cmpI_spec (x y : Int) : (cmpI x y = -1 ∧ x < y) ∨ (cmpI x y = 1 ∧ y < x) ∨ (cmpI x y = 0 ∧ x = y) := by
  unfold cmpI
  split
  · exact .inl ⟨rfl, by assumption⟩
  · split
    · exact .inr (.inl ⟨rfl, by assumption⟩)
    · exact .inr (.inr ⟨rfl, by omega⟩)
/-- A row stands ahead of another. -/
def ahead2 (c : Int) (a b : RowV) : Prop := a.value c < b.value c ∨ (a.value c = b.value c ∧ a.k < b.k)
theorem cmpRow_neg (c : Int) (a b : RowV) : ltOf (cmpRow c) a b = true ↔ ahead2 c a b := by
  unfold ltOf cmpRow ahead2
  rw [decide_eq_true_eq]
  rcases cmpI_spec (a.value c) (b.value c) with ⟨h1, h2⟩ | ⟨h1, h2⟩ | ⟨h1, h2⟩
  · rw [h1]; simp; omega
  · rw [h1]; simp; omega
  · rw [h1, if_pos rfl]
    rcases cmpI_spec a.k b.k with ⟨h3, h4⟩ | ⟨h3, h4⟩ | ⟨h3, h4⟩ <;> rw [h3] <;> simp <;> omega
theorem swoRow (c : Int) : SWO (ltOf (cmpRow c)) where
  irrefl x := by
    rw [Bool.eq_false_iff]
    intro h
    have := (cmpRow_neg c x x).1 h
    unfold ahead2 at this
    omega
  trans x y z h1 h2 := by
    have h1 := (cmpRow_neg c x y).1 h1
    have h2 := (cmpRow_neg c y z).1 h2
    refine (cmpRow_neg c x z).2 ?_
    unfold ahead2 at *
    omega
  ntrans x y z h1 h2 := by
    rw [Bool.eq_false_iff] at h1 h2 ⊢
    intro h3
    have h3 := (cmpRow_neg c x z).1 h3
    have h1 : ¬ ahead2 c x y := fun h => h1 ((cmpRow_neg c x y).2 h)
    have h2 : ¬ ahead2 c y z := fun h => h2 ((cmpRow_neg c y z).2 h)
    unfold ahead2 at *
    omega

theorem Iter.ne_own {K V X : Type} {P : Program} {k : TypeId} {kl : K → Lit} {ev : V → Value} {w : World} {b r e size : Nat} {M rest : List (K × V)} {enc : X → List Value} {v : Value} {L : List X} (h : Iter P k kl ev w b r M rest) (ho : OwnL e size enc w v L) {g : Nat} (hg : v.ownBlock = some g) : r ≠ g := by
  rcases ho.2 with ⟨rfl, _⟩ | ⟨g', cap, cur, rfl, _, hh, _⟩
  · simp [Value.ownBlock] at hg
  · simp [Value.ownBlock] at hg
    subst hg
    exact h.ne_cells hh
end Go.Proofs.Ytjiikpmkedkbkaa
namespace Go.Proofs.Ytjiikpmkedkbkaa
open Go.RowKit Go.Sort

def inTab (t : Int) (r : RowV) : Bool := decide (r.t = t)
def inRng (t c lo hi : Int) (r : RowV) : Bool := decide (r.t = t) && (decide (lo ≤ r.value c) && decide (r.value c ≤ hi))

/-- What Rows and Range hand out. -/
structure Picked (s : Sm.Sta) (c : Int) (p : RowV → Bool) (R : List RowV) : Prop where
  perm : R.Perm ((s.M.map (·.2)).filter p)
  srt : R.Pairwise (fun x y => ¬ ahead2 c y x)

end Go.Proofs.Ytjiikpmkedkbkaa
namespace Go.Proofs.Ytjiikpmkedkbkaa

theorem ahead2_total {c : Int} {a b : RowV} (h1 : ¬ ahead2 c a b) (h2 : ¬ ahead2 c b a) : a.value c = b.value c ∧ a.k = b.k := by
  unfold ahead2 at h1 h2
  omega
theorem ahead2_irrefl {c : Int} {a : RowV} : ¬ ahead2 c a a := by
  unfold ahead2
  omega
theorem ahead2_asymm {c : Int} {a b : RowV} (h : ahead2 c a b) : ¬ ahead2 c b a := by
  unfold ahead2 at *
  omega
/-- Rows of one table are told apart by their keys. -/
def KeyApart (R : List RowV) : Prop := ∀ a ∈ R, ∀ b ∈ R, a.k = b.k → a = b
theorem picked_uniq : ∀ {R R' : List RowV} {c : Int}, R.Perm R' → KeyApart R → R.Pairwise (fun x y => ¬ ahead2 c y x) → R'.Pairwise (fun x y => ¬ ahead2 c y x) → R = R'
  | [], R', _, hp, _, _, _ => by rw [hp.nil_eq]
  | a :: R, [], _, hp, _, _, _ => by have := hp.length_eq; simp at this
  | a :: R, b :: R', c, hp, hk, h1, h2 => by
    obtain ⟨h3, h4⟩ := List.pairwise_cons.1 h1
    obtain ⟨h5, h6⟩ := List.pairwise_cons.1 h2
    have hb : b ∈ a :: R := hp.mem_iff.2 (by simp)
    have ha : a ∈ b :: R' := hp.mem_iff.1 (by simp)
    have e : a = b := by
      rcases List.mem_cons.1 ha with e | ha
      · exact e
      · rcases List.mem_cons.1 hb with e | hb
        · exact e.symm
        · exact hk a (by simp) b (by simp [hb]) (ahead2_total (h5 a ha) (h3 b hb)).2
    subst e
    rw [picked_uniq hp.cons_inv (fun x hx y hy => hk x (by simp [hx]) y (by simp [hy])) h4 h6]
theorem keyApart_filter {s : Sm.Sta} (h : Sm.Ok s) (t : Int) {p : RowV → Bool} (hp : ∀ r, p r = true → r.t = t) : KeyApart ((s.M.map (·.2)).filter p) := by
  intro a ha b hb hk
  obtain ⟨ha1, ha2⟩ := List.mem_filter.1 ha
  obtain ⟨hb1, hb2⟩ := List.mem_filter.1 hb
  obtain ⟨⟨i, a'⟩, hia, rfl⟩ := List.mem_map.1 ha1
  obtain ⟨⟨j, b'⟩, hjb, rfl⟩ := List.mem_map.1 hb1
  dsimp only at hk ha2 hb2 ⊢
  have e1 := h.key _ hia
  have e2 := h.key _ hjb
  dsimp only at e1 e2
  have hij : i = j := Subtype.ext (by rw [e1, e2, hp _ ha2, hp _ hb2, hk])
  subst hij
  have h1 := (mget_iff h.nd).2 hia
  have h2 := (mget_iff h.nd).2 hjb
  rw [h1] at h2
  exact Option.some.inj h2
theorem Picked.uniq {s : Sm.Sta} {c t : Int} {p : RowV → Bool} {R R' : List RowV} (h : Picked s c p R) (h' : Picked s c p R') (ho : Sm.Ok s) (hp : ∀ r, p r = true → r.t = t) : R = R' :=
  picked_uniq (h.perm.trans h'.perm.symm) (fun a ha b hb => keyApart_filter ho t hp a (h.perm.mem_iff.1 ha) b (h.perm.mem_iff.1 hb)) h.srt h'.srt
theorem inTab_t {t : Int} (r : RowV) (h : inTab t r = true) : r.t = t := by simpa [inTab] using h
theorem inRng_t {t c lo hi : Int} (r : RowV) (h : inRng t c lo hi r = true) : r.t = t := by
  simp only [inRng, Bool.and_eq_true, decide_eq_true_eq] at h
  exact h.1
theorem value_zero (r : RowV) : r.value 0 = r.k := rfl
/-- The rows of a table in the reference's list are the rows that are picked. -/
theorem picked_filter {s : Sm.Sta} {L : List RowV} (h : Sm.Sim s.M L) (t : Int) : Picked s 0 (inTab t) (L.filter (inTab t)) := by
  refine ⟨h.perm.filter _, ?_⟩
  refine List.Pairwise.imp_of_mem (fun {a b} ha hb hab => ?_) (List.Pairwise.filter _ h.srt)
  have e1 := inTab_t a (List.mem_filter.1 ha).2
  have e2 := inTab_t b (List.mem_filter.1 hb).2
  unfold ahead2
  rw [value_zero, value_zero]
  omega
/-- A row is inserted behind those whose values are not greater. -/
theorem insert_srt {c : Int} {R : List RowV} {x : RowV} {k : Nat} (h : R.Pairwise (ahead2 c)) (hlo : ∀ i (hi : i < R.length), i < k → R[i].value c ≤ x.value c) (hhi : ∀ i (hi : i < R.length), k ≤ i → x.value c < R[i].value c) (hk : ∀ a ∈ R, a.k < x.k) :
    (R.take k ++ x :: R.drop k).Pairwise (ahead2 c) := by
  have h' := h
  rw [← List.take_append_drop k R, List.pairwise_append] at h'
  obtain ⟨h1, h2, h3⟩ := h'
  rw [List.pairwise_append]
  refine ⟨h1, List.pairwise_cons.2 ⟨fun b hb => ?_, h2⟩, fun a ha b hb => ?_⟩
  · obtain ⟨i, hi, rfl⟩ := List.getElem_of_mem hb
    rw [List.length_drop] at hi
    rw [List.getElem_drop]
    exact .inl (hhi (k + i) (by omega) (by omega))
  · rcases List.mem_cons.1 hb with rfl | hb
    · obtain ⟨i, hi, rfl⟩ := List.getElem_of_mem ha
      rw [List.length_take] at hi
      rw [List.getElem_take]
      have e1 := hlo i (by omega) (by omega)
      have e2 := hk _ (List.getElem_mem (show i < R.length by omega))
      unfold ahead2
      omega
    · exact h3 a ha b hb
theorem insert_perm {R : List RowV} {x : RowV} (k : Nat) : (R.take k ++ x :: R.drop k).Perm (R ++ [x]) := by
  refine List.perm_middle.trans ?_
  rw [List.take_append_drop]
  exact (List.perm_append_singleton x R).symm
end Go.Proofs.Ytjiikpmkedkbkaa
namespace Go.Proofs.Ytjiikpmkedkbkaa
open Go.RowKit

/-- At the head of each round: the rows chosen so far. -/
structure PkRel (w wr : World) (v : Value) (R : List RowV) : Prop where
  row : RowsOwn wr v R
  fr : Fr [] w wr
  own : ∀ g, v.ownBlock = some g → w.heap.size ≤ g

set_option maxRecDepth 100000 in
set_option maxHeartbeats 4000000 in
theorem rfrows_any (b : Nat) (v : Value) (L : List RowV) (s : Sm.Sta) (t : Int) (w : World) (h : RfAt w b v L s) :
    Calls Try.prog 42 #[.pointer (some ⟨b, 0, none⟩), .int .i64 t] w fun e w' => ∃ v', e = .returned v' ∧ RowsOwn w' v' (L.filter (inTab t)) ∧ Fr [] w w' ∧ ∀ g, v'.ownBlock = some g → w.heap.size ≤ g := by
  obtain ⟨A, cap, hv⟩ := h.row.val
  subst hv
  have hlen : L.length ≤ 2000 := by rw [h.sim.len]; exact h.ok.len
  have H := Lib.hid h
  have HFM := Lib.hid (fun (h0 : 0 < L.length) => h.row.form RowV.cells_len h0)
  have P0 : Hid (PkRel w w (.slice none 0 0) ((L.take 0).filter (inTab t))) := Lib.hid ⟨OwnL.nil, Fr.refl _ _, fun g hg => by simp [Value.ownBlock] at hg⟩
  obtain ⟨i0, TR⟩ := etRow
  clear h
  go_enter Try.func42, Try.ntmps42
  go_wp2_with fail
  go_loopw [5, 6] (fun vo i wr => ∃ (k : Nat) (Ao : Option Addr) (no co : Nat), vo = .slice Ao no co ∧ i = .int .i64 k ∧ k ≤ L.length ∧ Hid (PkRel w wr (.slice Ao no co) ((L.take k).filter (inTab t)))) (fun _ i _ => L.length - (intOf i).toNat)
  case atStart => exact ⟨0, none, 0, 0, rfl, rfl, Nat.zero_le _, P0⟩
  case round =>
    clear P0
    obtain ⟨k, Ao, no, co, rfl, rfl, hk, R⟩ := hrel
    have hb : wr.cell? ⟨b, 0, none⟩ = some (.slice A L.length cap) := (H.out.blk.fr R.out.fr (by simp)).cell 0
    by_cases hlt : k < L.length
    · obtain ⟨gR, cap', hA, hlc, hcm, hgl, hcell, hfz⟩ := HFM.out (by omega)
      cases hA
      have hck := Lib.hid (fun j (hj : j < 5) => (R.out.fr.cell (p := ⟨gR, k * 5 + j, none⟩) hgl (by simp)).trans (hcell k hlt j hj))
      have htk : (L.take (k + 1)).filter (inTab t) = (L.take k).filter (inTab t) ++ (if inTab t L[k] = true then [L[k]] else []) := by
        rw [List.take_succ_eq_append_getElem hlt, List.filter_append]
        congr 1
        by_cases e : inTab t L[k] = true
        · rw [if_pos e, List.filter_cons_of_pos e]; rfl
        · rw [if_neg e, List.filter_cons_of_neg e]; rfl
      have HTK := Lib.hid htk
      have hll : Hid (((L.take k).filter (inTab t)).length + 1 ≤ 2010) := Lib.hid (by
        have := List.length_filter_le (inTab t) (L.take k)
        rw [List.length_take] at this
        omega)
      clear htk hcell hfz
      generalize L[k] = x at *
      obtain ⟨xt, xk, xa, xb, xc⟩ := x
      have x0 : wr.cell? ⟨gR, k * 5, none⟩ = some (.int .i64 xt) := hck.out 0 (by decide)
      have x1 : wr.cell? ⟨gR, k * 5 + 1, none⟩ = some (.int .i64 xk) := hck.out 1 (by decide)
      have x2 : wr.cell? ⟨gR, k * 5 + 2, none⟩ = some (.int .i64 xa) := hck.out 2 (by decide)
      have x3 : wr.cell? ⟨gR, k * 5 + 3, none⟩ = some (.int .i64 xb) := hck.out 3 (by decide)
      have x4 : wr.cell? ⟨gR, k * 5 + 4, none⟩ = some (.int .i64 xc) := hck.out 4 (by decide)
      clear hck
      by_cases e : xt = t
      · have e' : (xt == t) = true := by simpa using e
        have HTK2 : Hid ((L.take (k + 1)).filter (inTab t) = (L.take k).filter (inTab t) ++ [⟨xt, xk, xa, xb, xc⟩]) := Lib.hid (by rw [HTK.out, if_pos (by simp [inTab, e])])
        clear e HTK
        go_wp2_with (at_builtin; refine wpList_appendL rfl _ _ rfl TR RowV.cells_len RowV.cells_one rfl (R.out.row.fr ((Fr.refl [] wr).alloc (.cells #[.int .i64 xt, .int .i64 xk, .int .i64 xa, .int .i64 xb, .int .i64 xc] 57)) (by simp)) (wr.heap.size + 1) _ _ _ [(⟨xt, xk, xa, xb, xc⟩ : RowV)] rfl rfl (reads_new (enc := RowV.cells) wr 57 ⟨xt, xk, xa, xb, xc⟩ rfl) (Nat.le_trans hll.out (by decide)) (Nat.le_trans (Nat.mul_le_mul_right 40 hll.out) (by decide)) ?_; intro v5 w5 hrow5 (hg5 : World.grownBy _ w5 (Value.slice Ao no co).ownBlock) hat5; have HR5 := Lib.hid hrow5; have HG5 := Lib.hid hg5; have HA5 := Lib.hid hat5; obtain ⟨A5, n5, cap5, hv5⟩ : ∃ A n c, v5 = .slice A n c := (match hrow5.val with | ⟨_, _, hv⟩ => ⟨_, _, _, hv⟩); subst hv5; clear hrow5 hg5 hat5)
        have R2 : Hid (PkRel w w5 (.slice A5 n5 cap5) ((L.take (k + 1)).filter (inTab t))) := Lib.hid ⟨by rw [HTK2.out]; exact HR5.out, (R.out.fr.alloc _).grown HG5.out (fun g hg => .inr (R.out.own g hg)), fun g hg => by
          rcases HA5.out with h1 | h1
          · exact R.out.own g (h1 ▸ hg)
          · rw [h1] at hg
            injection hg with hg
            rw [World.size_alloc] at hg
            have := R.out.fr.size
            omega⟩
        go_roundw
        case rel => exact ⟨k + 1, A5, n5, cap5, rfl, by go_num, by omega, R2⟩
        case measure => simp [intOf]; omega
      · have e' : (xt == t) = false := by simpa using e
        have R2 : Hid (PkRel w wr (.slice Ao no co) ((L.take (k + 1)).filter (inTab t))) := Lib.hid ⟨by rw [HTK.out, if_neg (by simp [inTab, e]), List.append_nil]; exact R.out.row, R.out.fr, R.out.own⟩
        clear e HTK
        go_wp2_with fail
        go_roundw
        case rel => exact ⟨k + 1, Ao, no, co, rfl, by go_num, by omega, R2⟩
        case measure => simp [intOf]; omega
    · have hke : L.take k = L := List.take_of_length_le (by omega)
      rw [hke] at R
      clear hke
      go_wp2_with fail
      go_ret
      exact ⟨_, rfl, R.out.row, R.out.fr, R.out.own⟩
end Go.Proofs.Ytjiikpmkedkbkaa

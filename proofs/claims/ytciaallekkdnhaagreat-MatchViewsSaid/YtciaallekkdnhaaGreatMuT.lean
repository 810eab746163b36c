/-
  MatchViews: index, log, state and views together.
-/
import Derived.Test.YtciaallekkdnhaaGreatMuU
namespace Go.Proofs.YtciaallekkdnhaaGreat
open Go.RowKit

section
variable {w wr w' : World} {b m : Nat} {M : Mm.Ix} {D : List Nat} {v : Value} {qs : List Qry} {A2 : Option Addr} {n2 c2 : Nat} {l : List Rec} {bs ms : Nat} {s : Sm.Sta} {gv n1 : Nat} {vs : List VR}
theorem MnAt.match2 (h : MnAt w wr b m M D v qs A2 n2 c2 l bs ms s) (at_ : Int) (A : Option Addr) (N cap : Nat) (cs : List Chg) (hc : HoldsC wr A cs) (hN : N = cs.length) (hn8 : N ≤ 1000) (hcs : ∀ c ∈ cs, okI c.t ∧ ∀ r ∈ Mm.rows c, ∀ k, okI (r.value k)) :
    Calls Tryz.prog 22 #[.pointer (some ⟨b, 0, none⟩), .agg #[.int .i64 at_, .slice A N cap]] wr fun e w' => ∃ A' n' c' L, e = .returned (.slice A' n' c') ∧ OwnL 3 1 encJ w' (.slice A' n' c') L ∧ n' = L.length ∧ L = Mm.hits qs cs qs.length ∧ Fr [b] wr w' ∧ ∃ D', MnAt w w' b m M D' v qs A2 n2 c2 l bs ms s ∧ ∀ x ∈ D', x ∈ D ∨ wr.heap.size ≤ x := by
  refine (h.mg.match_ at_ A N cap cs hc hN hn8 hcs).mono ?_
  rintro e w' ⟨A', n', c', L, rfl, h1, h2, h3, hf, D', h5, h6⟩
  obtain ⟨lp, hb, -⟩ := h.mg.ix.blk
  have e1 : bs ≠ b := Blk.ne h.sta.blk hb (by decide)
  have e2 : ms ≠ b := h.sta.map.ne hb
  have l1 := h.sta.lt
  refine ⟨A', n', c', L, rfl, h1, h2, h3, hf, D', ⟨h5, h.sta.fr hf (by simp [e1]) (by simp [e2]), ⟨fun hx => ?_, fun hx => ?_⟩, h.new⟩, h6⟩
  · rcases h6 _ hx with h7 | h7
    · exact h.nd.1 h7
    · omega
  · rcases h6 _ hx with h7 | h7
    · exact h.nd.2 h7
    · omega
/-- A block that is none of theirs is written. -/
theorem MnAt.frG (h : MnAt w wr b m M D v qs A2 n2 c2 l bs ms s) {g : Nat} (hf : Fr [g] wr w') (hD : g ∉ D) (h1 : v.ownBlock ≠ some g) (h2 : (Value.slice A2 n2 c2).ownBlock ≠ some g) (h3 : NoC wr [g]) (h4 : bs ≠ g) (h5 : ms ≠ g) (h6 : w.heap.size ≤ g) : MnAt w w' b m M D v qs A2 n2 c2 l bs ms s := by
  refine ⟨⟨h.mg.ix.fr hf (fun x hx e => hD (by rw [List.mem_singleton] at e; rwa [← e])), fun x hx => ⟨(h.mg.dl x hx).1, Nat.lt_of_lt_of_le (h.mg.dl x hx).2 hf.size⟩, h.mg.is, h.mg.ok, h.mg.row.fr hf (fun x hx e => ?_), h.mg.log.fr hf (fun x hx e => ?_) h3, h.mg.fr.trans' hf (fun x hx => .inr (by rw [List.mem_singleton] at hx; rw [hx]; exact h6))⟩, h.sta.fr hf (by simpa using h4) (by simpa using h5), h.nd, h.new⟩
  · rw [List.mem_singleton] at e
    rw [e] at hx
    exact h1 hx
  · rw [List.mem_singleton] at e
    rw [e] at hx
    exact h2 hx
structure MvAt (w wr : World) (b m : Nat) (M : Mm.Ix) (D : List Nat) (v : Value) (qs : List Qry) (A2 : Option Addr) (n2 c2 : Nat) (l : List Rec) (bs ms : Nat) (s : Sm.Sta) (gv n1 : Nat) (vs : List VR) : Prop where
  mn : MnAt w wr b m M D v qs A2 n2 c2 l bs ms s
  vw : VwAt wr gv n1 vs
  ndv : gv ∉ D
  newv : w.heap.size ≤ gv
theorem VwAt.lt (h : VwAt wr gv n1 vs) : gv < wr.heap.size := h.own.lt VwAt.ob
theorem MvAt.fr0 (h : MvAt w wr b m M D v qs A2 n2 c2 l bs ms s gv n1 vs) (hf : Fr [] wr w') : MvAt w w' b m M D v qs A2 n2 c2 l bs ms s gv n1 vs := ⟨h.mn.fr0 hf, h.vw.fr0 hf, h.ndv, h.newv⟩
theorem MvAt.match_ (h : MvAt w wr b m M D v qs A2 n2 c2 l bs ms s gv n1 vs) (at_ : Int) (A : Option Addr) (N cap : Nat) (cs : List Chg) (hc : HoldsC wr A cs) (hN : N = cs.length) (hn8 : N ≤ 1000) (hcs : ∀ c ∈ cs, okI c.t ∧ ∀ r ∈ Mm.rows c, ∀ k, okI (r.value k)) :
    Calls Tryz.prog 22 #[.pointer (some ⟨b, 0, none⟩), .agg #[.int .i64 at_, .slice A N cap]] wr fun e w' => ∃ A' n' c' L, e = .returned (.slice A' n' c') ∧ OwnL 3 1 encJ w' (.slice A' n' c') L ∧ n' = L.length ∧ L = Mm.hits qs cs qs.length ∧ ∃ D', MvAt w w' b m M D' v qs A2 n2 c2 l bs ms s gv n1 vs := by
  refine (h.mn.match2 at_ A N cap cs hc hN hn8 hcs).mono ?_
  rintro e w' ⟨A', n', c', L, rfl, h1, h2, h3, hf, D', h5, h6⟩
  obtain ⟨lp, hb, -⟩ := h.mn.mg.ix.blk
  have hl := h.vw.lt
  refine ⟨A', n', c', L, rfl, h1, h2, h3, D', h5, h.vw.frB hb (h.vw.ne_blk hb (by decide)) (by simp) hf, fun hx => ?_, h.newv⟩
  rcases h6 _ hx with h7 | h7
  · exact h.ndv h7
  · omega
theorem MvAt.apply (h : MvAt w wr b m M D v qs A2 n2 c2 l bs ms s gv n1 vs) {r : Rec} {A : Option Addr} {n cap : Nat} {p : Int} (hc : HoldsC wr A r.cs) (hlen : r.cs.length ≤ 8) (hn : n = r.cs.length) (hp : p = r.p) (hf : Sm.fits s r = true) :
    Calls Tryz.prog 30 #[.pointer (some ⟨bs, 0, none⟩), .agg #[.int .i64 p, .slice A n cap]] wr fun e w' => e = .returned (.int .i64 0) ∧ MvAt w w' b m M D v qs A2 n2 c2 l bs ms (Sm.apply s r) gv n1 vs := by
  refine (h.mn.apply hc hlen hn hp hf).mono ?_
  rintro e w' ⟨he, h1, h2⟩
  exact ⟨he, h1, h.vw.frS h.mn.sta h2, h.ndv, h.newv⟩
/-- A box of a result is written. -/
theorem MvAt.box (h : MvAt w wr b m M D v qs A2 n2 c2 l bs ms s gv n1 vs) {g : Nat} {cs : Array Value} (hb : Blk wr g 71 cs) (hs : cs.size ≤ 4) (hf : Fr [g] wr w') (hD : g ∉ D) (hg : gv ≠ g) (hn : w.heap.size ≤ g) : MvAt w w' b m M D v qs A2 n2 c2 l bs ms s gv n1 vs := by
  obtain ⟨us, h1, -⟩ := id h.mn.mg.log
  exact ⟨h.mn.frG hf hD (fun e => h.mn.mg.row.ne hb (by decide) e rfl) (fun e => h1.ne hb (by decide) e rfl) (NoC.cons (noC_blk hb (by decide)) NoC.nil) (Blk.ne h.mn.sta.blk hb (by decide)) (h.mn.sta.map.ne hb) hn, h.vw.frB hb hg hs hf, h.ndv, h.newv⟩
/-- A view is set. -/
theorem MvAt.set (h : MvAt w wr b m M D v qs A2 n2 c2 l bs ms s gv n1 vs) {i : Nat} (hi : i < n1) (x : VR) (hx : AtL RowV.cells 5 wr x.A x.r.rows ∧ x.n = x.r.rows.length) :
    MvAt w (((wr.setCell ⟨gv, i * 3, none⟩ (.slice x.A x.n x.c)).setCell ⟨gv, i * 3 + 1, none⟩ (.int .i64 x.r.value)).setCell ⟨gv, i * 3 + 2, none⟩ (.bool x.r.found)) b m M D v qs A2 n2 c2 l bs ms s gv n1 (vs.set i x) ∧ Fr [gv] wr (((wr.setCell ⟨gv, i * 3, none⟩ (.slice x.A x.n x.c)).setCell ⟨gv, i * 3 + 1, none⟩ (.int .i64 x.r.value)).setCell ⟨gv, i * 3 + 2, none⟩ (.bool x.r.found)) := by
  obtain ⟨h1, hf⟩ := h.vw.set hi x hx
  obtain ⟨us, h2, -⟩ := id h.mn.mg.log
  refine ⟨⟨h.mn.frG hf h.ndv (fun e => own_own h.mn.mg.row h.vw.own (by decide) e VwAt.ob) (fun e => own_own h2 h.vw.own (by decide) e VwAt.ob) (NoC.cons (fun arr fz hb => ?_) NoC.nil) (Ne.symm (h.vw.ne_blk h.mn.sta.blk (by decide))) (Ne.symm (h.vw.ne_map h.mn.sta.map)) h.newv, h1, h.ndv, h.newv⟩, hf⟩
  rcases h.vw.own.2 with ⟨h3, -⟩ | ⟨g, cap, cur, h3, _, hh, _⟩
  · cases h3
  · injection h3 with h3 _ _
    injection h3 with h3
    injection h3 with h3
    subst h3
    rw [hh] at hb
    injection hb with hb
    injection hb with _ hb _
    exact absurd hb (by decide)
/-- Before the log is there. -/
structure MpAt (w wr : World) (b m : Nat) (v : Value) (M : Mm.Ix) (qs : List Qry) (bs ms gv n1 : Nat) (vs : List VR) : Prop where
  inx : InIx w wr b m v M qs
  sta : StaAt wr bs ms Sm.new
  vw : VwAt wr gv n1 vs
  nd : bs ∉ [b, m] ∧ ms ∉ [b, m] ∧ gv ∉ [b, m]
  new : w.heap.size ≤ bs ∧ w.heap.size ≤ ms ∧ w.heap.size ≤ gv
theorem MpAt.fr0 (h : MpAt w wr b m v M qs bs ms gv n1 vs) (hf : Fr [] wr w') : MpAt w w' b m v M qs bs ms gv n1 vs := ⟨h.inx.fr0 hf, h.sta.fr0 hf, h.vw.fr0 hf, h.nd, h.new⟩
theorem MpAt.set (h : MpAt w wr b m v M qs bs ms gv n1 vs) {i : Nat} (hi : i < n1) (x : VR) (hx : AtL RowV.cells 5 wr x.A x.r.rows ∧ x.n = x.r.rows.length) :
    MpAt w (((wr.setCell ⟨gv, i * 3, none⟩ (.slice x.A x.n x.c)).setCell ⟨gv, i * 3 + 1, none⟩ (.int .i64 x.r.value)).setCell ⟨gv, i * 3 + 2, none⟩ (.bool x.r.found)) b m v M qs bs ms gv n1 (vs.set i x) := by
  obtain ⟨h1, hf⟩ := h.vw.set hi x hx
  refine ⟨⟨h.inx.ix.fr hf (fun y hy e => h.nd.2.2 (by rw [List.mem_singleton] at e; rwa [← e])), h.inx.is, h.inx.ok, h.inx.row.fr hf (fun g hg e => ?_), h.inx.fr.trans' hf (fun y hy => .inr (by rw [List.mem_singleton] at hy; rw [hy]; exact h.new.2.2)), h.inx.new, h.inx.own⟩, h.sta.fr hf (by simpa using Ne.symm (h.vw.ne_blk h.sta.blk (by decide))) (by simpa using Ne.symm (h.vw.ne_map h.sta.map)), h1, h.nd, h.new⟩
  rw [List.mem_singleton] at e
  rw [e] at hg
  exact own_own h.inx.row h.vw.own (by decide) hg VwAt.ob
end
/-- predicate.Apply on a view. -/
theorem apply_vw {w : World} {A : Option Addr} {n c : Nat} {r : Res} {q : Qry} (hok : okI q.kind) (hr : AtL RowV.cells 5 w A r.rows) (hrn : n = r.rows.length) (hl : r.rows.length ≤ 5000) (hb : -3000000000000 ≤ r.value ∧ r.value ≤ 3000000000000) {Ak : Option Addr} {nk ck : Nat} {p : Int} {cs : List Chg} (hc : ChgsAt w Ak cs) (hk : nk ≤ 8) (hn : nk = cs.length) :
    Calls Tryz.prog 33 #[q.val, .agg #[.slice A n c, .int .i64 r.value, .bool r.found], .agg #[.int .i64 p, .slice Ak nk ck]] w fun e w' => ∃ (r' : Res) (A' : Option Addr) (n' c' : Nat) (t k : Bool), e = .returned (.tuple #[.agg #[.slice A' n' c', .int .i64 r'.value, .bool r'.found], .bool t, .bool k]) ∧ ApAt w w' (Pm.apply q r cs) A' n' r' t k (n + 2 * nk) := by
  refine (apply_any q hok A n c r.value r.found r.rows p Ak nk ck cs w hr hrn (by rw [hrn]; omega) (by omega) (by omega) hc hn).mono ?_
  rintro e w' ⟨A', n', c', m', f', t, k, he, h1, h2, h3⟩
  cases k with
  | true =>
    obtain ⟨L', e1, e2, e3, e4⟩ := h1 rfl
    exact ⟨⟨L', m', f'⟩, A', n', c', t, true, he, .inl ⟨rfl, e1⟩, e2, e3, e4, h3⟩
  | false =>
    obtain ⟨e1, e2, e3, e4, e5, e6⟩ := h2 rfl
    subst e2 e3 e4 e5 e6
    exact ⟨⟨[], 0, false⟩, none, 0, c', true, false, he, .inr ⟨rfl, e1, rfl, rfl⟩, fun h => absurd h (by simp), rfl, Nat.zero_le _, h3⟩
/-- What the views hold while a record's matches are gone through. -/
def Vi (vs : List VR) (qs : List Qry) (L : List Int) (k : Nat) (s s' : Sm.Sta) : Prop := ∀ i (h : i < vs.length) (hq : i < qs.length), vs[i].r = Em.of (if (i : Int) ∈ L.take k then s' else s) qs[i]
theorem Vi.start {vs : List VR} {qs : List Qry} {L : List Int} {s s' : Sm.Sta} (h : ∀ i (h : i < vs.length) (hq : i < qs.length), vs[i].r = Em.of s qs[i]) : Vi vs qs L 0 s s' := by
  intro i hi hq
  rw [List.take_zero, if_neg (by simp)]
  exact h i hi hq
theorem Vi.step {vs : List VR} {qs : List Qry} {L : List Int} {k : Nat} {s s' : Sm.Sta} (h : Vi vs qs L k s s') (hk : k < L.length) {xn : Nat} (hx : L[k] = (xn : Int)) (hq : xn < qs.length) (y : VR) (hy : y.r = Em.of s' qs[xn]) : Vi (vs.set xn y) qs L (k + 1) s s' := by
  intro i hi hiq
  rw [List.length_set] at hi
  rw [List.take_succ_eq_append_getElem hk, hx]
  by_cases e : xn = i
  · subst e
    rw [List.getElem_set_self, if_pos (by simp), hy]
  · rw [List.getElem_set_ne e, h i hi hiq]
    congr 1
    by_cases hm : (i : Int) ∈ L.take k
    · rw [if_pos hm, if_pos (List.mem_append.2 (.inl hm))]
    · rw [if_neg hm, if_neg]
      intro hm2
      rcases List.mem_append.1 hm2 with hm2 | hm2
      · exact hm hm2
      · have : (i : Int) = xn := by simpa using hm2
        omega
theorem Vi.done {vs : List VR} {qs : List Qry} {L : List Int} {s : Sm.Sta} {r : Rec} (h : Vi vs qs L L.length s (Sm.apply s r)) (hL : L = Mm.hits qs r.cs qs.length) (ho : Sm.Ok s) (hf : Sm.fits s r = true) (hv : ∀ q ∈ qs, Em.valid q = true) : ∀ i (h : i < vs.length) (hq : i < qs.length), vs[i].r = Em.of (Sm.apply s r) qs[i] := by
  intro i hi hq
  rw [h i hi hq, List.take_length]
  by_cases hm : (i : Int) ∈ L
  · rw [if_pos hm]
  · rw [if_neg hm]
    refine Pm.untouched8 (hv _ (List.getElem_mem _)) ho hf ?_
    cases ht : r.cs.any (Pm.touches qs[i]) with
    | false => rfl
    | true =>
      obtain ⟨h1, h2, -⟩ := Mm.next_hit hL hq ht
      exact absurd (by rw [← h2]; exact List.getElem_mem h1) hm
theorem Vi.at_ {vs : List VR} {qs : List Qry} {L : List Int} {k : Nat} {s s' : Sm.Sta} (h : Vi vs qs L k s s') (hk : k < L.length) (ha : L.Pairwise (· < ·)) {xn : Nat} (hx : L[k] = (xn : Int)) (hi : xn < vs.length) (hq : xn < qs.length) : vs[xn].r = Em.of s qs[xn] := by
  rw [h xn hi hq, if_neg]
  intro hm
  obtain ⟨j, hj, e⟩ := List.mem_iff_getElem.1 hm
  rw [List.length_take] at hj
  rw [List.getElem_take] at e
  have := (List.pairwise_iff_getElem.1 ha) j k (by omega) hk (by omega)
  omega
end Go.Proofs.YtciaallekkdnhaaGreat

/-
  What Apply gives for the result of a query.
-/
import Derived.Test.YthiaaminkfkjpaaGreatGbm
import Derived.Test.YthiaaminkfkjpaaGreatGbj
import Derived.Test.YthiaaminkfkjpaaGreatGas
import Derived.Test.YthiaaminkfkjpaaGreatGbe
namespace Go.Proofs.YthiaaminkfkjpaaGreat
open Go.RowKit

namespace Em
theorem of_bounds {s : Sm.Sta} (ho : Sm.Ok s) (hs : Sm.Sound s) (q : Qry) : (of s q).rows.length ≤ 4000 ∧ -2000000000000 ≤ (of s q).value ∧ (of s q).value ≤ 2000000000000 := by
  have hl := scan_len ho q
  have hm : ∀ x ∈ meas q (scan s q), -1000000000 ≤ x ∧ x ≤ 1000000000 := fun x hx => by
    unfold meas at hx
    obtain ⟨r, hr, rfl⟩ := List.mem_map.1 hx
    exact RowV.value_bounds (scan_mem hs hr) _
  cases hv : valid q with
  | false =>
    have e : of s q = ⟨[], 0, false⟩ := res_bad hv
    rw [e]
    simp
  | true =>
    have hk := Pm.kind_of hv
    by_cases k3 : q.kind = 3
    · rw [of_count hv k3]
      dsimp only [List.length_nil]
      omega
    by_cases k4 : q.kind = 4
    · rw [of_sum hv k4]
      have h1 := tot_bound 1000000000 _ hm
      have h2 : (meas q (scan s q)).length = (scan s q).length := by unfold meas; simp
      rw [h2] at h1
      dsimp only [List.length_nil]
      omega
    by_cases k5 : q.kind = 5
    · obtain ⟨v, f, e, hx⟩ := of_min (s := s) hv k5
      rw [e]
      dsimp only [List.length_nil]
      by_cases hn : meas q (scan s q) = []
      · have := hx.none hn
        omega
      · have := hm _ (hx.mem hn)
        omega
    by_cases k6 : q.kind = 6
    · obtain ⟨v, f, e, hx⟩ := of_max (s := s) hv k6
      rw [e]
      dsimp only [List.length_nil]
      by_cases hn : meas q (scan s q) = []
      · have := hx.none hn
        omega
      · have := hm _ (hx.mem hn)
        omega
    by_cases k7 : q.kind = 7
    · rw [of_join hv k7]
      have h1 := joined_len q (tab s q.other) (scan s q)
      dsimp only
      omega
    · rw [of_rows hv (by omega)]
      dsimp only
      omega
end Em
theorem OwnR.keepS {w w' : World} {v : Value} {out : List Rec} {b m : Nat} {s : Sm.Sta} (h : OwnR w v out) (hs : StaAt w b m s) (hf : Fr [b, m] w w') : OwnR w' v out := by
  obtain ⟨us, h1, _⟩ := id h
  exact h.fr hf (fun g hg => by
    have e1 := h1.ne hs.blk (by decide) hg
    have e2 := h1.ne_map hs.map hg
    simp [e1, e2]) (NoC.cons (noC_blk hs.blk (by decide)) (NoC.cons (noC_map hs.map) NoC.nil))
/-- Between two records. -/
structure PgAt (w0 wr : World) (bs ms gq : Nat) (l : List Rec) (A2 : Option Addr) (n2 c2 : Nat) (q : Qry) (s : Sm.Sta) : Prop where
  sta : StaAt wr bs ms s
  row : OwnR wr (.slice A2 n2 c2) l
  q : QAt wr gq q
  fr : Fr [] w0 wr
  new : w0.heap.size ≤ bs ∧ w0.heap.size ≤ ms
section
variable {w0 wr w' : World} {bs ms gq : Nat} {l : List Rec} {A2 : Option Addr} {n2 c2 : Nat} {q : Qry} {s : Sm.Sta}
theorem PgAt.fr0 (h : PgAt w0 wr bs ms gq l A2 n2 c2 q s) (hf : Fr [] wr w') : PgAt w0 w' bs ms gq l A2 n2 c2 q s :=
  ⟨h.sta.fr0 hf, h.row.keep0 hf, h.q.fr hf (by simp), h.fr.trans hf, h.new⟩
theorem PgAt.nq (h : PgAt w0 wr bs ms gq l A2 n2 c2 q s) : gq ∉ [bs, ms] := by
  have h1 : gq ≠ bs := Blk.ne h.q h.sta.blk (by decide)
  have h2 : ms ≠ gq := h.sta.map.ne h.q
  simp [h1, Ne.symm h2]
theorem PgAt.recs (h : PgAt w0 wr bs ms gq l A2 n2 c2 q s) : RecsAt wr A2 l ∧ n2 = l.length ∧ l.length ≤ c2 := by
  obtain ⟨h1, h2⟩ := h.row.recs
  refine ⟨h1, h2, ?_⟩
  subst h2
  exact h.row.cap
theorem PgAt.apply (h : PgAt w0 wr bs ms gq l A2 n2 c2 q s) {r : Rec} {A : Option Addr} {n cap : Nat} {p : Int} (hc : HoldsC wr A r.cs) (hlen : r.cs.length ≤ 8) (hn : n = r.cs.length) (hp : p = r.p) (hf : Sm.fits s r = true) :
    Calls Tryz.prog 13 #[.pointer (some ⟨bs, 0, none⟩), .agg #[.int .i64 p, .slice A n cap]] wr fun e w' => e = .returned (.int .i64 0) ∧ PgAt w0 w' bs ms gq l A2 n2 c2 q (Sm.apply s r) ∧ Fr [bs, ms] wr w' := by
  refine (sapply_n bs ms s r A n cap p wr h.sta hc hlen hn hp).mono ?_
  rintro e w' ⟨he, h1, h2⟩
  rw [Lg.code_zero.2 hf] at he
  exact ⟨he, ⟨h1, h.row.keepS h.sta h2, h.q.fr h2 h.nq, h.fr.trans' h2 (fun x hx => .inr (by
    simp only [List.mem_cons, List.not_mem_nil, or_false] at hx
    have := h.new
    rcases hx with rfl | rfl <;> omega)), h.new⟩, h2⟩
end
/-- A result's box is written. -/
theorem PgAt.frR {w0 wr w' : World} {bs ms gq : Nat} {l : List Rec} {A2 : Option Addr} {n2 c2 : Nat} {q : Qry} {s : Sm.Sta} {g : Nat} {cs : Array Value} (h : PgAt w0 wr bs ms gq l A2 n2 c2 q s) (hb : Blk wr g 37 cs) (hf : Fr [g] wr w') (hg : w0.heap.size ≤ g) : PgAt w0 w' bs ms gq l A2 n2 c2 q s := by
  have h1 : bs ≠ g := Blk.ne h.sta.blk hb (by decide)
  have h2 : ms ≠ g := h.sta.map.ne hb
  have h3 : gq ≠ g := Blk.ne h.q hb (by decide)
  obtain ⟨us, h4, h5, h6⟩ := h.row
  exact ⟨h.sta.fr hf (by simp [h1]) (by simp [h2]), OwnR.fr ⟨us, h4, h5, h6⟩ hf (fun x hx => by simpa using h4.ne hb (by decide) hx) (NoC.cons (noC_blk hb (by decide)) NoC.nil), h.q.fr hf (by simp [h3]), h.fr.trans' hf (fun x hx => .inr (by rw [List.mem_singleton] at hx; omega)), h.new⟩
/-- Rows stay where a state changes. -/
theorem AtL.frS {w w' : World} {A : Option Addr} {L : List RowV} {bs ms : Nat} {s : Sm.Sta} (h : AtL RowV.cells 5 w A L) (hs : StaAt w bs ms s) (hf : Fr [bs, ms] w w') : AtL RowV.cells 5 w' A L := by
  intro hl
  obtain ⟨b, off, e, hlt, hc⟩ := h hl
  have h4 := hc 0 hl 4 (by decide)
  have hs4 : (RowV.cells L[0])[4]? = some (.int .i64 L[0].z) := rfl
  rw [hs4] at h4
  have h1 : b ≠ bs := by
    rintro rfl
    rw [hs.blk.cell] at h4
    have : (off + 0 * 5 + 4) < 2 := by
      have h5 := Array.getElem?_eq_some_iff.1 h4
      exact h5.1
    omega
  have h2 : b ≠ ms := by
    rintro rfl
    obtain ⟨es, clock, hm, -⟩ := hs.map
    have h5 : w.cell? ⟨b, off + 0 * 5 + 4, none⟩ = none := by
      unfold World.cell?
      simp [hm]
    rw [h5] at h4
    cases h4
  exact ⟨b, off, e, Nat.lt_of_lt_of_le hlt hf.size, fun i hi j hj => (hf.cell hlt (by simp [h1, h2])).trans (hc i hi j hj)⟩
/-- A result in memory. -/
structure RvAt (wr : World) (g : Nat) (A : Option Addr) (n c : Nat) (r : Res) : Prop where
  blk : R7At wr g (.slice A n c) r.value r.found
  rows : AtL RowV.cells 5 wr A r.rows
  len : n = r.rows.length
theorem RvAt.fr0 {w w' : World} {g : Nat} {A : Option Addr} {n c : Nat} {r : Res} (h : RvAt w g A n c r) (hf : Fr [] w w') : RvAt w' g A n c r :=
  ⟨h.blk.fr hf (by simp), h.rows.fr0 hf, h.len⟩
theorem RvAt.frS {w w' : World} {g : Nat} {A : Option Addr} {n c : Nat} {r : Res} {bs ms : Nat} {s : Sm.Sta} (h : RvAt w g A n c r) (hs : StaAt w bs ms s) (hf : Fr [bs, ms] w w') : RvAt w' g A n c r :=
  ⟨h.blk.fr hf (by
    have h1 : g ≠ bs := Blk.ne h.blk hs.blk (by decide)
    have h2 : ms ≠ g := hs.map.ne h.blk
    simp [h1, Ne.symm h2]), h.rows.frS hs hf, h.len⟩
/-- The result of a query, its rows laid. -/
structure RwAt (w0 wr : World) (A : Option Addr) (n : Nat) (r : Res) : Prop where
  rows : AtL RowV.cells 5 wr A r.rows
  len : n = r.rows.length
  fr : Fr [] w0 wr
  new : ∀ ad, A = some ad → w0.heap.size ≤ ad.block
theorem PgAt.of {w0 wr : World} {bs ms gq : Nat} {l : List Rec} {A2 : Option Addr} {n2 c2 : Nat} {q : Qry} {s : Sm.Sta} (h : PgAt w0 wr bs ms gq l A2 n2 c2 q s) (hs : Sm.Sound s) (hv : Em.valid q = true) :
    Calls Tryz.prog 9 #[.pointer (some ⟨bs, 0, none⟩), q.val] wr fun e w' => ∃ A n c, e = .returned (.tuple #[.agg #[.slice A n c, .int .i64 (Em.of s q).value, .bool (Em.of s q).found], .int .i64 0]) ∧ RwAt wr w' A n (Em.of s q) := by
  refine (eof_any bs ms s q wr h.sta hs).mono ?_
  rintro e w' ⟨v, rfl, hr⟩
  have hc : Em.code q = 0 := by unfold Em.code; rw [hv]; rfl
  obtain ⟨A, n, c, hv5⟩ : ∃ A n c, v = .slice A n c := (match hr.own.val with | ⟨_, _, hv⟩ => ⟨_, _, _, hv⟩)
  subst hv5
  have h1 := OwnL.rowsAt hr.own
  exact ⟨A, n, c, by rw [hc], h1.1, h1.2, hr.fr, fun ad e => by
    subst e
    exact hr.new ad.block rfl⟩
/-- The box of a result that has been laid. -/
theorem RvAt.of {w0 wr : World} {A : Option Addr} {n c : Nat} {r : Res} (h : RwAt w0 wr A n r) : RvAt (wr.alloc (.cells #[.slice A n c, .int .i64 r.value, .bool r.found] 37)) wr.heap.size A n c r :=
  ⟨R7At.new wr _ _ _, h.rows.fr0 ((Fr.refl [] wr).alloc _), h.len⟩
/-- What Apply gives. -/
def AOut (J : Option (Res × Bool)) (r : Res) (t k : Bool) : Prop := (k = true ∧ J = some (r, t)) ∨ (k = false ∧ J = none ∧ t = true ∧ r = ⟨[], 0, false⟩)
/-- A result that Apply has laid. -/
structure ApAt (w w' : World) (J : Option (Res × Bool)) (A : Option Addr) (n : Nat) (r : Res) (t k : Bool) (b : Nat) : Prop where
  out : AOut J r t k
  rows : AtL RowV.cells 5 w' A r.rows
  len : n = r.rows.length
  le : n ≤ b
  fr : Fr [] w w'
theorem RvAt.ofA {w0 wr : World} {J : Option (Res × Bool)} {A : Option Addr} {n c b : Nat} {r : Res} {t k : Bool} (h : ApAt w0 wr J A n r t k b) : RvAt (wr.alloc (.cells #[.slice A n c, .int .i64 r.value, .bool r.found] 37)) wr.heap.size A n c r :=
  ⟨R7At.new wr _ _ _, h.rows.fr0 ((Fr.refl [] wr).alloc _), h.len⟩
/-- The box was laid ahead of the call. -/
theorem RvAt.ofB {w0 wz : World} {J : Option (Res × Bool)} {A : Option Addr} {n c b g : Nat} {r : Res} {t k : Bool} {v : Value} {m : Int} {f : Bool} (h : ApAt w0 wz J A n r t k b) (hb : Blk wz g 37 #[v, .int .i64 m, .bool f]) :
    RvAt (((wz.setCell ⟨g, 0, none⟩ (.slice A n c)).setCell ⟨g, 1, none⟩ (.int .i64 r.value)).setCell ⟨g, 2, none⟩ (.bool r.found)) g A n c r ∧ Fr [g] wz (((wz.setCell ⟨g, 0, none⟩ (.slice A n c)).setCell ⟨g, 1, none⟩ (.int .i64 r.value)).setCell ⟨g, 2, none⟩ (.bool r.found)) := by
  obtain ⟨h1, h2⟩ := set3 (v' := .slice A n c) (m' := r.value) (f' := r.found) hb
  exact ⟨⟨h1, h.rows.ne_small hb (by simp) h2, h.len⟩, h2⟩
theorem apply_rv {w : World} {g : Nat} {A : Option Addr} {n c : Nat} {r : Res} {q : Qry} (hok : okI q.kind) (h : RvAt w g A n c r) (hl : r.rows.length ≤ 5000) (hb : -3000000000000 ≤ r.value ∧ r.value ≤ 3000000000000) {Ak : Option Addr} {nk ck : Nat} {p : Int} {cs : List Chg} (hc : ChgsAt w Ak cs) (hk : nk ≤ 8) (hn : nk = cs.length) :
    Calls Tryz.prog 12 #[q.val, .agg #[.slice A n c, .int .i64 r.value, .bool r.found], .agg #[.int .i64 p, .slice Ak nk ck]] w fun e w' => ∃ (r' : Res) (A' : Option Addr) (n' c' : Nat) (t k : Bool), e = .returned (.tuple #[.agg #[.slice A' n' c', .int .i64 r'.value, .bool r'.found], .bool t, .bool k]) ∧ ApAt w w' (Pm.apply q r cs) A' n' r' t k (n + 2 * nk) := by
  refine (apply_any q hok A n c r.value r.found r.rows p Ak nk ck cs w h.rows h.len (by rw [h.len]; omega) (by omega) (by omega) hc hn).mono ?_
  rintro e w' ⟨A', n', c', m', f', t, k, he, h1, h2, h3⟩
  cases k with
  | true =>
    obtain ⟨L', e1, e2, e3, e4⟩ := h1 rfl
    exact ⟨⟨L', m', f'⟩, A', n', c', t, true, he, .inl ⟨rfl, e1⟩, e2, e3, e4, h3⟩
  | false =>
    obtain ⟨e1, e2, e3, e4, e5, e6⟩ := h2 rfl
    subst e2 e3 e4 e5 e6
    exact ⟨⟨[], 0, false⟩, none, 0, c', true, false, he, .inr ⟨rfl, e1, rfl, rfl⟩, fun h => absurd h (by simp), rfl, Nat.zero_le _, h3⟩
/-- One result put in the place of another. -/
theorem RvAt.put {w : World} {g : Nat} {A : Option Addr} {n c : Nat} {r : Res} {g' : Nat} {A' : Option Addr} {n' c' : Nat} {r' : Res} (h : RvAt w g A n c r) (hr : RvAt w g' A' n' c' r') :
    RvAt (((w.setCell ⟨g, 0, none⟩ (.slice A' n' c')).setCell ⟨g, 1, none⟩ (.int .i64 r'.value)).setCell ⟨g, 2, none⟩ (.bool r'.found)) g A' n' c' r' ∧ Fr [g] w (((w.setCell ⟨g, 0, none⟩ (.slice A' n' c')).setCell ⟨g, 1, none⟩ (.int .i64 r'.value)).setCell ⟨g, 2, none⟩ (.bool r'.found)) := by
  obtain ⟨h1, h2⟩ := set3 (v' := .slice A' n' c') (m' := r'.value) (f' := r'.found) h.blk
  exact ⟨⟨h1, hr.rows.ne_small h.blk (by simp) h2, hr.len⟩, h2⟩
theorem RvAt.frG {w w' : World} {g : Nat} {A : Option Addr} {n c : Nat} {r : Res} {g' : Nat} {A' : Option Addr} {n' c' : Nat} {r' : Res} (h : RvAt w g A n c r) (hr : RvAt w g' A' n' c' r') (hf : Fr [g'] w w') (hne : g ≠ g') : RvAt w' g A n c r :=
  ⟨h.blk.fr hf (by simp [hne]), h.rows.ne_small hr.blk (by simp) hf, h.len⟩
/-- The log's record at an index: its cells and its changes. -/
theorem PgAt.open_ {w0 wr : World} {bs ms gq : Nat} {l : List Rec} {A2 : Option Addr} {n2 c2 : Nat} {q : Qry} {s : Sm.Sta} (h : PgAt w0 wr bs ms gq l A2 n2 c2 q s) {k : Nat} (hk : k < l.length) :
    ∃ bb off Ak ck, A2 = some ⟨bb, off, none⟩ ∧ bb < wr.heap.size ∧ wr.cell? ⟨bb, off + k * 2, none⟩ = some (.int .i64 l[k].p) ∧ wr.cell? ⟨bb, off + k * 2 + 1, none⟩ = some (.slice Ak l[k].cs.length ck) ∧ HoldsC wr Ak l[k].cs ∧ l[k].cs.length ≤ 8 := h.recs.1.open_ hk
end Go.Proofs.YthiaaminkfkjpaaGreat
namespace Go.Proofs.YthiaaminkfkjpaaGreat
open Go.RowKit

namespace Pm
/-- What Apply gives for the result of a query. -/
theorem patched {s : Sm.Sta} {q : Qry} {r : Rec} {R R' N : Res} {t k : Bool} (hv : Em.valid q = true) (ho : Sm.Ok s) (hf : Sm.fits s r = true) (hR : Em.of s q = R) (hN : Em.of (Sm.apply s r) q = N) (h : AOut (Pm.apply q R r.cs) R' t k) :
    (k = true → R' = N) ∧ (k = false → t = true ∧ R' = ⟨[], 0, false⟩) ∧ (t = false → R = R') ∧ t = r.cs.any (touches q) := by
  subst hR hN
  rcases h with ⟨rfl, h⟩ | ⟨rfl, h, rfl, rfl⟩
  · obtain ⟨h1, h2⟩ := apply_of hv ho hf h
    dsimp only at h1 h2
    refine ⟨fun _ => h1, fun h => (by cases h), fun ht => ?_, h2⟩
    rw [ht] at h2
    have h3 := go_still r.cs (Em.of s q) false h2.symm
    unfold apply at h
    rw [h3] at h
    injection h with h
    injection h
  · exact ⟨fun h => (by cases h), fun _ => ⟨rfl, rfl⟩, fun h => (by cases h), (go_none r.cs _ _ h).symm⟩
end Pm

end Go.Proofs.YthiaaminkfkjpaaGreat

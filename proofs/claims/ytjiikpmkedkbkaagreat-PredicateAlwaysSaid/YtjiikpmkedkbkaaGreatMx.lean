/-
  Arguments of law 07: a query, rows, a result, a change, five integers.
-/
import Derived.Test.YtjiikpmkedkbkaaGreatMn
import Derived.Test.YtjiikpmkedkbkaaGreatMr
import Derived.Test.YtjiikpmkedkbkaaGreatMw
import Derived.Test.YtjiikpmkedkbkaaGreatMq
import Derived.Test.YtjiikpmkedkbkaaGreatMl
import Derived.Test.YtjiikpmkedkbkaaGreatMo
import Derived.Test.YtjiikpmkedkbkaaGreatMg
import Derived.Test.YtjiikpmkedkbkaaGreatMb
import Derived.Test.YtjiikpmkedkbkaaGreatMm
import Derived.OpenShut
import Derived.ChangeArms
import Derived.Deep.Slices
import Derived.Laws.IdiomArrays
namespace Go.Proofs.YtjiikpmkedkbkaaGreat
open Go.RowKit

namespace Em
theorem of_bounds {s : Sm.Sta} (ho : Sm.Ok s) (hs : Sm.Sound s) (q : Qry) : (of s q).rows.length ≤ 4000 ∧ -2000000000000 ≤ (of s q).value ∧ (of s q).value ≤ 2000000000000 := by
  have hl := scan_len ho q
  have hm : ∀ x ∈ meas q (scan s q), -1000000000 ≤ x ∧ x ≤ 1000000000 := fun x hx => by
    unfold meas at hx
    obtain ⟨r, hr, rfl⟩ := List.mem_map.1 hx
    exact RowV.value_bounds (scan_mem hs hr) _
  cases hv : valid q with
  | false =>
    have e : of s q = ⟨[], 0, false⟩ := res_bad hv
    rw [e]
    simp
  | true =>
    have hk := Pm.kind_of hv
    by_cases k3 : q.kind = 3
    · rw [of_count hv k3]
      dsimp only [List.length_nil]
      omega
    by_cases k4 : q.kind = 4
    · rw [of_sum hv k4]
      have h1 := tot_bound 1000000000 _ hm
      have h2 : (meas q (scan s q)).length = (scan s q).length := by unfold meas; simp
      rw [h2] at h1
      dsimp only [List.length_nil]
      omega
    by_cases k5 : q.kind = 5
    · obtain ⟨v, f, e, hx⟩ := of_min (s := s) hv k5
      rw [e]
      dsimp only [List.length_nil]
      by_cases hn : meas q (scan s q) = []
      · have := hx.none hn
        omega
      · have := hm _ (hx.mem hn)
        omega
    by_cases k6 : q.kind = 6
    · obtain ⟨v, f, e, hx⟩ := of_max (s := s) hv k6
      rw [e]
      dsimp only [List.length_nil]
      by_cases hn : meas q (scan s q) = []
      · have := hx.none hn
        omega
      · have := hm _ (hx.mem hn)
        omega
    by_cases k7 : q.kind = 7
    · rw [of_join hv k7]
      have h1 := joined_len q (tab s q.other) (scan s q)
      dsimp only
      omega
    · rw [of_rows hv (by omega)]
      dsimp only
      omega
end Em
theorem OwnR.keepS {w w' : World} {v : Value} {out : List Rec} {b m : Nat} {s : Sm.Sta} (h : OwnR w v out) (hs : StaAt w b m s) (hf : Fr [b, m] w w') : OwnR w' v out := by
  obtain ⟨us, h1, _⟩ := id h
  exact h.fr hf (fun g hg => by
    have e1 := h1.ne hs.blk (by decide) hg
    have e2 := h1.ne_map hs.map hg
    simp [e1, e2]) (NoC.cons (noC_blk hs.blk (by decide)) (NoC.cons (noC_map hs.map) NoC.nil))
/-- Between two records. -/
structure PgAt (w0 wr : World) (bs ms gq : Nat) (l : List Rec) (A2 : Option Addr) (n2 c2 : Nat) (q : Qry) (s : Sm.Sta) : Prop where
  sta : StaAt wr bs ms s
  row : OwnR wr (.slice A2 n2 c2) l
  q : QAt wr gq q
  fr : Fr [] w0 wr
  new : w0.heap.size ≤ bs ∧ w0.heap.size ≤ ms
section
variable {w0 wr w' : World} {bs ms gq : Nat} {l : List Rec} {A2 : Option Addr} {n2 c2 : Nat} {q : Qry} {s : Sm.Sta}
theorem PgAt.fr0 (h : PgAt w0 wr bs ms gq l A2 n2 c2 q s) (hf : Fr [] wr w') : PgAt w0 w' bs ms gq l A2 n2 c2 q s :=
  ⟨h.sta.fr0 hf, h.row.keep0 hf, h.q.fr hf (by simp), h.fr.trans hf, h.new⟩
theorem PgAt.nq (h : PgAt w0 wr bs ms gq l A2 n2 c2 q s) : gq ∉ [bs, ms] := by
  have h1 : gq ≠ bs := Blk.ne h.q h.sta.blk (by decide)
  have h2 : ms ≠ gq := h.sta.map.ne h.q
  simp [h1, Ne.symm h2]
theorem PgAt.recs (h : PgAt w0 wr bs ms gq l A2 n2 c2 q s) : RecsAt wr A2 l ∧ n2 = l.length ∧ l.length ≤ c2 := by
  obtain ⟨h1, h2⟩ := h.row.recs
  refine ⟨h1, h2, ?_⟩
  subst h2
  exact h.row.cap
theorem PgAt.apply (h : PgAt w0 wr bs ms gq l A2 n2 c2 q s) {r : Rec} {A : Option Addr} {n cap : Nat} {p : Int} (hc : HoldsC wr A r.cs) (hlen : r.cs.length ≤ 8) (hn : n = r.cs.length) (hp : p = r.p) (hf : Sm.fits s r = true) :
    Calls Tryz.prog 13 #[.pointer (some ⟨bs, 0, none⟩), .agg #[.int .i64 p, .slice A n cap]] wr fun e w' => e = .returned (.int .i64 0) ∧ PgAt w0 w' bs ms gq l A2 n2 c2 q (Sm.apply s r) ∧ Fr [bs, ms] wr w' := by
  refine (sapply_n bs ms s r A n cap p wr h.sta hc hlen hn hp).mono ?_
  rintro e w' ⟨he, h1, h2⟩
  rw [Lg.code_zero.2 hf] at he
  exact ⟨he, ⟨h1, h.row.keepS h.sta h2, h.q.fr h2 h.nq, h.fr.trans' h2 (fun x hx => .inr (by
    simp only [List.mem_cons, List.not_mem_nil, or_false] at hx
    have := h.new
    rcases hx with rfl | rfl <;> omega)), h.new⟩, h2⟩
end
/-- A result's box is written. -/
theorem PgAt.frR {w0 wr w' : World} {bs ms gq : Nat} {l : List Rec} {A2 : Option Addr} {n2 c2 : Nat} {q : Qry} {s : Sm.Sta} {g : Nat} {cs : Array Value} (h : PgAt w0 wr bs ms gq l A2 n2 c2 q s) (hb : Blk wr g 34 cs) (hf : Fr [g] wr w') (hg : w0.heap.size ≤ g) : PgAt w0 w' bs ms gq l A2 n2 c2 q s := by
  have h1 : bs ≠ g := Blk.ne h.sta.blk hb (by decide)
  have h2 : ms ≠ g := h.sta.map.ne hb
  have h3 : gq ≠ g := Blk.ne h.q hb (by decide)
  obtain ⟨us, h4, h5, h6⟩ := h.row
  exact ⟨h.sta.fr hf (by simp [h1]) (by simp [h2]), OwnR.fr ⟨us, h4, h5, h6⟩ hf (fun x hx => by simpa using h4.ne hb (by decide) hx) (NoC.cons (noC_blk hb (by decide)) NoC.nil), h.q.fr hf (by simp [h3]), h.fr.trans' hf (fun x hx => .inr (by rw [List.mem_singleton] at hx; omega)), h.new⟩
/-- Rows stay where a state changes. -/
theorem AtL.frS {w w' : World} {A : Option Addr} {L : List RowV} {bs ms : Nat} {s : Sm.Sta} (h : AtL RowV.cells 5 w A L) (hs : StaAt w bs ms s) (hf : Fr [bs, ms] w w') : AtL RowV.cells 5 w' A L := by
  intro hl
  obtain ⟨b, off, e, hlt, hc⟩ := h hl
  have h4 := hc 0 hl 4 (by decide)
  have hs4 : (RowV.cells L[0])[4]? = some (.int .i64 L[0].z) := rfl
  rw [hs4] at h4
  have h1 : b ≠ bs := by
    rintro rfl
    rw [hs.blk.cell] at h4
    have : (off + 0 * 5 + 4) < 2 := by
      have h5 := Array.getElem?_eq_some_iff.1 h4
      exact h5.1
    omega
  have h2 : b ≠ ms := by
    rintro rfl
    obtain ⟨es, clock, hm, -⟩ := hs.map
    have h5 : w.cell? ⟨b, off + 0 * 5 + 4, none⟩ = none := by
      unfold World.cell?
      simp [hm]
    rw [h5] at h4
    cases h4
  exact ⟨b, off, e, Nat.lt_of_lt_of_le hlt hf.size, fun i hi j hj => (hf.cell hlt (by simp [h1, h2])).trans (hc i hi j hj)⟩
/-- A result in memory. -/
structure RvAt (wr : World) (g : Nat) (A : Option Addr) (n c : Nat) (r : Res) : Prop where
  blk : R7At wr g (.slice A n c) r.value r.found
  rows : AtL RowV.cells 5 wr A r.rows
  len : n = r.rows.length
theorem RvAt.fr0 {w w' : World} {g : Nat} {A : Option Addr} {n c : Nat} {r : Res} (h : RvAt w g A n c r) (hf : Fr [] w w') : RvAt w' g A n c r :=
  ⟨h.blk.fr hf (by simp), h.rows.fr0 hf, h.len⟩
theorem RvAt.frS {w w' : World} {g : Nat} {A : Option Addr} {n c : Nat} {r : Res} {bs ms : Nat} {s : Sm.Sta} (h : RvAt w g A n c r) (hs : StaAt w bs ms s) (hf : Fr [bs, ms] w w') : RvAt w' g A n c r :=
  ⟨h.blk.fr hf (by
    have h1 : g ≠ bs := Blk.ne h.blk hs.blk (by decide)
    have h2 : ms ≠ g := hs.map.ne h.blk
    simp [h1, Ne.symm h2]), h.rows.frS hs hf, h.len⟩
/-- The result of a query, its rows laid. -/
structure RwAt (w0 wr : World) (A : Option Addr) (n : Nat) (r : Res) : Prop where
  rows : AtL RowV.cells 5 wr A r.rows
  len : n = r.rows.length
  fr : Fr [] w0 wr
  new : ∀ ad, A = some ad → w0.heap.size ≤ ad.block
theorem PgAt.of {w0 wr : World} {bs ms gq : Nat} {l : List Rec} {A2 : Option Addr} {n2 c2 : Nat} {q : Qry} {s : Sm.Sta} (h : PgAt w0 wr bs ms gq l A2 n2 c2 q s) (hs : Sm.Sound s) (hv : Em.valid q = true) :
    Calls Tryz.prog 12 #[.pointer (some ⟨bs, 0, none⟩), q.val] wr fun e w' => ∃ A n c, e = .returned (.tuple #[.agg #[.slice A n c, .int .i64 (Em.of s q).value, .bool (Em.of s q).found], .int .i64 0]) ∧ RwAt wr w' A n (Em.of s q) := by
  refine (eof_any bs ms s q wr h.sta hs).mono ?_
  rintro e w' ⟨v, rfl, hr⟩
  have hc : Em.code q = 0 := by unfold Em.code; rw [hv]; rfl
  obtain ⟨A, n, c, hv5⟩ : ∃ A n c, v = .slice A n c := (match hr.own.val with | ⟨_, _, hv⟩ => ⟨_, _, _, hv⟩)
  subst hv5
  have h1 := OwnL.rowsAt hr.own
  exact ⟨A, n, c, by rw [hc], h1.1, h1.2, hr.fr, fun ad e => by
    subst e
    exact hr.new ad.block rfl⟩
/-- The box of a result that has been laid. -/
theorem RvAt.of {w0 wr : World} {A : Option Addr} {n c : Nat} {r : Res} (h : RwAt w0 wr A n r) : RvAt (wr.alloc (.cells #[.slice A n c, .int .i64 r.value, .bool r.found] 34)) wr.heap.size A n c r :=
  ⟨R7At.new wr _ _ _, h.rows.fr0 ((Fr.refl [] wr).alloc _), h.len⟩
/-- Whether two results are the same. -/
theorem same_rv {w : World} {g g' : Nat} {A A' : Option Addr} {n n' c c' : Nat} {r r' : Res} (h : RvAt w g A n c r) (h' : RvAt w g' A' n' c' r') (hl : r.rows.length ≤ 4000) (hl' : r'.rows.length ≤ 4000) {b : Bool} (hb : decide (r = r') = b) :
    Calls Tryz.prog 15 #[.agg #[.slice A n c, .int .i64 r.value, .bool r.found], .agg #[.slice A' n' c', .int .i64 r'.value, .bool r'.found]] w fun e w' => e = .returned (.bool b) ∧ Fr [] w w' := by
  subst hb
  exact same7_any A n c r.value r.found r.rows A' n' c' r'.value r'.found r'.rows w h.rows h.len h'.rows h'.len (by rw [h.len]; omega) (by rw [h'.len]; omega)
/-- What Apply gives. -/
def AOut (J : Option (Res × Bool)) (r : Res) (t k : Bool) : Prop := (k = true ∧ J = some (r, t)) ∨ (k = false ∧ J = none ∧ t = true ∧ r = ⟨[], 0, false⟩)
/-- A result that Apply has laid. -/
structure ApAt (w w' : World) (J : Option (Res × Bool)) (A : Option Addr) (n : Nat) (r : Res) (t k : Bool) (b : Nat) : Prop where
  out : AOut J r t k
  rows : AtL RowV.cells 5 w' A r.rows
  len : n = r.rows.length
  le : n ≤ b
  fr : Fr [] w w'
theorem RvAt.ofA {w0 wr : World} {J : Option (Res × Bool)} {A : Option Addr} {n c b : Nat} {r : Res} {t k : Bool} (h : ApAt w0 wr J A n r t k b) : RvAt (wr.alloc (.cells #[.slice A n c, .int .i64 r.value, .bool r.found] 34)) wr.heap.size A n c r :=
  ⟨R7At.new wr _ _ _, h.rows.fr0 ((Fr.refl [] wr).alloc _), h.len⟩
/-- The box was laid ahead of the call. -/
theorem RvAt.ofB {w0 wz : World} {J : Option (Res × Bool)} {A : Option Addr} {n c b g : Nat} {r : Res} {t k : Bool} {v : Value} {m : Int} {f : Bool} (h : ApAt w0 wz J A n r t k b) (hb : Blk wz g 34 #[v, .int .i64 m, .bool f]) :
    RvAt (((wz.setCell ⟨g, 0, none⟩ (.slice A n c)).setCell ⟨g, 1, none⟩ (.int .i64 r.value)).setCell ⟨g, 2, none⟩ (.bool r.found)) g A n c r ∧ Fr [g] wz (((wz.setCell ⟨g, 0, none⟩ (.slice A n c)).setCell ⟨g, 1, none⟩ (.int .i64 r.value)).setCell ⟨g, 2, none⟩ (.bool r.found)) := by
  obtain ⟨h1, h2⟩ := set3 (v' := .slice A n c) (m' := r.value) (f' := r.found) hb
  exact ⟨⟨h1, h.rows.ne_small hb (by simp) h2, h.len⟩, h2⟩
theorem apply_rv {w : World} {g : Nat} {A : Option Addr} {n c : Nat} {r : Res} {q : Qry} (hok : okI q.kind) (h : RvAt w g A n c r) (hl : r.rows.length ≤ 5000) (hb : -3000000000000 ≤ r.value ∧ r.value ≤ 3000000000000) {Ak : Option Addr} {nk ck : Nat} {p : Int} {cs : List Chg} (hc : ChgsAt w Ak cs) (hk : nk ≤ 8) (hn : nk = cs.length) :
    Calls Tryz.prog 16 #[q.val, .agg #[.slice A n c, .int .i64 r.value, .bool r.found], .agg #[.int .i64 p, .slice Ak nk ck]] w fun e w' => ∃ (r' : Res) (A' : Option Addr) (n' c' : Nat) (t k : Bool), e = .returned (.tuple #[.agg #[.slice A' n' c', .int .i64 r'.value, .bool r'.found], .bool t, .bool k]) ∧ ApAt w w' (Pm.apply q r cs) A' n' r' t k (n + 2 * nk) := by
  refine (apply_any q hok A n c r.value r.found r.rows p Ak nk ck cs w h.rows h.len (by rw [h.len]; omega) (by omega) (by omega) hc hn).mono ?_
  rintro e w' ⟨A', n', c', m', f', t, k, he, h1, h2, h3⟩
  cases k with
  | true =>
    obtain ⟨L', e1, e2, e3, e4⟩ := h1 rfl
    exact ⟨⟨L', m', f'⟩, A', n', c', t, true, he, .inl ⟨rfl, e1⟩, e2, e3, e4, h3⟩
  | false =>
    obtain ⟨e1, e2, e3, e4, e5, e6⟩ := h2 rfl
    subst e2 e3 e4 e5 e6
    exact ⟨⟨[], 0, false⟩, none, 0, c', true, false, he, .inr ⟨rfl, e1, rfl, rfl⟩, fun h => absurd h (by simp), rfl, Nat.zero_le _, h3⟩
/-- One result put in the place of another. -/
theorem RvAt.put {w : World} {g : Nat} {A : Option Addr} {n c : Nat} {r : Res} {g' : Nat} {A' : Option Addr} {n' c' : Nat} {r' : Res} (h : RvAt w g A n c r) (hr : RvAt w g' A' n' c' r') :
    RvAt (((w.setCell ⟨g, 0, none⟩ (.slice A' n' c')).setCell ⟨g, 1, none⟩ (.int .i64 r'.value)).setCell ⟨g, 2, none⟩ (.bool r'.found)) g A' n' c' r' ∧ Fr [g] w (((w.setCell ⟨g, 0, none⟩ (.slice A' n' c')).setCell ⟨g, 1, none⟩ (.int .i64 r'.value)).setCell ⟨g, 2, none⟩ (.bool r'.found)) := by
  obtain ⟨h1, h2⟩ := set3 (v' := .slice A' n' c') (m' := r'.value) (f' := r'.found) h.blk
  exact ⟨⟨h1, hr.rows.ne_small h.blk (by simp) h2, hr.len⟩, h2⟩
theorem RvAt.frG {w w' : World} {g : Nat} {A : Option Addr} {n c : Nat} {r : Res} {g' : Nat} {A' : Option Addr} {n' c' : Nat} {r' : Res} (h : RvAt w g A n c r) (hr : RvAt w g' A' n' c' r') (hf : Fr [g'] w w') (hne : g ≠ g') : RvAt w' g A n c r :=
  ⟨h.blk.fr hf (by simp [hne]), h.rows.ne_small hr.blk (by simp) hf, h.len⟩
/-- The log's record at an index: its cells and its changes. -/
theorem PgAt.open_ {w0 wr : World} {bs ms gq : Nat} {l : List Rec} {A2 : Option Addr} {n2 c2 : Nat} {q : Qry} {s : Sm.Sta} (h : PgAt w0 wr bs ms gq l A2 n2 c2 q s) {k : Nat} (hk : k < l.length) :
    ∃ bb off Ak ck, A2 = some ⟨bb, off, none⟩ ∧ bb < wr.heap.size ∧ wr.cell? ⟨bb, off + k * 2, none⟩ = some (.int .i64 l[k].p) ∧ wr.cell? ⟨bb, off + k * 2 + 1, none⟩ = some (.slice Ak l[k].cs.length ck) ∧ HoldsC wr Ak l[k].cs ∧ l[k].cs.length ≤ 8 := h.recs.1.open_ hk
end Go.Proofs.YtjiikpmkedkbkaaGreat
namespace Go.Proofs.YtjiikpmkedkbkaaGreat
open Go.RowKit

def pickI (c n : Int) : Int := (if c < 0 then -(c + 1) else c) % n
theorem pickI_nonneg (c : Int) {n : Int} (h : 1 ≤ n) : 0 ≤ pickI c n := Int.emod_nonneg _ (by omega)
theorem pickI_lt (c : Int) {n : Int} (h : 1 ≤ n) : pickI c n < n := Int.emod_lt_of_pos _ (by omega)
theorem pick_any (c n : Int) (w : World) (hc : okI c) (h3 : 1 ≤ n) (h4 : n ≤ 1000000000) :
    Calls Tryz.prog 21 #[.int .i64 c, .int .i64 n] w fun e w' => e = .returned (.int .i64 (pickI c n)) ∧ w = w' := by
  obtain ⟨h1, h2⟩ := okI_bounds hc
  have hn : (n == 0) = false := by simp; omega
  have hn' : ¬ n = 0 := by omega
  by_cases hc : c < 0
  · go_enter Tryz.func21, Tryz.ntmps21
    go_wp2
    go_ret
    have e1 : pickI c n = -(c + 1) % n := by unfold pickI; rw [if_pos hc]
    rw [e1]
    refine ⟨?_, rfl⟩
    show Ending.returned (.int .i64 (-((c + 1).tmod n))) = _
    rw [← Int.neg_tmod, Int.tmod_eq_emod_of_nonneg (by omega)]
  · go_enter Tryz.func21, Tryz.ntmps21
    go_wp2
    go_ret
    have e1 : pickI c n = c % n := by unfold pickI; rw [if_neg (by omega)]
    rw [e1]
    refine ⟨by simp, rfl⟩
abbrev PickIs (c n p : Int) : Prop := ∀ W : World, Calls Tryz.prog 21 #[.int .i64 c, .int .i64 n] W fun e w' => e = .returned (.int .i64 p) ∧ Fr [] W w'
theorem pick_is {c n : Int} (hc : okI c) (h3 : 1 ≤ n) (h4 : n ≤ 1000000000) : ∃ p, (0 ≤ p ∧ p < n) ∧ Hid (pickI c n = p) ∧ Hid (PickIs c n p) :=
  ⟨_, ⟨pickI_nonneg c h3, pickI_lt c h3⟩, Lib.hid rfl, Lib.hid (fun W => (pick_any c n W hc h3 h4).mono fun _ _ h => ⟨h.1, h.2 ▸ Fr.refl _ _⟩)⟩
abbrev PickEq (c n p : Int) : Prop := ∀ W : World, Calls Tryz.prog 21 #[.int .i64 c, .int .i64 n] W fun e w' => e = .returned (.int .i64 p) ∧ W = w'
theorem pick_is2 {c n : Int} (hc : okI c) (h3 : 1 ≤ n) (h4 : n ≤ 1000000000) : ∃ p, (0 ≤ p ∧ p < n) ∧ Hid (pickI c n = p) ∧ Hid (PickEq c n p) :=
  ⟨_, ⟨pickI_nonneg c h3, pickI_lt c h3⟩, Lib.hid rfl, Lib.hid (fun W => pick_any c n W hc h3 h4)⟩
theorem okI_tdiv {x : Int} (h : okI x) {n : Int} (hn : 2 ≤ n) : okI (x.tdiv n) := by
  obtain ⟨h1, h2⟩ := okI_bounds h
  rcases Int.le_total 0 x with h0 | h0
  · rw [Int.tdiv_eq_ediv_of_nonneg h0]
    have a1 : 0 ≤ x / n := Int.ediv_nonneg h0 (by omega)
    have a2 : x / n ≤ x := Int.ediv_le_self n h0
    exact okI_mk (by omega) (by omega)
  · have e : x.tdiv n = -((-x) / n) := by
      rw [← Int.tdiv_eq_ediv_of_nonneg (by omega), Int.neg_tdiv, Int.neg_neg]
    have a1 : 0 ≤ (-x) / n := Int.ediv_nonneg (by omega) (by omega)
    have a2 : (-x) / n < 9223372036854775808 := Int.ediv_lt_of_lt_mul (by omega) (by omega)
    rw [e]
    exact okI_mk (by omega) (by omega)
/-- Five integers in memory. -/
def Five (w : World) (g : Nat) (x0 x1 x2 x3 x4 : Int) : Prop := Blk w g 23 #[.int .i64 x0, .int .i64 x1, .int .i64 x2, .int .i64 x3, .int .i64 x4]
theorem Five.cells {w : World} {g : Nat} {x0 x1 x2 x3 x4 : Int} (h : Five w g x0 x1 x2 x3 x4) : w.cell? ⟨g, 0, none⟩ = some (.int .i64 x0) ∧ w.cell? ⟨g, 1, none⟩ = some (.int .i64 x1) ∧ w.cell? ⟨g, 2, none⟩ = some (.int .i64 x2) ∧ w.cell? ⟨g, 3, none⟩ = some (.int .i64 x3) ∧ w.cell? ⟨g, 4, none⟩ = some (.int .i64 x4) :=
  ⟨Blk.cell h 0, Blk.cell h 1, Blk.cell h 2, Blk.cell h 3, Blk.cell h 4⟩
theorem Five.fr {w w' : World} {g : Nat} {x0 x1 x2 x3 x4 : Int} {S : List Nat} (h : Five w g x0 x1 x2 x3 x4) (hf : Fr S w w') (hs : g ∉ S) : Five w' g x0 x1 x2 x3 x4 := Blk.fr h hf hs
/-- What stands between the parts of Query. -/
structure QwRel (w wc : World) (g : Nat) (x0 x1 x2 x3 x4 : Int) (q : Qry) : Prop where
  five : Five wc w.heap.size x0 x1 x2 x3 x4
  res : QAt wc (w.heap.size + 1) ⟨0, 0, 0, 0, 0, 0, 0⟩
  q : QAt wc g q
  fr : Fr [] w wc
  lt : w.heap.size + 1 < g
section
variable {w wc w' : World} {g : Nat} {x0 x1 x2 x3 x4 : Int} {q q' : Qry}
theorem QAt.z (h : QAt w g q) (k : Nat) : w.frozen? ⟨g, k, none⟩ = false := Blk.frozen h k
theorem QwRel.fr0 (h : QwRel w wc g x0 x1 x2 x3 x4 q) (hf : Fr [] wc w') : QwRel w w' g x0 x1 x2 x3 x4 q := ⟨h.five.fr hf (by simp), h.res.fr hf (by simp), h.q.fr hf (by simp), h.fr.trans hf, h.lt⟩
theorem QwRel.set {k : Nat} {v : Value} (h : QwRel w wc g x0 x1 x2 x3 x4 q) (hq : QAt (wc.setCell ⟨g, k, none⟩ v) g q') : QwRel w (wc.setCell ⟨g, k, none⟩ v) g x0 x1 x2 x3 x4 q' := by
  have hf : Fr [g] wc (wc.setCell ⟨g, k, none⟩ v) := (Fr.refl _ _).setCell (.inl (by simp)) _
  have := h.lt
  exact ⟨h.five.fr hf (by simp; omega), h.res.fr hf (by simp; omega), hq, h.fr.trans' hf (by simp; omega), h.lt⟩
theorem QwRel.set2 (h : QwRel w wc g x0 x1 x2 x3 x4 q) (v : Int) : QwRel w (wc.setCell ⟨g, 2, none⟩ (.int .i64 v)) g x0 x1 x2 x3 x4 ⟨q.kind, q.table, v, q.low, q.high, q.by_, q.other⟩ := h.set (Blk.set_ h.q 2 _)
theorem QwRel.set3 (h : QwRel w wc g x0 x1 x2 x3 x4 q) (v : Int) : QwRel w (wc.setCell ⟨g, 3, none⟩ (.int .i64 v)) g x0 x1 x2 x3 x4 ⟨q.kind, q.table, q.column, v, q.high, q.by_, q.other⟩ := h.set (Blk.set_ h.q 3 _)
theorem QwRel.set4 (h : QwRel w wc g x0 x1 x2 x3 x4 q) (v : Int) : QwRel w (wc.setCell ⟨g, 4, none⟩ (.int .i64 v)) g x0 x1 x2 x3 x4 ⟨q.kind, q.table, q.column, q.low, v, q.by_, q.other⟩ := h.set (Blk.set_ h.q 4 _)
theorem QwRel.set5 (h : QwRel w wc g x0 x1 x2 x3 x4 q) (v : Int) : QwRel w (wc.setCell ⟨g, 5, none⟩ (.int .i64 v)) g x0 x1 x2 x3 x4 ⟨q.kind, q.table, q.column, q.low, q.high, v, q.other⟩ := h.set (Blk.set_ h.q 5 _)
theorem QwRel.set6 (h : QwRel w wc g x0 x1 x2 x3 x4 q) (v : Int) : QwRel w (wc.setCell ⟨g, 6, none⟩ (.int .i64 v)) g x0 x1 x2 x3 x4 ⟨q.kind, q.table, q.column, q.low, q.high, q.by_, v⟩ := h.set (Blk.set_ h.q 6 _)
def lay7 (w : World) (g : Nat) (q : Qry) : World := ((((((w.setCell ⟨g, 0, none⟩ (.int .i64 q.kind)).setCell ⟨g, 1, none⟩ (.int .i64 q.table)).setCell ⟨g, 2, none⟩ (.int .i64 q.column)).setCell ⟨g, 3, none⟩ (.int .i64 q.low)).setCell ⟨g, 4, none⟩ (.int .i64 q.high)).setCell ⟨g, 5, none⟩ (.int .i64 q.by_)).setCell ⟨g, 6, none⟩ (.int .i64 q.other)
theorem QwRel.fin (h : QwRel w wc g x0 x1 x2 x3 x4 q) : ∃ w4, lay7 wc (w.heap.size + 1) q = w4 ∧ QAt w4 (w.heap.size + 1) q ∧ Fr [] w w4 := by
  have h2 := ((((((Blk.set_ h.res 0 (.int .i64 q.kind)).set_ 1 (.int .i64 q.table)).set_ 2 (.int .i64 q.column)).set_ 3 (.int .i64 q.low)).set_ 4 (.int .i64 q.high)).set_ 5 (.int .i64 q.by_)).set_ 6 (.int .i64 q.other)
  exact ⟨_, rfl, h2, ((((((h.fr.setCell (.inr (Nat.le_succ _)) _).setCell (.inr (Nat.le_succ _)) _).setCell (.inr (Nat.le_succ _)) _).setCell (.inr (Nat.le_succ _)) _).setCell (.inr (Nat.le_succ _)) _).setCell (.inr (Nat.le_succ _)) _).setCell (.inr (Nat.le_succ _)) _⟩
end
/-- What the law's queries keep to. -/
structure QrOk (q : Qry) : Prop where
  valid : Em.valid q = true
  t : 0 ≤ q.table ∧ q.table ≤ 2
  c : 0 ≤ q.column ∧ q.column ≤ 3
  k : 1 ≤ q.kind ∧ q.kind ≤ 7
  lo : -100 ≤ q.low ∧ q.low ≤ q.high ∧ q.high ≤ 100
  o : 0 ≤ q.other ∧ q.other ≤ 2
  b : 0 ≤ q.by_ ∧ q.by_ ≤ 3
set_option maxRecDepth 100000 in
set_option maxHeartbeats 8000000 in
theorem query_any (x0 x1 x2 x3 x4 : Int) (w : World) (h0 : okI x0) (h1 : okI x1) (h2 : okI x2) (h3 : okI x3) (h4 : okI x4) :
    Calls Tryz.prog 10 #[.agg #[.int .i64 x0, .int .i64 x1, .int .i64 x2, .int .i64 x3, .int .i64 x4]] w fun e w' => ∃ q : Qry, e = .returned q.val ∧ QrOk q ∧ Fr [] w w' := by
  have F0 := ((Fr.refl [] w).alloc (.cells #[.int .i64 x0, .int .i64 x1, .int .i64 x2, .int .i64 x3, .int .i64 x4] 23)).alloc (.cells #[.int .i64 0, .int .i64 0, .int .i64 0, .int .i64 0, .int .i64 0, .int .i64 0, .int .i64 0] 28)
  have HB : Hid (Five ((w.alloc (.cells #[.int .i64 x0, .int .i64 x1, .int .i64 x2, .int .i64 x3, .int .i64 x4] 23)).alloc (.cells #[.int .i64 0, .int .i64 0, .int .i64 0, .int .i64 0, .int .i64 0, .int .i64 0, .int .i64 0] 28)) w.heap.size x0 x1 x2 x3 x4) := Lib.hid (Blk.fr (Blk.new w _ _) ((Fr.refl [] _).alloc _) (by simp))
  have hr := QAt.new (w.alloc (.cells #[.int .i64 x0, .int .i64 x1, .int .i64 x2, .int .i64 x3, .int .i64 x4] 23)) ⟨0, 0, 0, 0, 0, 0, 0⟩
  rw [World.size_alloc] at hr
  have hs : ((w.alloc (.cells #[.int .i64 x0, .int .i64 x1, .int .i64 x2, .int .i64 x3, .int .i64 x4] 23)).alloc (.cells #[.int .i64 0, .int .i64 0, .int .i64 0, .int .i64 0, .int .i64 0, .int .i64 0, .int .i64 0] 28)).heap.size = w.heap.size + 1 + 1 := by rw [World.size_alloc, World.size_alloc]
  have HS := Lib.hid hs
  have HR := Lib.hid hr
  have HF0 := Lib.hid F0
  clear hr F0 hs
  obtain ⟨p0, b0, -, K0⟩ := pick_is2 h0 (n := 7) (by decide) (by decide)
  obtain ⟨p1, b1, -, K1⟩ := pick_is2 (okI_tdiv h0 (n := 7) (by decide)) (n := 3) (by decide) (by decide)
  obtain ⟨p2, b2, -, K2⟩ := pick_is2 h1 (n := 9) (by decide) (by decide)
  obtain ⟨p3, b3, -, K3⟩ := pick_is2 (okI_tdiv h1 (n := 9) (by decide)) (n := 4) (by decide) (by decide)
  obtain ⟨p4, b4, -, K4⟩ := pick_is2 h2 (n := 14) (by decide) (by decide)
  obtain ⟨p5, b5, -, K5⟩ := pick_is h3 (n := 14) (by decide) (by decide)
  obtain ⟨p6, b6, -, K6⟩ := pick_is2 h4 (n := 3) (by decide) (by decide)
  obtain ⟨p7, b7, -, K7⟩ := pick_is2 (okI_tdiv h4 (n := 3) (by decide)) (n := 3) (by decide) (by decide)
  obtain ⟨p8, b8, -, K8⟩ := pick_is2 (okI_tdiv h4 (n := 9) (by decide)) (n := 3) (by decide) (by decide)
  have HQ := Lib.hid (IntWalk.i64_in (x0.tdiv 7) (okI_bounds (okI_tdiv h0 (n := 7) (by decide))))
  rw [← HQ.out] at K1
  have K3' := K3
  have HQ3 := Lib.hid (IntWalk.wrap64_in (x1.tdiv 9) (okI_bounds (okI_tdiv h1 (n := 9) (by decide))))
  rw [← HQ3.out] at K3
  have K7' := K7
  have HQ7 := Lib.hid (IntWalk.wrap64_in (x4.tdiv 3) (okI_bounds (okI_tdiv h4 (n := 3) (by decide))))
  rw [← HQ7.out] at K7
  have K8' := K8
  have HQ8 := Lib.hid (IntWalk.wrap64_in (x4.tdiv 9) (okI_bounds (okI_tdiv h4 (n := 9) (by decide))))
  rw [← HQ8.out] at K8
  have HW0 : Hid (IntKind.i64.wrap (1 + p0) = 1 + p0) := Lib.hid (IntWalk.i64_in _ ⟨by omega, by omega⟩)
  clear h0 h1 h2 h3 h4
  go_enter Tryz.func10, Tryz.ntmps10
  go_upto_region 1 with (fail)
  generalize hw2 : (w.alloc (.cells #[.int .i64 x0, .int .i64 x1, .int .i64 x2, .int .i64 x3, .int .i64 x4] 23)).alloc (.cells #[.int .i64 0, .int .i64 0, .int .i64 0, .int .i64 0, .int .i64 0, .int .i64 0, .int .i64 0] 28) = w2 at *
  clear hw2
  have a0 : w2.cell? ⟨w.heap.size, 0, none⟩ = some (.int .i64 x0) := HB.out.cells.1
  go_cut [3] (fun v wc => v = .pointer (some ⟨w2.heap.size, 0, none⟩) ∧ Hid (QwRel w wc w2.heap.size x0 x1 x2 x3 x4 ⟨1 + p0, p1, 0, 0, 0, 0, 0⟩))
  case first =>
    go_region_held3 (fun w' => w'.cell? ⟨w.heap.size, 0, none⟩ = some (.int .i64 x0))
      (first | exact a0 | go_keep)
      (first
        | (go_at_call 21; (with_reducible refine (K0.out _).mono ?_); rintro e w' ⟨rfl, rfl⟩)
        | (go_at_call 21; (with_reducible refine (K1.out _).mono ?_); rintro e w' ⟨rfl, rfl⟩))
    all_goals
      go_wp2_with fail
      go_meet
      refine ⟨rfl, Lib.hid ?_⟩
      rw [HW0.out]
      have hn := QAt.new w2 ⟨1 + p0, p1, 0, 0, 0, 0, 0⟩
      have hf : Fr [] w2 (w2.alloc (.cells #[.int .i64 (1 + p0), .int .i64 p1, .int .i64 0, .int .i64 0, .int .i64 0, .int .i64 0, .int .i64 0] 28)).drew := ((Fr.refl [] w2).alloc _).drew
      exact ⟨HB.out.fr hf (by simp), HR.out.fr hf (by simp), hn.fr (Fr.refl [] _).drew (by simp), HF0.out.trans hf, by rw [HS.out]; omega⟩
  case rest =>
    obtain ⟨rfl, R1⟩ := hcut
    clear HB HR HF0 a0 HW0
    generalize w2.heap.size = g at *
    have g0 := R1.out.five.cells.1
    have g1 := R1.out.five.cells.2.1
    have g2 := R1.out.five.cells.2.2.1
    have g3 := R1.out.five.cells.2.2.2.1
    have g4 := R1.out.five.cells.2.2.2.2

    by_cases hk : p0 = 0
    · subst hk
      have ek : ((1 + 0 : Int) == 1) = true := by decide
      have c0 := R1.out.q.c0
      have z0 := R1.out.q.z 0
      have c1 := R1.out.q.c1
      have z1 := R1.out.q.z 1
      have c2 := R1.out.q.c2
      have z2 := R1.out.q.z 2
      have c3 := R1.out.q.c3
      have z3 := R1.out.q.z 3
      have c4 := R1.out.q.c4
      have z4 := R1.out.q.z 4
      have c5 := R1.out.q.c5
      have z5 := R1.out.q.z 5
      have c6 := R1.out.q.c6
      have z6 := R1.out.q.z 6
      go_upto_region 3 with (fail)
      go_cut [] (fun wc => Hid (QwRel w wc g x0 x1 x2 x3 x4 ⟨1, p1, 0, 1 + p2, 0, 0, 0⟩))
      case first =>
        go_wp2_with (first | (go_at_call 21; (with_reducible refine (K2.out _).mono ?_); rintro e w' ⟨rfl, rfl⟩))
        go_meet
        exact Lib.hid (R1.out.set3 _)
      case rest =>
      have R2 := hcut
      clear hcut R1 c0 c1 c2 c3 c4 c5 c6 z0 z1 z2 z3 z4 z5 z6 g0 g1 g2 g3 g4
      have c0 := R2.out.q.c0
      have z0 := R2.out.q.z 0
      have c1 := R2.out.q.c1
      have z1 := R2.out.q.z 1
      have c2 := R2.out.q.c2
      have z2 := R2.out.q.z 2
      have c3 := R2.out.q.c3
      have z3 := R2.out.q.z 3
      have c4 := R2.out.q.c4
      have z4 := R2.out.q.z 4
      have c5 := R2.out.q.c5
      have z5 := R2.out.q.z 5
      have c6 := R2.out.q.c6
      have z6 := R2.out.q.z 6
      have g0 := R2.out.five.cells.1
      have g1 := R2.out.five.cells.2.1
      have g2 := R2.out.five.cells.2.2.1
      have g3 := R2.out.five.cells.2.2.2.1
      have g4 := R2.out.five.cells.2.2.2.2
      go_upto_region 4 with (fail)
      go_cut [] (fun wc => Hid (QwRel w wc g x0 x1 x2 x3 x4 ⟨1, p1, 0, 1 + p2, 1 + p2, 0, 0⟩))
      case first =>
        go_wp2_with (fail)
        go_meet
        exact Lib.hid (R2.out.set4 _)
      case rest =>
      have R3 := hcut
      clear hcut R2 c0 c1 c2 c3 c4 c5 c6 z0 z1 z2 z3 z4 z5 z6 g0 g1 g2 g3 g4
      have c0 := R3.out.q.c0
      have z0 := R3.out.q.z 0
      have c1 := R3.out.q.c1
      have z1 := R3.out.q.z 1
      have c2 := R3.out.q.c2
      have z2 := R3.out.q.z 2
      have c3 := R3.out.q.c3
      have z3 := R3.out.q.z 3
      have c4 := R3.out.q.c4
      have z4 := R3.out.q.z 4
      have c5 := R3.out.q.c5
      have z5 := R3.out.q.z 5
      have c6 := R3.out.q.c6
      have z6 := R3.out.q.z 6
      have g0 := R3.out.five.cells.1
      have g1 := R3.out.five.cells.2.1
      have g2 := R3.out.five.cells.2.2.1
      have g3 := R3.out.five.cells.2.2.2.1
      have g4 := R3.out.five.cells.2.2.2.2
      clear c0 c1 c2 c3 c4 c5 c6 z0 z1 z2 z3 z4 z5 z6 g0 g1 g2 g3 g4
      have c0 := R3.out.q.c0
      have c1 := R3.out.q.c1
      have c2 := R3.out.q.c2
      have c3 := R3.out.q.c3
      have c4 := R3.out.q.c4
      have c5 := R3.out.q.c5
      have c6 := R3.out.q.c6
      have y0 := R3.out.res.c0
      have v0 := R3.out.res.z 0
      have y1 := R3.out.res.c1
      have v1 := R3.out.res.z 1
      have y2 := R3.out.res.c2
      have v2 := R3.out.res.z 2
      have y3 := R3.out.res.c3
      have v3 := R3.out.res.z 3
      have y4 := R3.out.res.c4
      have v4 := R3.out.res.z 4
      have y5 := R3.out.res.c5
      have v5 := R3.out.res.z 5
      have y6 := R3.out.res.c6
      have v6 := R3.out.res.z 6
      dsimp only at c0 c1 c2 c3 c4 c5 c6 y0 y1 y2 y3 y4 y5 y6
      go_wp2_with fail
      obtain ⟨w9, e9, h9, f9⟩ := R3.out.fin
      unfold lay7 at e9
      dsimp only at e9
      rw [e9]
      have r0 := h9.c0
      have r1 := h9.c1
      have r2 := h9.c2
      have r3 := h9.c3
      have r4 := h9.c4
      have r5 := h9.c5
      have r6 := h9.c6
      dsimp only at r0 r1 r2 r3 r4 r5 r6
      refine bodyPost_ret (v := .agg #[.int .i64 (1), .int .i64 (p1), .int .i64 (0), .int .i64 (1 + p2), .int .i64 (1 + p2), .int .i64 (0), .int .i64 (0)]) (by simp [results, Tryz.results10, go_sem, r0, r1, r2, r3, r4, r5, r6]) rfl ⟨⟨1, p1, 0, 1 + p2, 1 + p2, 0, 0⟩, rfl, ?_, f9⟩
      refine ⟨?_, by dsimp only; omega, by dsimp only; omega, by dsimp only; omega, by dsimp only; omega, by dsimp only; omega, by dsimp only; omega⟩
      unfold Em.valid Em.base Em.within
      dsimp only
      simp; omega

    have hk1 : ((1 + p0 : Int) == 1) = false := by simp; omega
    have c0 := R1.out.q.c0
    have z0 := R1.out.q.z 0
    have c1 := R1.out.q.c1
    have z1 := R1.out.q.z 1
    have c2 := R1.out.q.c2
    have z2 := R1.out.q.z 2
    have c3 := R1.out.q.c3
    have z3 := R1.out.q.z 3
    have c4 := R1.out.q.c4
    have z4 := R1.out.q.z 4
    have c5 := R1.out.q.c5
    have z5 := R1.out.q.z 5
    have c6 := R1.out.q.c6
    have z6 := R1.out.q.z 6
    go_upto_region 6 with (fail)
    go_cut [] (fun wc => Hid (QwRel w wc g x0 x1 x2 x3 x4 ⟨1 + p0, p1, p3, 0, 0, 0, 0⟩))
    case first =>
      go_wp2_with (first | (go_at_call 21; (with_reducible refine (K3.out _).mono ?_); rintro e w' ⟨rfl, rfl⟩) | (go_at_call 21; (with_reducible refine (K3'.out _).mono ?_); rintro e w' ⟨rfl, rfl⟩))
      go_meet
      exact Lib.hid (R1.out.set2 _)
    case rest =>
    have R2 := hcut
    clear hcut R1 c0 c1 c2 c3 c4 c5 c6 z0 z1 z2 z3 z4 z5 z6 g0 g1 g2 g3 g4
    have c0 := R2.out.q.c0
    have z0 := R2.out.q.z 0
    have c1 := R2.out.q.c1
    have z1 := R2.out.q.z 1
    have c2 := R2.out.q.c2
    have z2 := R2.out.q.z 2
    have c3 := R2.out.q.c3
    have z3 := R2.out.q.z 3
    have c4 := R2.out.q.c4
    have z4 := R2.out.q.z 4
    have c5 := R2.out.q.c5
    have z5 := R2.out.q.z 5
    have c6 := R2.out.q.c6
    have z6 := R2.out.q.z 6
    have g0 := R2.out.five.cells.1
    have g1 := R2.out.five.cells.2.1
    have g2 := R2.out.five.cells.2.2.1
    have g3 := R2.out.five.cells.2.2.2.1
    have g4 := R2.out.five.cells.2.2.2.2
    go_upto_region 7 with (fail)
    go_cut [] (fun wc => Hid (QwRel w wc g x0 x1 x2 x3 x4 ⟨1 + p0, p1, p3, p4 - 2, 0, 0, 0⟩))
    case first =>
      go_wp2_with (first | (go_at_call 21; (with_reducible refine (K4.out _).mono ?_); rintro e w' ⟨rfl, rfl⟩))
      go_meet
      exact Lib.hid (R2.out.set3 _)
    case rest =>
    have R3 := hcut
    clear hcut R2 c0 c1 c2 c3 c4 c5 c6 z0 z1 z2 z3 z4 z5 z6 g0 g1 g2 g3 g4
    have c0 := R3.out.q.c0
    have z0 := R3.out.q.z 0
    have c1 := R3.out.q.c1
    have z1 := R3.out.q.z 1
    have c2 := R3.out.q.c2
    have z2 := R3.out.q.z 2
    have c3 := R3.out.q.c3
    have z3 := R3.out.q.z 3
    have c4 := R3.out.q.c4
    have z4 := R3.out.q.z 4
    have c5 := R3.out.q.c5
    have z5 := R3.out.q.z 5
    have c6 := R3.out.q.c6
    have z6 := R3.out.q.z 6
    have g0 := R3.out.five.cells.1
    have g1 := R3.out.five.cells.2.1
    have g2 := R3.out.five.cells.2.2.1
    have g3 := R3.out.five.cells.2.2.2.1
    have g4 := R3.out.five.cells.2.2.2.2

    clear c0 c1 c2 c3 c4 c5 c6 z0 z1 z2 z3 z4 z5 z6 g0 g1 g2 g3 g4
    go_upto_region 8 with (fail)
    go_cut [] (fun wc => Hid (QwRel w wc g x0 x1 x2 x3 x4 ⟨1 + p0, p1, p3, p4 - 2, p4 - 2 + p5, 0, 0⟩))
    case first =>
      have hl2 := Blk.lt R3.out.five
      have hl3 := Blk.lt R3.out.q
      have a2 : ∀ p : Later wc, p.w.cell? ⟨w.heap.size, 3, none⟩ = some (.int .i64 x3) := fun p => p.cell hl2 R3.out.five.cells.2.2.2.1
      have a3 : ∀ p : Later wc, p.w.cell? ⟨g, 3, none⟩ = some (.int .i64 (p4 - 2)) := fun p => p.cell hl3 R3.out.q.c3
      clear hl2 hl3
      refine wp_region_quiet_tail (C := fun w' => ∃ p : Later wc, w' = p.w) 7 (by kernel_rfl) (by kernel_rfl) ⟨⟨_, (Fr.refl [] wc).drew⟩, rfl⟩ ?_
      simp only [List.take_succ_cons, List.take_zero, List.drop_succ_cons, List.drop_zero]
      repeat (go_big_quiet_step (with_reducible exact Later.calls (K5.out _)))
      refine wpQuiet_nil ?_
      rintro wq ⟨p, hp⟩
      have fq : Fr [] wc wq := hp ▸ p.fr
      clear hp p a2 a3
      have RQ := Lib.hid (R3.out.fr0 fq)
      clear fq R3
      have c4 := RQ.out.q.c4
      have z4 := RQ.out.q.z 4
      go_wp2_with fail
      go_meet
      exact Lib.hid (RQ.out.set4 _)
    case rest =>
    have R4 := hcut
    clear hcut R3
    have c0 := R4.out.q.c0
    have z0 := R4.out.q.z 0
    have c1 := R4.out.q.c1
    have z1 := R4.out.q.z 1
    have c2 := R4.out.q.c2
    have z2 := R4.out.q.z 2
    have c3 := R4.out.q.c3
    have z3 := R4.out.q.z 3
    have c4 := R4.out.q.c4
    have z4 := R4.out.q.z 4
    have c5 := R4.out.q.c5
    have z5 := R4.out.q.z 5
    have c6 := R4.out.q.c6
    have z6 := R4.out.q.z 6
    have g0 := R4.out.five.cells.1
    have g1 := R4.out.five.cells.2.1
    have g2 := R4.out.five.cells.2.2.1
    have g3 := R4.out.five.cells.2.2.2.1
    have g4 := R4.out.five.cells.2.2.2.2

    go_upto_if 44 with (fail)
    go_cut [] (fun wn => ∃ l h : Int, (-100 ≤ l ∧ l ≤ h ∧ h ≤ 100) ∧ Hid (QwRel w wn g x0 x1 x2 x3 x4 ⟨1 + p0, p1, p3, l, h, 0, 0⟩))
    case first =>
      by_cases h3 : p3 = 3
      · subst h3
        have ec : ((3 : Int) == 3) = true := by decide
        have RA := Lib.hid ((R4.out.set3 ((p4 - 2) * 3 - 20)).set4 ((p4 - 2 + p5) * 3 - 20))
        go_wp2_with fail
        go_meet
        exact ⟨_, _, ⟨by omega, by omega, by omega⟩, RA⟩
      · have ec : (p3 == 3) = false := by simp [h3]
        go_wp2_with fail
        go_meet
        exact ⟨_, _, ⟨by omega, by omega, by omega⟩, R4⟩
    case rest =>
    obtain ⟨l, h, ⟨bl, blh, bh⟩, R5⟩ := hcut
    clear R4 c0 c1 c2 c3 c4 c5 c6 z0 z1 z2 z3 z4 z5 z6 g0 g1 g2 g3 g4
    have c0 := R5.out.q.c0
    have z0 := R5.out.q.z 0
    have c1 := R5.out.q.c1
    have z1 := R5.out.q.z 1
    have c2 := R5.out.q.c2
    have z2 := R5.out.q.z 2
    have c3 := R5.out.q.c3
    have z3 := R5.out.q.z 3
    have c4 := R5.out.q.c4
    have z4 := R5.out.q.z 4
    have c5 := R5.out.q.c5
    have z5 := R5.out.q.z 5
    have c6 := R5.out.q.c6
    have z6 := R5.out.q.z 6
    have g0 := R5.out.five.cells.1
    have g1 := R5.out.five.cells.2.1
    have g2 := R5.out.five.cells.2.2.1
    have g3 := R5.out.five.cells.2.2.2.1
    have g4 := R5.out.five.cells.2.2.2.2
    go_upto_if 57 with (fail)
    go_cut [] (fun wn => ∃ b : Int, ((3 ≤ p0 ∧ 1 ≤ b ∧ b ≤ 3) ∨ (p0 < 3 ∧ b = 0)) ∧ Hid (QwRel w wn g x0 x1 x2 x3 x4 ⟨1 + p0, p1, p3, l, h, b, 0⟩))
    case first =>
      by_cases h3 : 3 ≤ p0
      · have e4 : (4 : Int) ≤ 1 + p0 := by omega
        have R6 := Lib.hid (R5.out.set5 (1 + p6))
        go_wp2_with (first | (go_at_call 21; (with_reducible refine (K6.out _).mono ?_); rintro e w' ⟨rfl, rfl⟩))
        go_meet
        exact ⟨_, .inl ⟨h3, by omega, by omega⟩, R6⟩
      · have e4 : ¬ (4 : Int) ≤ 1 + p0 := by omega
        go_wp2_with fail
        go_meet
        exact ⟨0, .inr ⟨by omega, rfl⟩, R5⟩
    case rest =>
    obtain ⟨qb, hqb, R6⟩ := hcut
    clear R5 c0 c1 c2 c3 c4 c5 c6 z0 z1 z2 z3 z4 z5 z6 g0 g1 g2 g3 g4
    have HQB := Lib.hid hqb
    clear hqb
    have c0 : wc.cell? ⟨g, 0, none⟩ = some (.int .i64 (1 + p0)) := R6.out.q.c0
    have c5 : wc.cell? ⟨g, 5, none⟩ = some (.int .i64 qb) := R6.out.q.c5
    have c6 : wc.cell? ⟨g, 6, none⟩ = some (.int .i64 0) := R6.out.q.c6
    have z5 := R6.out.q.z 5
    have z6 := R6.out.q.z 6
    have g4 := R6.out.five.cells.2.2.2.2
    go_upto_if 65 with (fail)
    go_cut [] (fun wn => ∃ q : Qry, Hid (QrOk q) ∧ Hid (QwRel w wn g x0 x1 x2 x3 x4 q))
    case first =>
      by_cases h6 : p0 = 6
      · subst h6
        have e7 : ((1 + 6 : Int) == 7) = true := by decide
        by_cases h8 : 0 < p8
        · have R8 := Lib.hid ((R6.out.set6 p7).set5 2)
          go_wp2_with (first | (go_at_call 21; (with_reducible refine (K7.out _).mono ?_); rintro e w' ⟨rfl, rfl⟩) | (go_at_call 21; (with_reducible refine (K7'.out _).mono ?_); rintro e w' ⟨rfl, rfl⟩) | (go_at_call 21; (with_reducible refine (K8.out _).mono ?_); rintro e w' ⟨rfl, rfl⟩) | (go_at_call 21; (with_reducible refine (K8'.out _).mono ?_); rintro e w' ⟨rfl, rfl⟩))
          go_meet
          exact ⟨_, Lib.hid (by
            refine ⟨?_, by dsimp only; omega, by dsimp only; omega, by dsimp only; omega, by dsimp only; omega, by dsimp only; omega, by dsimp only; omega⟩
            unfold Em.valid Em.base Em.within
            dsimp only
            simp
            omega), R8⟩
        · have R8 := Lib.hid (R6.out.set6 p7)
          go_wp2_with (first | (go_at_call 21; (with_reducible refine (K7.out _).mono ?_); rintro e w' ⟨rfl, rfl⟩) | (go_at_call 21; (with_reducible refine (K7'.out _).mono ?_); rintro e w' ⟨rfl, rfl⟩) | (go_at_call 21; (with_reducible refine (K8.out _).mono ?_); rintro e w' ⟨rfl, rfl⟩) | (go_at_call 21; (with_reducible refine (K8'.out _).mono ?_); rintro e w' ⟨rfl, rfl⟩))
          go_meet
          have hqb := HQB.out
          exact ⟨_, Lib.hid (by
            refine ⟨?_, by dsimp only; omega, by dsimp only; omega, by dsimp only; omega, by dsimp only; omega, by dsimp only; omega, by dsimp only; omega⟩
            unfold Em.valid Em.base Em.within
            dsimp only
            simp
            omega), R8⟩
      · have e7 : ((1 + p0 : Int) == 7) = false := by simp; omega
        go_wp2_with fail
        go_meet
        have hqb := HQB.out
        exact ⟨_, Lib.hid (by
          refine ⟨?_, by dsimp only; omega, by dsimp only; omega, by dsimp only; omega, by dsimp only; omega, by dsimp only; omega, by dsimp only; omega⟩
          unfold Em.valid Em.base Em.within
          dsimp only
          have hx : p0 = 1 ∨ p0 = 2 ∨ p0 = 3 ∨ p0 = 4 ∨ p0 = 5 := by omega
          rcases hx with rfl | rfl | rfl | rfl | rfl <;> simp <;> omega), R6⟩
    case rest =>
    obtain ⟨⟨qk, qt, qc, ql, qh, qb, qo⟩, HQR, R7⟩ := hcut
    clear R6 HQB c0 c5 c6 z5 z6 g4 b0 b1 b2 b3 b4 b5 b6 b7 b8 bl blh bh hk1 hk
    have HQF : Blk wc g 28 #[.int .i64 qk, .int .i64 qt, .int .i64 qc, .int .i64 ql, .int .i64 qh, .int .i64 qb, .int .i64 qo] := R7.out.q
    have HRF : Blk wc (w.heap.size + 1) 28 #[.int .i64 0, .int .i64 0, .int .i64 0, .int .i64 0, .int .i64 0, .int .i64 0, .int .i64 0] := R7.out.res
    go_upto_region 18 with (fail)
    go_cut [] (fun wn => Hid (QAt wn (w.heap.size + 1) ⟨qk, qt, qc, ql, qh, qb, qo⟩) ∧ Hid (Fr [] w wn))
    case first =>
      go_wp2_with (first
        | (refine wpList_load_row rfl _ _ rfl g rfl 28 _ (0, 0) _ HQF Tryz.underlying28 rfl (by kernel_rfl) ?_)
        | (refine wpList_store_blk rfl _ _ _ rfl (w.heap.size + 1) #[.int .i64 qk, .int .i64 qt, .int .i64 qc, .int .i64 ql, .int .i64 qh, .int .i64 qb, .int .i64 qo] rfl rfl 28 _ HRF (by kernel_rfl) rfl rfl ?_; intro w9 hb9 hf9; have HB9 := Lib.hid hb9; have HF9 := Lib.hid hf9; clear hb9 hf9))
      go_meet
      exact ⟨HB9, Lib.hid (R7.out.fr.trans' HF9.out (fun i hi => .inr (by rw [List.mem_singleton] at hi; omega)))⟩
    case rest =>
    obtain ⟨HB9, HF9⟩ := hcut
    clear R7 HQF HRF
    have HB9' : Blk wc (w.heap.size + 1) 28 #[.int .i64 qk, .int .i64 qt, .int .i64 qc, .int .i64 ql, .int .i64 qh, .int .i64 qb, .int .i64 qo] := HB9.out
    have r0 : wc.cell? ⟨w.heap.size + 1, 0, none⟩ = some (.int .i64 qk) := HB9'.cell 0
    have r1 : wc.cell? ⟨w.heap.size + 1, 1, none⟩ = some (.int .i64 qt) := HB9'.cell 1
    have r2 : wc.cell? ⟨w.heap.size + 1, 2, none⟩ = some (.int .i64 qc) := HB9'.cell 2
    have r3 : wc.cell? ⟨w.heap.size + 1, 3, none⟩ = some (.int .i64 ql) := HB9'.cell 3
    have r4 : wc.cell? ⟨w.heap.size + 1, 4, none⟩ = some (.int .i64 qh) := HB9'.cell 4
    have r5 : wc.cell? ⟨w.heap.size + 1, 5, none⟩ = some (.int .i64 qb) := HB9'.cell 5
    have r6 : wc.cell? ⟨w.heap.size + 1, 6, none⟩ = some (.int .i64 qo) := HB9'.cell 6
    refine (‹∀ (a : Act) (w : World), Code.wp Tryz.prog Code.ret _ a w → _› : _) _ _ ?_
    refine wp_ret ?_
    refine bodyPost_ret (v := .agg #[.int .i64 qk, .int .i64 qt, .int .i64 qc, .int .i64 ql, .int .i64 qh, .int .i64 qb, .int .i64 qo]) ?hr ?hd ?hR
    case hd => rfl
    case hR => exact ⟨⟨qk, qt, qc, ql, qh, qb, qo⟩, rfl, HQR.out, HF9.out⟩
    case hr =>
      simp [results, Tryz.results10, go_sem, r0, r1, r2, r3, r4, r5, r6]
end Go.Proofs.YtjiikpmkedkbkaaGreat
namespace Go.Proofs.YtjiikpmkedkbkaaGreat
open Go

section
variable {P : Program} {md : Region.Mode} {ops : Array Oper} {Q : Exit → Act → World → Prop} {S : World → Prop}
/-- Two operations may come up: each is carried out, S shown anew. -/
theorem wpHead_two {n i j : Nat} {oi oj : Oper} {f : Nat} {done : Array Bool} {a : Act} {w : World} (hoi : ops[i]? = some oi) (hoj : ops[j]? = some oj) (hr : Region.ready md ops done = [i, j]) (hin : i < n) (hjn : j < n)
    (h1 : ∀ K' : Act → World → Prop, Shut (∀ a w, S w → (S w → wpHead P md ops Q S n f (done.setIfInBounds i true) a w) → K' a w) → if Region.wanted oi (yielded ops a.tmps) = true then Oper.wp P oi a w K' Q else K' (a.put oi.dst undef) w)
    (h2 : ∀ K' : Act → World → Prop, Shut (∀ a w, S w → (S w → wpHead P md ops Q S n f (done.setIfInBounds j true) a w) → K' a w) → if Region.wanted oj (yielded ops a.tmps) = true then Oper.wp P oj a w K' Q else K' (a.put oj.dst undef) w) :
    wpHead P md ops Q S n (f + 1) done a w := fun inv => by
  refine ⟨by rw [hr]; simp, fun k hk => ?_⟩
  have hk' : k = i ∨ k = j := by rw [hr] at hk; simpa using hk
  rcases hk' with hk' | hk'
  · subst hk'
    exact ⟨hin, wpOp_step hoi (fun K' hK => h1 K' (fun a w hS hW => hK a w ⟨hS, hW hS (inv.set hk hin)⟩))⟩
  · subst hk'
    exact ⟨hjn, wpOp_step hoj (fun K' hK => h2 K' (fun a w hS hW => hK a w ⟨hS, hW hS (inv.set hk hjn)⟩))⟩
end
end Go.Proofs.YtjiikpmkedkbkaaGreat
namespace Go.Proofs.YtjiikpmkedkbkaaGreat
open Go.RowKit Go.WideShapes Go.ChangeShapes


/-- The integers of a query fit. -/
structure QryFit (q : Qry) : Prop where
  k : okI q.kind
  t : okI q.table
  c : okI q.column
  lo : okI q.low
  hi : okI q.high
  b : okI q.by_
  o : okI q.other
set_option maxRecDepth 100000 in
theorem qryCells : Tryz.prog.cellsOf 28 = 7 := by kernel_rfl
set_option maxRecDepth 100000 in
theorem qryInt : Tryz.prog.cellsOf 3 = 1 := by kernel_rfl
set_option maxRecDepth 100000 in
theorem open_query {H : Type} {enc : TypeId × Value → H} {W : World} {base : Nat} {v : Value} {d : DataW H} {p : List MemPlace} (hv : Value.okWide Tryz.prog W .any base 28 v)
    (h : DataW.Trod enc Tryz.prog W 0 (fun _ => true) true 28 v d p) : ∃ q : Qry, v = q.val ∧ QryFit q := by
  obtain ⟨arr, rfl, hs⟩ := okWide_struct Tryz.underlying28 hv
  rw [qryCells] at hs
  obtain ⟨c0, c1, c2, c3, c4, c5, c6, rfl⟩ : ∃ c0 c1 c2 c3 c4 c5 c6, arr = #[c0, c1, c2, c3, c4, c5, c6] := by
    obtain ⟨l⟩ := arr
    match l, hs with
    | [c0, c1, c2, c3, c4, c5, c6], _ => exact ⟨_, _, _, _, _, _, _, rfl⟩
  obtain ⟨fuel, hf⟩ := h
  obtain ⟨xs, m, _, _, hl, hxl, hat⟩ := DataW.trod_struct Tryz.underlying28 hf
  have hxs : xs.length = 7 := hxl
  have h0 : DataW.trod enc Tryz.prog W 0 (fun _ => true) true m 3 (([c0, c1, c2, c3, c4, c5, c6].drop 0).take (Tryz.prog.cellsOf 3)) = xs[0]? := hat 0 _ rfl
  have h1 : DataW.trod enc Tryz.prog W 0 (fun _ => true) true m 3 (([c0, c1, c2, c3, c4, c5, c6].drop 1).take (Tryz.prog.cellsOf 3)) = xs[1]? := hat 1 _ rfl
  have h2 : DataW.trod enc Tryz.prog W 0 (fun _ => true) true m 3 (([c0, c1, c2, c3, c4, c5, c6].drop 2).take (Tryz.prog.cellsOf 3)) = xs[2]? := hat 2 _ rfl
  have h3 : DataW.trod enc Tryz.prog W 0 (fun _ => true) true m 3 (([c0, c1, c2, c3, c4, c5, c6].drop 3).take (Tryz.prog.cellsOf 3)) = xs[3]? := hat 3 _ rfl
  have h4 : DataW.trod enc Tryz.prog W 0 (fun _ => true) true m 3 (([c0, c1, c2, c3, c4, c5, c6].drop 4).take (Tryz.prog.cellsOf 3)) = xs[4]? := hat 4 _ rfl
  have h5 : DataW.trod enc Tryz.prog W 0 (fun _ => true) true m 3 (([c0, c1, c2, c3, c4, c5, c6].drop 5).take (Tryz.prog.cellsOf 3)) = xs[5]? := hat 5 _ rfl
  have h6 : DataW.trod enc Tryz.prog W 0 (fun _ => true) true m 3 (([c0, c1, c2, c3, c4, c5, c6].drop 6).take (Tryz.prog.cellsOf 3)) = xs[6]? := hat 6 _ rfl
  rw [List.getElem?_eq_getElem (by omega), qryInt] at h0 h1 h2 h3 h4 h5 h6
  obtain ⟨z0, e0, _, w0⟩ := DataW.trod_int Tryz.underlying3 h0
  obtain ⟨z1, e1, _, w1⟩ := DataW.trod_int Tryz.underlying3 h1
  obtain ⟨z2, e2, _, w2⟩ := DataW.trod_int Tryz.underlying3 h2
  obtain ⟨z3, e3, _, w3⟩ := DataW.trod_int Tryz.underlying3 h3
  obtain ⟨z4, e4, _, w4⟩ := DataW.trod_int Tryz.underlying3 h4
  obtain ⟨z5, e5, _, w5⟩ := DataW.trod_int Tryz.underlying3 h5
  obtain ⟨z6, e6, _, w6⟩ := DataW.trod_int Tryz.underlying3 h6
  injection e0 with e0
  injection e1 with e1
  injection e2 with e2
  injection e3 with e3
  injection e4 with e4
  injection e5 with e5
  injection e6 with e6
  subst e0 e1 e2 e3 e4 e5 e6
  exact ⟨⟨z0, z1, z2, z3, z4, z5, z6⟩, rfl, ⟨w0, w1, w2, w3, w4, w5, w6⟩⟩

/-- The integers of a row fit. -/
structure RowFit (r : RowV) : Prop where
  t : okI r.t
  k : okI r.k
  x : okI r.x
  y : okI r.y
  z : okI r.z
set_option maxRecDepth 100000 in
theorem rowCells : Tryz.prog.cellsOf 53 = 5 := by kernel_rfl
set_option maxRecDepth 100000 in
theorem threeCells : Tryz.prog.cellsOf 43 = 3 := by kernel_rfl
set_option maxRecDepth 100000 in
theorem boolCells : Tryz.prog.cellsOf 4 = 1 := by kernel_rfl
set_option maxRecDepth 100000 in
theorem rowsCells : Tryz.prog.cellsOf 32 = 1 := by kernel_rfl
set_option maxRecDepth 100000 in
theorem rsCells : Tryz.prog.cellsOf 34 = 3 := by kernel_rfl
section
variable {H : Type} {enc : TypeId × Value → H} {W : World}
set_option maxRecDepth 100000 in
theorem open_rowc {n : Nat} {cs : List Value} {x : DataW H × List MemPlace} (h : DataW.trod enc Tryz.prog W 0 (fun _ => true) true n 53 cs = some x) : ∃ c : RowV, cs = c.cells ∧ RowFit c := by
  obtain ⟨xs, m, _, _, hl, hxl, hat⟩ := DataW.trod_struct Tryz.underlying53 h
  rw [rowCells] at hl
  obtain ⟨c0, c1, c2, c3, c4, rfl⟩ : ∃ c0 c1 c2 c3 c4, cs = [c0, c1, c2, c3, c4] := by
    match cs, hl with
    | [c0, c1, c2, c3, c4], _ => exact ⟨_, _, _, _, _, rfl⟩
  have hxs : xs.length = 3 := hxl
  have h0 : DataW.trod enc Tryz.prog W 0 (fun _ => true) true m 3 (([c0, c1, c2, c3, c4].drop 0).take (Tryz.prog.cellsOf 3)) = xs[0]? := hat 0 _ rfl
  have h1 : DataW.trod enc Tryz.prog W 0 (fun _ => true) true m 3 (([c0, c1, c2, c3, c4].drop 1).take (Tryz.prog.cellsOf 3)) = xs[1]? := hat 1 _ rfl
  have h2 : DataW.trod enc Tryz.prog W 0 (fun _ => true) true m 43 (([c0, c1, c2, c3, c4].drop 2).take (Tryz.prog.cellsOf 43)) = xs[2]? := hat 2 _ rfl
  rw [List.getElem?_eq_getElem (by omega)] at h0 h1 h2
  rw [qryInt] at h0 h1
  rw [threeCells] at h2
  obtain ⟨z0, e0, _, w0⟩ := DataW.trod_int Tryz.underlying3 h0
  obtain ⟨z1, e1, _, w1⟩ := DataW.trod_int Tryz.underlying3 h1
  obtain ⟨y2, y3, y4, n2, _, g2, g3, g4⟩ := trod_array3 (c0 := c2) (c1 := c3) (c2 := c4) Tryz.underlying43 qryInt h2
  obtain ⟨z2, e2, _, w2⟩ := DataW.trod_int Tryz.underlying3 g2
  obtain ⟨z3, e3, _, w3⟩ := DataW.trod_int Tryz.underlying3 g3
  obtain ⟨z4, e4, _, w4⟩ := DataW.trod_int Tryz.underlying3 g4
  have k0 : [c0] = [Value.int .i64 z0] := e0
  have k1 : [c1] = [Value.int .i64 z1] := e1
  injection k0 with k0
  injection k1 with k1
  injection e2 with k2
  injection e3 with k3
  injection e4 with k4
  subst k0 k1 k2 k3 k4
  exact ⟨⟨z0, z1, z2, z3, z4⟩, rfl, ⟨w0, w1, w2, w3, w4⟩⟩
theorem addr_add (b o j : Nat) : (⟨b, o, none⟩ : Addr).add j = ⟨b, o + j, none⟩ := by unfold Addr.add; split <;> simp_all
/-- Rows that were handed in. -/
theorem open_rowsv {n : Nat} {cv : Value} {x : DataW H × List MemPlace} (h : DataW.trod enc Tryz.prog W 0 (fun _ => true) true n 32 [cv] = some x) :
    ∃ A len cap cs, cv = .slice A len cap ∧ len ≤ cap ∧ cap ≤ maxLen ∧ cs.length = len ∧ RowsAt W A cs ∧ ∀ c ∈ cs, RowFit c := by
  rcases Go.Deep.open_slice Tryz.underlying32 h with ⟨hcs, _⟩ | ⟨a, len, cap, m, n, D, Pl, hcs, _, hl, hm, hmm, _, hi⟩
  · injection hcs with hcs
    subst hcs
    exact ⟨none, 0, 0, [], rfl, Nat.le_refl _, by simp [maxLen], rfl, fun h => absurd h (by simp), by simp⟩
  · injection hcs with hcs
    subst hcs
    simp only [if_true] at hmm
    subst hmm
    have each : ∀ i, i < len → ∃ c : RowV, (∀ j, j < 5 → W.cell? ((a.add (i * 5)).add j) = c.cells[j]?) ∧ RowFit c := fun i hil => by
      obtain ⟨cs', hc, ht⟩ := hi i (by omega)
      rw [rowCells] at hc
      obtain ⟨c, rfl, hf⟩ := open_rowc ht
      obtain ⟨_, hcl, hcell⟩ := World.cells?_some hc
      exact ⟨c, fun j hj => hcell j hj, hf⟩
    refine ⟨some a, len, _, (List.range len).map (fun i => if h : i < len then (each i h).choose else ⟨0, 0, 0, 0, 0⟩), rfl, hl, hm, by simp, fun hp => ?_, fun c hc => ?_⟩
    · have h0 : 0 < len := by simpa using hp
      obtain ⟨b, off, spot⟩ := a
      have hz := (each 0 h0).choose_spec.1 0 (by decide)
      generalize (each 0 h0).choose = c0 at hz
      have hz' : W.cell? ((({ block := b, off := off, spot := spot } : Addr).add (0 * 5)).add 0) = some (.int .i64 c0.t) := hz
      have hspot : spot = none := by simpa [Addr.add] using World.cell?_spot hz'
      subst hspot
      refine ⟨b, off, rfl, ?_, fun i hil j hj => ?_⟩
      · have h4 := World.block_lt_of_cell? W _ hz'
        simpa [Addr.add] using h4
      · have hil' : i < len := by simpa using hil
        have h5 := (each i hil').choose_spec.1 j hj
        have e5 : ((⟨b, off, none⟩ : Addr).add (i * 5)).add j = ⟨b, off + i * 5 + j, none⟩ := by rw [addr_add, addr_add]
        rw [← e5]
        refine h5.trans ?_
        simp only [List.getElem_map, List.getElem_range, dif_pos hil']
    · obtain ⟨i, hir, rfl⟩ := List.mem_map.1 hc
      have hil : i < len := by simpa using hir
      rw [dif_pos hil]
      exact (each i hil).choose_spec.2
set_option maxRecDepth 100000 in
theorem open_rows {base : Nat} {v : Value} {d : DataW H} {p : List MemPlace} (hv : Value.okWide Tryz.prog W .any base 32 v)
    (h : DataW.Trod enc Tryz.prog W 0 (fun _ => true) true 32 v d p) :
    ∃ A n cap L, v = .slice A n cap ∧ n ≤ cap ∧ cap ≤ maxLen ∧ L.length = n ∧ RowsAt W A L ∧ ∀ r ∈ L, RowFit r := by
  obtain ⟨a0, len, cap, rfl⟩ := okWide_slice Tryz.underlying32 hv
  obtain ⟨fuel, hf⟩ := h
  obtain ⟨A, n, c, cs, e, h1, h2, h3, h4, h5⟩ := open_rowsv (cv := .slice a0 len cap) hf
  exact ⟨A, n, c, cs, e, h1, h2, h3, h4, h5⟩
set_option maxRecDepth 100000 in
theorem open_result {base : Nat} {v : Value} {d : DataW H} {p : List MemPlace} (hv : Value.okWide Tryz.prog W .any base 34 v)
    (h : DataW.Trod enc Tryz.prog W 0 (fun _ => true) true 34 v d p) :
    ∃ A n cap L z f, v = .agg #[.slice A n cap, .int .i64 z, .bool f] ∧ n ≤ cap ∧ cap ≤ maxLen ∧ L.length = n ∧ RowsAt W A L ∧ okI z := by
  obtain ⟨arr, rfl, hs⟩ := okWide_struct Tryz.underlying34 hv
  rw [rsCells] at hs
  obtain ⟨c0, c1, c2, rfl⟩ : ∃ c0 c1 c2, arr = #[c0, c1, c2] := by
    obtain ⟨l⟩ := arr
    match l, hs with
    | [c0, c1, c2], _ => exact ⟨_, _, _, rfl⟩
  obtain ⟨fuel, hf⟩ := h
  obtain ⟨xs, m, _, _, hl, hxl, hat⟩ := DataW.trod_struct Tryz.underlying34 hf
  have hxs : xs.length = 3 := hxl
  have h0 : DataW.trod enc Tryz.prog W 0 (fun _ => true) true m 32 (([c0, c1, c2].drop 0).take (Tryz.prog.cellsOf 32)) = xs[0]? := hat 0 _ rfl
  have h1 : DataW.trod enc Tryz.prog W 0 (fun _ => true) true m 3 (([c0, c1, c2].drop 1).take (Tryz.prog.cellsOf 3)) = xs[1]? := hat 1 _ rfl
  have h2 : DataW.trod enc Tryz.prog W 0 (fun _ => true) true m 4 (([c0, c1, c2].drop 2).take (Tryz.prog.cellsOf 4)) = xs[2]? := hat 2 _ rfl
  rw [List.getElem?_eq_getElem (by omega)] at h0 h1 h2
  rw [rowsCells] at h0
  rw [qryInt] at h1
  rw [boolCells] at h2
  obtain ⟨A, n, c, cs, e, g1, g2, g3, g4, g5⟩ := open_rowsv (cv := c0) h0
  obtain ⟨z1, e1, _, w1⟩ := DataW.trod_int Tryz.underlying3 h1
  obtain ⟨z2, e2, _⟩ := DataW.trod_bool Tryz.underlying4 h2
  have k1 : [c1] = [Value.int .i64 z1] := e1
  have k2 : [c2] = [Value.bool z2] := e2
  injection k1 with k1
  injection k2 with k2
  subst e k1 k2
  exact ⟨A, n, c, cs, z1, z2, rfl, g1, g2, g3, g4, w1⟩
end
/-- The integers of a change fit. -/
structure ChgFit (c : Chg) : Prop where
  t : okI c.t
  k : okI c.k
  o0 : okI c.o0
  o1 : okI c.o1
  o2 : okI c.o2
  n0 : okI c.n0
  n1 : okI c.n1
  n2 : okI c.n2
set_option maxRecDepth 100000 in
theorem chgCells : Tryz.prog.cellsOf 45 = 10 := by kernel_rfl
section
variable {H : Type} {enc : TypeId × Value → H} {W : World}
set_option maxRecDepth 100000 in
theorem open_chg {n : Nat} {cs : List Value} {x : DataW H × List MemPlace} (h : DataW.trod enc Tryz.prog W 0 (fun _ => true) true n 45 cs = some x) : ∃ c : Chg, cs = c.cells ∧ ChgFit c := by
  obtain ⟨xs, m, _, _, hl, hxl, hat⟩ := DataW.trod_struct Tryz.underlying45 h
  rw [chgCells] at hl
  obtain ⟨c0, c1, c2, c3, c4, c5, c6, c7, c8, c9, rfl⟩ : ∃ c0 c1 c2 c3 c4 c5 c6 c7 c8 c9, cs = [c0, c1, c2, c3, c4, c5, c6, c7, c8, c9] := by
    match cs, hl with
    | [c0, c1, c2, c3, c4, c5, c6, c7, c8, c9], _ => exact ⟨_, _, _, _, _, _, _, _, _, _, rfl⟩
  have hxs : xs.length = 6 := hxl
  have h0 : DataW.trod enc Tryz.prog W 0 (fun _ => true) true m 3 (([c0, c1, c2, c3, c4, c5, c6, c7, c8, c9].drop 0).take (Tryz.prog.cellsOf 3)) = xs[0]? := hat 0 _ rfl
  have h1 : DataW.trod enc Tryz.prog W 0 (fun _ => true) true m 3 (([c0, c1, c2, c3, c4, c5, c6, c7, c8, c9].drop 1).take (Tryz.prog.cellsOf 3)) = xs[1]? := hat 1 _ rfl
  have h2 : DataW.trod enc Tryz.prog W 0 (fun _ => true) true m 4 (([c0, c1, c2, c3, c4, c5, c6, c7, c8, c9].drop 2).take (Tryz.prog.cellsOf 4)) = xs[2]? := hat 2 _ rfl
  have h3 : DataW.trod enc Tryz.prog W 0 (fun _ => true) true m 43 (([c0, c1, c2, c3, c4, c5, c6, c7, c8, c9].drop 3).take (Tryz.prog.cellsOf 43)) = xs[3]? := hat 3 _ rfl
  have h4 : DataW.trod enc Tryz.prog W 0 (fun _ => true) true m 4 (([c0, c1, c2, c3, c4, c5, c6, c7, c8, c9].drop 6).take (Tryz.prog.cellsOf 4)) = xs[4]? := hat 4 _ rfl
  have h5 : DataW.trod enc Tryz.prog W 0 (fun _ => true) true m 43 (([c0, c1, c2, c3, c4, c5, c6, c7, c8, c9].drop 7).take (Tryz.prog.cellsOf 43)) = xs[5]? := hat 5 _ rfl
  rw [List.getElem?_eq_getElem (by omega)] at h0 h1 h2 h3 h4 h5
  rw [qryInt] at h0 h1
  rw [boolCells] at h2 h4
  rw [threeCells] at h3 h5
  obtain ⟨z0, e0, _, w0⟩ := DataW.trod_int Tryz.underlying3 h0
  obtain ⟨z1, e1, _, w1⟩ := DataW.trod_int Tryz.underlying3 h1
  obtain ⟨z2, e2, _⟩ := DataW.trod_bool Tryz.underlying4 h2
  obtain ⟨z6, e6, _⟩ := DataW.trod_bool Tryz.underlying4 h4
  obtain ⟨y3, y4, y5, n3, _, g3, g4, g5⟩ := trod_array3 (c0 := c3) (c1 := c4) (c2 := c5) Tryz.underlying43 qryInt h3
  obtain ⟨y7, y8, y9, n7, _, g7, g8, g9⟩ := trod_array3 (c0 := c7) (c1 := c8) (c2 := c9) Tryz.underlying43 qryInt h5
  obtain ⟨z3, e3, _, w3⟩ := DataW.trod_int Tryz.underlying3 g3
  obtain ⟨z4, e4, _, w4⟩ := DataW.trod_int Tryz.underlying3 g4
  obtain ⟨z5, e5, _, w5⟩ := DataW.trod_int Tryz.underlying3 g5
  obtain ⟨z7, e7, _, w7⟩ := DataW.trod_int Tryz.underlying3 g7
  obtain ⟨z8, e8, _, w8⟩ := DataW.trod_int Tryz.underlying3 g8
  obtain ⟨z9, e9, _, w9⟩ := DataW.trod_int Tryz.underlying3 g9
  have k0 : [c0] = [Value.int .i64 z0] := e0
  have k1 : [c1] = [Value.int .i64 z1] := e1
  have k2 : [c2] = [Value.bool z2] := e2
  have k6 : [c6] = [Value.bool z6] := e6
  injection k0 with k0
  injection k1 with k1
  injection k2 with k2
  injection e3 with k3
  injection e4 with k4
  injection e5 with k5
  injection k6 with k6
  injection e7 with k7
  injection e8 with k8
  injection e9 with k9
  subst k0 k1 k2 k3 k4 k5 k6 k7 k8 k9
  exact ⟨⟨z0, z1, z2, z3, z4, z5, z6, z7, z8, z9⟩, rfl, ⟨w0, w1, w3, w4, w5, w7, w8, w9⟩⟩
set_option maxRecDepth 100000 in
theorem open_change {base : Nat} {v : Value} {d : DataW H} {p : List MemPlace} (hv : Value.okWide Tryz.prog W .any base 45 v)
    (h : DataW.Trod enc Tryz.prog W 0 (fun _ => true) true 45 v d p) : ∃ c : Chg, v = c.val ∧ ChgFit c := by
  obtain ⟨arr, rfl, hs⟩ := okWide_struct Tryz.underlying45 hv
  obtain ⟨fuel, hf⟩ := h
  obtain ⟨l⟩ := arr
  obtain ⟨c, hc, hfit⟩ := open_chg hf
  have hc' : l = c.cells := hc
  subst hc'
  exact ⟨c, rfl, hfit⟩
set_option maxRecDepth 100000 in
theorem fiveCells : Tryz.prog.cellsOf 23 = 5 := by kernel_rfl
set_option maxRecDepth 100000 in
theorem open_five {base : Nat} {v : Value} {d : DataW H} {p : List MemPlace} (hv : Value.okWide Tryz.prog W .any base 23 v)
    (h : DataW.Trod enc Tryz.prog W 0 (fun _ => true) true 23 v d p) :
    ∃ a b c e f, v = .agg #[.int .i64 a, .int .i64 b, .int .i64 c, .int .i64 e, .int .i64 f] ∧ okI a ∧ okI b ∧ okI c ∧ okI e ∧ okI f := by
  unfold Value.okWide at hv
  rw [Tryz.underlying23] at hv
  obtain ⟨cs, rfl, hs, _⟩ := hv
  rw [fiveCells] at hs
  obtain ⟨c0, c1, c2, c3, c4, rfl⟩ : ∃ c0 c1 c2 c3 c4, cs = #[c0, c1, c2, c3, c4] := by
    obtain ⟨l⟩ := cs
    match l, hs with
    | [c0, c1, c2, c3, c4], _ => exact ⟨c0, c1, c2, c3, c4, rfl⟩
  obtain ⟨fuel, ht⟩ := h
  obtain ⟨xs, q, _, _, hlen, hxl, hat⟩ := DataW.trod_array Tryz.underlying23 ht
  rw [qryInt] at hat
  have h0 := hat 0 (by omega)
  have h1 := hat 1 (by omega)
  have h2 := hat 2 (by omega)
  have h3 := hat 3 (by omega)
  have h4 := hat 4 (by omega)
  rw [List.getElem?_eq_getElem (by omega)] at h0 h1 h2 h3 h4
  obtain ⟨z0, e0, _, w0⟩ := DataW.trod_int Tryz.underlying3 h0
  obtain ⟨z1, e1, _, w1⟩ := DataW.trod_int Tryz.underlying3 h1
  obtain ⟨z2, e2, _, w2⟩ := DataW.trod_int Tryz.underlying3 h2
  obtain ⟨z3, e3, _, w3⟩ := DataW.trod_int Tryz.underlying3 h3
  obtain ⟨z4, e4, _, w4⟩ := DataW.trod_int Tryz.underlying3 h4
  have k0 : [c0] = [Value.int .i64 z0] := e0
  have k1 : [c1] = [Value.int .i64 z1] := e1
  have k2 : [c2] = [Value.int .i64 z2] := e2
  have k3 : [c3] = [Value.int .i64 z3] := e3
  have k4 : [c4] = [Value.int .i64 z4] := e4
  injection k0 with k0
  injection k1 with k1
  injection k2 with k2
  injection k3 with k3
  injection k4 with k4
  subst k0 k1 k2 k3 k4
  exact ⟨z0, z1, z2, z3, z4, rfl, w0, w1, w2, w3, w4⟩
end

end Go.Proofs.YtjiikpmkedkbkaaGreat

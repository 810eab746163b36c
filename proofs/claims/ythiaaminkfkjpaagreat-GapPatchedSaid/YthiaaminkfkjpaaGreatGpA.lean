/-
  GapPatched: what lies in memory beside what lies between two records: the receiver and the log's row.
-/
import Derived.Test.YthiaaminkfkjpaaGreatGbn
import Derived.Test.YthiaaminkfkjpaaGreatGbk
import Derived.Test.YthiaaminkfkjpaaGreatGbj
import Derived.Test.YthiaaminkfkjpaaGreatGbh
import Derived.OpenShut
import Derived.Deep.Slices
import Derived.Laws.IdiomArrays
namespace Go.Proofs.YthiaaminkfkjpaaGreat
open Go.RowKit Go.WideShapes Go.ChangeShapes

theorem OwnR.val {w : World} {v : Value} {out : List Rec} (h : OwnR w v out) : ∃ A cap, v = .slice A out.length cap := by
  obtain ⟨us, h1, rfl, _⟩ := h
  obtain ⟨A, cap, hv⟩ := h1.val
  exact ⟨A, cap, by rw [hv, List.length_map]⟩
theorem receive_n (b m cap : Nat) (c : Gm.Rcv) (r : Rec) (A : Option Addr) (n : Nat) (p : Int) (w : World) (h : RcvAt w b m c) (hc : HoldsC w A r.cs) (hlen : r.cs.length ≤ 8) (hn : n = r.cs.length) (hp : p = r.p) :
    Calls Tryz.prog 10 #[.pointer (some ⟨b, 0, none⟩), .agg #[.int .i64 p, .slice A n cap]] w fun e w' =>
      e = .returned (.bool (Gm.took c r)) ∧ RcvAt w' b m (Gm.receive c r) ∧ Fr [b, m] w w' := by
  subst hn
  subst hp
  exact receive_any b m cap c r A w h hc (Nat.le_trans hlen (by decide))
theorem okI_tdiv {x : Int} (h : okI x) {n : Int} (hn : 2 ≤ n) : okI (x.tdiv n) := by
  obtain ⟨h1, h2⟩ := okI_bounds h
  rcases Int.le_total 0 x with h0 | h0
  · rw [Int.tdiv_eq_ediv_of_nonneg h0]
    have a1 : 0 ≤ x / n := Int.ediv_nonneg h0 (by omega)
    have a2 : x / n ≤ x := Int.ediv_le_self n h0
    exact okI_mk (by omega) (by omega)
  · have e : x.tdiv n = -((-x) / n) := by
      rw [← Int.tdiv_eq_ediv_of_nonneg (by omega), Int.neg_tdiv, Int.neg_neg]
    have a1 : 0 ≤ (-x) / n := Int.ediv_nonneg (by omega) (by omega)
    have a2 : (-x) / n < 9223372036854775808 := Int.ediv_lt_of_lt_mul (by omega) (by omega)
    rw [e]
    exact okI_mk (by omega) (by omega)
theorem gpick_is {c : Int} {n : Nat} (hc : okI c) (h3 : 1 ≤ n) (h4 : n ≤ 1000000000) : ∃ k : Nat, k < n ∧ Hid (∀ W, Calls Tryz.prog 6 #[.int .i64 c, .int .i64 n] W fun e w' => e = .returned (.int .i64 k) ∧ W = w') := by
  obtain ⟨h1, h2⟩ := okI_bounds hc
  have p1 := pickI_nonneg c (n := n) (by omega)
  have p2 := pickI_lt c (n := n) (by omega)
  exact ⟨(pickI c n).toNat, by omega, Lib.hid fun W => (pick_any c n W h1 h2 (by omega) (by omega)).mono fun _ _ ⟨he, hw⟩ => ⟨by rw [he, Int.toNat_of_nonneg p1], hw⟩⟩
/-- What is taken stands in the log behind what was taken before. -/
theorem Gc.got {l : List Rec} {c c' : Gm.Rcv} {out got : List Rec} (h : Gc l c out) (h' : Gc l c' (out ++ got)) :
    out = l.take out.length ∧ c.pos = out.length ∧ c'.pos = ((out.length + got.length : Nat) : Int) ∧ out.length + got.length ≤ l.length ∧ out ++ got = l.take (out.length + got.length) ∧ ∀ k (hk : k < got.length), ∃ hl : out.length + k < l.length, got[k] = l[out.length + k] := by
  have a1 := congrArg List.length h.out
  have a2 := congrArg List.length h'.out
  have b1 := h.pN
  have b2 := h'.pN
  have c1 := h.p0
  have c2 := h'.p0
  rw [List.length_take] at a1 a2
  rw [List.length_append] at a2
  have e1 : out.length = c.pos.toNat := by omega
  have e2 : out.length + got.length = c'.pos.toNat := by omega
  have e3 : out ++ got = l.take (out.length + got.length) := by rw [e2]; exact h'.out
  refine ⟨by rw [e1]; exact h.out, by omega, by omega, by omega, e3, fun k hk => ⟨by omega, ?_⟩⟩
  have h1 : (out ++ got)[out.length + k]? = some got[k] := by
    rw [List.getElem?_append_right (by omega), Nat.add_sub_cancel_left, List.getElem?_eq_getElem hk]
  rw [e3, List.getElem?_take, if_pos (by omega), List.getElem?_eq_getElem (by omega)] at h1
  exact (Option.some.inj h1).symm
/-- The receiver and the log's row. -/
structure GxAt (w0 wr : World) (bx mx ms : Nat) (l : List Rec) (A2 : Option Addr) (n2 c2 : Nat) (c : Gm.Rcv) (out : List Rec) : Prop where
  rcv : RcvAt wr bx mx c
  log : OwnR wr (.slice A2 n2 c2) l
  gc : Gc l c out
  new : w0.heap.size ≤ bx ∧ w0.heap.size ≤ mx
  ne : mx ≠ ms
section
variable {w0 wr w' : World} {bx mx bs ms gq : Nat} {l lx : List Rec} {A2 Ax : Option Addr} {n2 c2 nx cx : Nat} {q : Qry} {s : Sm.Sta} {c : Gm.Rcv} {out : List Rec}
theorem GxAt.fr0 (h : GxAt w0 wr bx mx ms l A2 n2 c2 c out) (hf : Fr [] wr w') : GxAt w0 w' bx mx ms l A2 n2 c2 c out :=
  ⟨h.rcv.fr0 hf, h.log.keep0 hf, h.gc, h.new, h.ne⟩
theorem GxAt.frS (h : GxAt w0 wr bx mx ms l A2 n2 c2 c out) (hs : StaAt wr bs ms s) (hf : Fr [bs, ms] wr w') : GxAt w0 w' bx mx ms l A2 n2 c2 c out := by
  have e1 : bx ≠ bs := Blk.ne h.rcv.blk hs.blk (by decide)
  have e2 : ms ≠ bx := hs.map.ne h.rcv.blk
  have e3 : mx ≠ bs := by
    obtain ⟨M, hm, _⟩ := h.rcv.map
    exact hm.ne hs.blk
  exact ⟨h.rcv.fr hf (by simp [e1, Ne.symm e2]) (by simp [e3, h.ne]) (NoC.cons (noC_blk hs.blk (by decide)) (NoC.cons (noC_map hs.map) NoC.nil)), h.log.keepS hs hf, h.gc, h.new, h.ne⟩
theorem OwnR.frB {v : Value} {g : Nat} {cs : Array Value} (h : OwnR wr v l) (hb : Blk wr g 37 cs) (hf : Fr [g] wr w') : OwnR w' v l := by
  obtain ⟨us, h4, h5, h6⟩ := h
  exact OwnR.fr ⟨us, h4, h5, h6⟩ hf (fun x hx => by simpa using h4.ne hb (by decide) hx) (NoC.cons (noC_blk hb (by decide)) NoC.nil)
theorem OwnR.frQ {v : Value} (h : OwnR wr v l) (hb : QAt wr gq q) (hf : Fr [gq] wr w') : OwnR w' v l := by
  obtain ⟨us, h4, h5, h6⟩ := h
  exact OwnR.fr ⟨us, h4, h5, h6⟩ hf (fun x hx => by simpa using h4.ne hb (by decide) hx) (NoC.cons (noC_blk hb (by decide)) NoC.nil)
theorem GxAt.frR {g : Nat} {cs : Array Value} (h : GxAt w0 wr bx mx ms l A2 n2 c2 c out) (hb : Blk wr g 37 cs) (hf : Fr [g] wr w') : GxAt w0 w' bx mx ms l A2 n2 c2 c out := by
  have e1 : bx ≠ g := Blk.ne h.rcv.blk hb (by decide)
  have e3 : mx ≠ g := by
    obtain ⟨M, hm, _⟩ := h.rcv.map
    exact hm.ne hb
  exact ⟨h.rcv.fr hf (by simp [e1]) (by simp [e3]) (NoC.cons (noC_blk hb (by decide)) NoC.nil), h.log.frB hb hf, h.gc, h.new, h.ne⟩
/-- Rows stay where a receiver changes. -/
theorem AtL.frG {w w' : World} {A : Option Addr} {L : List RowV} {b m : Nat} {c : Gm.Rcv} (h : AtL RowV.cells 5 w A L) (hr : RcvAt w b m c) (hf : Fr [b, m] w w') : AtL RowV.cells 5 w' A L := by
  intro hl
  obtain ⟨b', off, e, hlt, hc⟩ := h hl
  have h4 := hc 0 hl 4 (by decide)
  have hs4 : (RowV.cells L[0])[4]? = some (.int .i64 L[0].z) := rfl
  rw [hs4] at h4
  have h1 : b' ≠ b := by
    rintro rfl
    rw [hr.blk.cell] at h4
    have : (off + 0 * 5 + 4) < 3 := by
      have h5 := Array.getElem?_eq_some_iff.1 h4
      exact h5.1
    omega
  have h2 : b' ≠ m := by
    rintro rfl
    obtain ⟨M, hm0, -⟩ := hr.map
    obtain ⟨es, clock, hm, -⟩ := hm0
    have h5 : w.cell? ⟨b', off + 0 * 5 + 4, none⟩ = none := by
      unfold World.cell?
      simp [hm]
    rw [h5] at h4
    cases h4
  exact ⟨b', off, e, Nat.lt_of_lt_of_le hlt hf.size, fun i hi j hj => (hf.cell hlt (by simp [h1, h2])).trans (hc i hi j hj)⟩
theorem RvAt.frX {g : Nat} {A : Option Addr} {n cp : Nat} {r : Res} (h : RvAt wr g A n cp r) (hr : RcvAt wr bx mx c) (hf : Fr [bx, mx] wr w') : RvAt w' g A n cp r := by
  have h1 : g ≠ bx := Blk.ne h.blk hr.blk (by decide)
  have h2 : mx ≠ g := by
    obtain ⟨M, hm, _⟩ := hr.map
    exact hm.ne h.blk
  exact ⟨h.blk.fr hf (by simp [h1, Ne.symm h2]), h.rows.frG hr hf, h.len⟩
theorem PgAt.frX (h : PgAt w0 wr bs ms gq lx Ax nx cx q s) (hx : GxAt w0 wr bx mx ms l A2 n2 c2 c out) (hf : Fr [bx, mx] wr w') : PgAt w0 w' bs ms gq lx Ax nx cx q s := by
  have e1 : bs ≠ bx := Blk.ne h.sta.blk hx.rcv.blk (by decide)
  have e2 : ms ≠ bx := h.sta.map.ne hx.rcv.blk
  obtain ⟨M, hm, _⟩ := hx.rcv.map
  have e3 : mx ≠ bs := hm.ne h.sta.blk
  have e4 : gq ≠ bx := Blk.ne h.q hx.rcv.blk (by decide)
  have e5 : mx ≠ gq := hm.ne h.q
  exact ⟨h.sta.fr hf (by simp [e1, Ne.symm e3]) (by simp [e2, Ne.symm hx.ne]), h.row.keep hx.rcv hf, h.q.fr hf (by simp [e4, Ne.symm e5]), h.fr.trans' hf (fun x hxm => .inr (by
    simp only [List.mem_cons, List.not_mem_nil, or_false] at hxm
    have := hx.new
    rcases hxm with rfl | rfl <;> omega)), h.new⟩
theorem GxAt.receive (h : GxAt w0 wr bx mx ms l A2 n2 c2 c out) (hl : Lg.Ok l) (hn : l.length ≤ 40) {i : Nat} (hi : i < l.length) (A : Option Addr) (n cap : Nat) (p : Int) (hc : HoldsC wr A l[i].cs) (hlen : l[i].cs.length ≤ 8) (hnn : n = l[i].cs.length) (hp : p = l[i].p) :
    Calls Tryz.prog 10 #[.pointer (some ⟨bx, 0, none⟩), .agg #[.int .i64 p, .slice A n cap]] wr fun e w' => ∃ (b : Bool) (c' : Gm.Rcv), e = .returned (.bool b) ∧ GxAt w0 w' bx mx ms l A2 n2 c2 c' out ∧ Fr [bx, mx] wr w' := by
  refine (receive_n bx mx cap c l[i] A n p wr h.rcv hc hlen hnn hp).mono ?_
  rintro e w' ⟨he, hr, hf⟩
  obtain ⟨g1, _⟩ := h.gc.receive hl hn hi
  exact ⟨_, _, he, ⟨hr, h.log.keep h.rcv hf, g1, h.new, h.ne⟩, hf⟩
theorem GxAt.take (h : GxAt w0 wr bx mx ms l A2 n2 c2 c out) (hl : Lg.Ok l) :
    Calls Tryz.prog 11 #[.pointer (some ⟨bx, 0, none⟩)] wr fun e w' => ∃ (A6 : Option Addr) (n6 c6 : Nat) (got : List Rec) (c' : Gm.Rcv), e = .returned (.slice A6 n6 c6) ∧ OwnR w' (.slice A6 n6 c6) got ∧ GxAt w0 w' bx mx ms l A2 n2 c2 c' (out ++ got) ∧ Fr [bx, mx] wr w' := by
  refine (take_any bx mx c wr h.rcv).mono ?_
  rintro e w' ⟨v2, ⟨he, hv⟩, hr, hf⟩
  obtain ⟨A6, c6, rfl⟩ := hv.val
  obtain ⟨g1, _⟩ := Gc.take hl c.L.length c out h.gc h.rcv.ok (Nat.le_refl _)
  exact ⟨A6, _, c6, _, _, he, hv, ⟨hr, h.log.keep h.rcv hf, g1, h.new, h.ne⟩, hf⟩
/-- Another row in the place of the log's. -/
theorem PgAt.row_ (h : PgAt w0 wr bs ms gq lx Ax nx cx q s) (hr : OwnR wr (.slice A2 n2 c2) l) : PgAt w0 wr bs ms gq l A2 n2 c2 q s := ⟨h.sta, hr, h.q, h.fr, h.new⟩
end
theorem gsame_rv {w : World} {g g' : Nat} {A A' : Option Addr} {n n' c c' : Nat} {r r' : Res} (h : RvAt w g A n c r) (h' : RvAt w g' A' n' c' r') (hl : r.rows.length ≤ 4000) (hl' : r'.rows.length ≤ 4000) {b : Bool} (hb : decide (r = r') = b) :
    Calls Tryz.prog 14 #[.agg #[.slice A n c, .int .i64 r.value, .bool r.found], .agg #[.slice A' n' c', .int .i64 r'.value, .bool r'.found]] w fun e w' => e = .returned (.bool b) ∧ Fr [] w w' := by
  subst hb
  exact esame_any A n c r.value r.found r.rows A' n' c' r'.value r'.found r'.rows w h.rows h.len h'.rows h'.len (by rw [h.len]; exact hl) (by rw [h'.len]; exact hl')
/-- The box of four integers. -/
def Box4 (w : World) (g : Nat) (x0 x1 x2 x3 : Int) : Prop := Blk w g 24 #[.int .i64 x0, .int .i64 x1, .int .i64 x2, .int .i64 x3]
/-- A law's query is valid. -/
theorem gq_valid {k : Int} {t c lo hi b : Int} (hk : 2 ≤ k ∧ k ≤ 6) (ht : 0 ≤ t ∧ t ≤ 2) (hc : 0 ≤ c ∧ c ≤ 3) (hlo : 0 ≤ lo ∧ lo ≤ hi ∧ hi ≤ 40) (hb : (k < 4 → b = 0) ∧ (4 ≤ k → 1 ≤ b ∧ b ≤ 3)) : Em.valid ⟨k, t, c, lo, hi, b, 0⟩ = true := by
  unfold Em.valid Em.base Em.within
  dsimp only
  have hx : k = 2 ∨ k = 3 ∨ k = 4 ∨ k = 5 ∨ k = 6 := by omega
  rcases hx with rfl | rfl | rfl | rfl | rfl <;> simp at hb ⊢ <;> omega
set_option maxRecDepth 100000 in
theorem gfourInt : Tryz.prog.cellsOf 3 = 1 := by kernel_rfl
set_option maxRecDepth 100000 in
theorem gfourCells : Tryz.prog.cellsOf 24 = 4 := by kernel_rfl
set_option maxRecDepth 100000 in
theorem open_four {H : Type} {enc : TypeId × Value → H} {W : World} {base : Nat} {v : Value} {d : DataW H} {p : List MemPlace} (hv : Value.okWide Tryz.prog W .any base 24 v)
    (h : DataW.Trod enc Tryz.prog W 0 (fun _ => true) true 24 v d p) :
    ∃ a b c e, v = .agg #[.int .i64 a, .int .i64 b, .int .i64 c, .int .i64 e] ∧ okI a ∧ okI b ∧ okI c ∧ okI e := by
  unfold Value.okWide at hv
  rw [Tryz.underlying24] at hv
  obtain ⟨cs, rfl, hs, _⟩ := hv
  rw [gfourCells] at hs
  obtain ⟨c0, c1, c2, c3, rfl⟩ : ∃ c0 c1 c2 c3, cs = #[c0, c1, c2, c3] := by
    obtain ⟨l⟩ := cs
    match l, hs with
    | [c0, c1, c2, c3], _ => exact ⟨c0, c1, c2, c3, rfl⟩
  obtain ⟨fuel, hf⟩ := h
  obtain ⟨y0, y1, y2, y3, n, _, h0, h1, h2, h3⟩ := trod_array4 Tryz.underlying24 gfourInt hf
  obtain ⟨z0, e0, _, w0⟩ := DataW.trod_int Tryz.underlying3 h0
  obtain ⟨z1, e1, _, w1⟩ := DataW.trod_int Tryz.underlying3 h1
  obtain ⟨z2, e2, _, w2⟩ := DataW.trod_int Tryz.underlying3 h2
  obtain ⟨z3, e3, _, w3⟩ := DataW.trod_int Tryz.underlying3 h3
  injection e0 with e0
  injection e1 with e1
  injection e2 with e2
  injection e3 with e3
  subst e0 e1 e2 e3
  exact ⟨z0, z1, z2, z3, rfl, w0, w1, w2, w3⟩
end Go.Proofs.YthiaaminkfkjpaaGreat

/-
  kinds: the map of the kinds of queries.
-/
import Derived.Test.YtciaallekkdnhaaGreatJf
import Derived.Test.YtciaallekkdnhaaGreatJd
import Derived.Deep.DeepCutAuto
import Derived.Shelf.Abstract
namespace Go.Proofs.YtciaallekkdnhaaGreat
open Go.RowKit

/-- The cells of an effect. -/
abbrev effArr (q : Qry) (c : Chg) (pb pa : Option Addr) (u v : Int) : Array Value := #[.int .i64 q.kind, .int .i64 q.table, .int .i64 q.column, .int .i64 q.low, .int .i64 q.high, .int .i64 q.by_, .int .i64 q.other, .int .i64 c.t, .int .i64 c.k, .bool c.had, .int .i64 c.o0, .int .i64 c.o1, .int .i64 c.o2, .bool c.has, .int .i64 c.n0, .int .i64 c.n1, .int .i64 c.n2, .pointer pb, .pointer pa, .int .i64 u, .int .i64 v]
/-- An effect in memory. -/
def EffAt (w : World) (g : Nat) (q : Qry) (c : Chg) (pb pa : Option Addr) (u v : Int) : Prop := Blk w g 103 (effArr q c pb pa u v)
section
variable {w w' : World} {g : Nat} {q : Qry} {c : Chg} {pb pa : Option Addr} {u v : Int}
theorem EffAt.fr {S : List Nat} (h : EffAt w g q c pb pa u v) (hf : Fr S w w') (hs : g ∉ S) : EffAt w' g q c pb pa u v := Blk.fr h hf hs
theorem EffAt.fr0 (h : EffAt w g q c pb pa u v) (hf : Fr [] w w') : EffAt w' g q c pb pa u v := Blk.fr h hf (by simp)
theorem EffAt.new (w : World) (q : Qry) (c : Chg) (pb pa : Option Addr) (u v : Int) : EffAt (w.alloc (.cells (effArr q c pb pa u v) 103)) w.heap.size q c pb pa u v := Blk.new _ _ _
theorem EffAt.c0 (h : EffAt w g q c pb pa u v) : w.cell? ⟨g, 0, none⟩ = some (.int .i64 q.kind) := Blk.cell h 0
theorem EffAt.c1 (h : EffAt w g q c pb pa u v) : w.cell? ⟨g, 1, none⟩ = some (.int .i64 q.table) := Blk.cell h 1
theorem EffAt.c2 (h : EffAt w g q c pb pa u v) : w.cell? ⟨g, 2, none⟩ = some (.int .i64 q.column) := Blk.cell h 2
theorem EffAt.c3 (h : EffAt w g q c pb pa u v) : w.cell? ⟨g, 3, none⟩ = some (.int .i64 q.low) := Blk.cell h 3
theorem EffAt.c4 (h : EffAt w g q c pb pa u v) : w.cell? ⟨g, 4, none⟩ = some (.int .i64 q.high) := Blk.cell h 4
theorem EffAt.c5 (h : EffAt w g q c pb pa u v) : w.cell? ⟨g, 5, none⟩ = some (.int .i64 q.by_) := Blk.cell h 5
theorem EffAt.c6 (h : EffAt w g q c pb pa u v) : w.cell? ⟨g, 6, none⟩ = some (.int .i64 q.other) := Blk.cell h 6
theorem EffAt.c7 (h : EffAt w g q c pb pa u v) : w.cell? ⟨g, 7, none⟩ = some (.int .i64 c.t) := Blk.cell h 7
theorem EffAt.c8 (h : EffAt w g q c pb pa u v) : w.cell? ⟨g, 8, none⟩ = some (.int .i64 c.k) := Blk.cell h 8
theorem EffAt.c9 (h : EffAt w g q c pb pa u v) : w.cell? ⟨g, 9, none⟩ = some (.bool c.had) := Blk.cell h 9
theorem EffAt.c10 (h : EffAt w g q c pb pa u v) : w.cell? ⟨g, 10, none⟩ = some (.int .i64 c.o0) := Blk.cell h 10
theorem EffAt.c11 (h : EffAt w g q c pb pa u v) : w.cell? ⟨g, 11, none⟩ = some (.int .i64 c.o1) := Blk.cell h 11
theorem EffAt.c12 (h : EffAt w g q c pb pa u v) : w.cell? ⟨g, 12, none⟩ = some (.int .i64 c.o2) := Blk.cell h 12
theorem EffAt.c13 (h : EffAt w g q c pb pa u v) : w.cell? ⟨g, 13, none⟩ = some (.bool c.has) := Blk.cell h 13
theorem EffAt.c14 (h : EffAt w g q c pb pa u v) : w.cell? ⟨g, 14, none⟩ = some (.int .i64 c.n0) := Blk.cell h 14
theorem EffAt.c15 (h : EffAt w g q c pb pa u v) : w.cell? ⟨g, 15, none⟩ = some (.int .i64 c.n1) := Blk.cell h 15
theorem EffAt.c16 (h : EffAt w g q c pb pa u v) : w.cell? ⟨g, 16, none⟩ = some (.int .i64 c.n2) := Blk.cell h 16
theorem EffAt.c17 (h : EffAt w g q c pb pa u v) : w.cell? ⟨g, 17, none⟩ = some (.pointer pb) := Blk.cell h 17
theorem EffAt.c18 (h : EffAt w g q c pb pa u v) : w.cell? ⟨g, 18, none⟩ = some (.pointer pa) := Blk.cell h 18
theorem EffAt.c19 (h : EffAt w g q c pb pa u v) : w.cell? ⟨g, 19, none⟩ = some (.int .i64 u) := Blk.cell h 19
theorem EffAt.c20 (h : EffAt w g q c pb pa u v) : w.cell? ⟨g, 20, none⟩ = some (.int .i64 v) := Blk.cell h 20
/-- The block of an effect is no row's. -/
theorem EffAt.ne_row (h : EffAt w g q c pb pa u v) : ∀ g' cs, Blk w g' 116 cs → g' ≠ g := fun g' cs hb e => by
  subst e
  unfold EffAt at h
  unfold Blk at h hb
  rw [h] at hb
  injection hb with hb
  injection hb with _ ht
  exact absurd ht (by decide)
theorem Blk.ne_row {cs : Array Value} (h : Blk w g 103 cs) : ∀ g' cs, Blk w g' 116 cs → g' ≠ g := fun g' cs hb e => by
  subst e
  unfold Blk at h hb
  rw [h] at hb
  injection hb with hb
  injection hb with _ ht
  exact absurd ht (by decide)
theorem PtrR.frE {p : Option Addr} {x : Option RowV} (h : PtrR w p x) (hf : Fr [g] w w') (hn : ∀ g' cs, Blk w g' 116 cs → g' ≠ g) : PtrR w' p x := by
  cases x with
  | none => exact h
  | some r =>
    obtain ⟨g', e, hb⟩ := h
    exact ⟨g', e, hb.fr hf (by rw [List.mem_singleton]; exact hn g' _ hb)⟩
theorem EffAt.fill {u0 u1 u2 u3 u4 u5 u6 u7 u8 u9 u10 u11 u12 u13 u14 u15 u16 u17 u18 u19 u20 : Value} (h : Blk w g 103 #[u0, u1, u2, u3, u4, u5, u6, u7, u8, u9, u10, u11, u12, u13, u14, u15, u16, u17, u18, u19, u20]) (v0 v1 v2 v3 v4 v5 v6 v7 v8 v9 v10 v11 v12 v13 v14 v15 v16 v17 v18 v19 v20 : Value) :
    ∃ w3, ((((((((((((((((((((w.setCell ⟨g, 0, none⟩ (v0)).setCell ⟨g, 1, none⟩ (v1)).setCell ⟨g, 2, none⟩ (v2)).setCell ⟨g, 3, none⟩ (v3)).setCell ⟨g, 4, none⟩ (v4)).setCell ⟨g, 5, none⟩ (v5)).setCell ⟨g, 6, none⟩ (v6)).setCell ⟨g, 7, none⟩ (v7)).setCell ⟨g, 8, none⟩ (v8)).setCell ⟨g, 9, none⟩ (v9)).setCell ⟨g, 10, none⟩ (v10)).setCell ⟨g, 11, none⟩ (v11)).setCell ⟨g, 12, none⟩ (v12)).setCell ⟨g, 13, none⟩ (v13)).setCell ⟨g, 14, none⟩ (v14)).setCell ⟨g, 15, none⟩ (v15)).setCell ⟨g, 16, none⟩ (v16)).setCell ⟨g, 17, none⟩ (v17)).setCell ⟨g, 18, none⟩ (v18)).setCell ⟨g, 19, none⟩ (v19)).setCell ⟨g, 20, none⟩ (v20) = w3 ∧ Blk w3 g 103 #[v0, v1, v2, v3, v4, v5, v6, v7, v8, v9, v10, v11, v12, v13, v14, v15, v16, v17, v18, v19, v20] ∧ Fr [g] w w3 :=
  ⟨_, rfl, Blk.fill h [v0, v1, v2, v3, v4, v5, v6, v7, v8, v9, v10, v11, v12, v13, v14, v15, v16, v17, v18, v19, v20] rfl, Fr.puts [v0, v1, v2, v3, v4, v5, v6, v7, v8, v9, v10, v11, v12, v13, v14, v15, v16, v17, v18, v19, v20] 0 (Fr.refl [g] w) (.inl (by simp))⟩
end
set_option maxRecDepth 100000 in
set_option maxHeartbeats 8000000 in
/-- What effectOf hands out. -/
theorem effectOf_any (q : Qry) (c : Chg) (w : World) : Calls Tryz.prog 45 #[q.val, c.val] w fun e w' => ∃ pb pa, e = .returned (.agg (effArr q c pb pa (Pm.old q c) (Pm.now q c))) ∧ PtrR w' pb (Pm.B q c) ∧ PtrR w' pa (Pm.A q c) ∧ Fr [] w w' := by
  have HBF := Lib.hid (pbefore_any c)
  have HAF := Lib.hid (pafter_any c)
  have HSC := Lib.hid (scanned_any q)
  obtain ⟨k, t, col, lo, hi, b, o⟩ := q
  obtain ⟨ct, ck, had, o0, o1, o2, has, n0, n1, n2⟩ := c
  obtain ⟨RB, hRB⟩ : ∃ x, Pm.B ⟨k, t, col, lo, hi, b, o⟩ ⟨ct, ck, had, o0, o1, o2, has, n0, n1, n2⟩ = x := ⟨_, rfl⟩
  obtain ⟨RA, hRA⟩ : ∃ x, Pm.A ⟨k, t, col, lo, hi, b, o⟩ ⟨ct, ck, had, o0, o1, o2, has, n0, n1, n2⟩ = x := ⟨_, rfl⟩
  obtain ⟨u, hu⟩ : ∃ x, Pm.old ⟨k, t, col, lo, hi, b, o⟩ ⟨ct, ck, had, o0, o1, o2, has, n0, n1, n2⟩ = x := ⟨_, rfl⟩
  obtain ⟨v, hv⟩ : ∃ x, Pm.now ⟨k, t, col, lo, hi, b, o⟩ ⟨ct, ck, had, o0, o1, o2, has, n0, n1, n2⟩ = x := ⟨_, rfl⟩
  rw [hRB, hRA, hu, hv]
  have HRB := Lib.hid hRB
  have HRA := Lib.hid hRA
  have HU : Hid (u = Pm.me ⟨k, t, col, lo, hi, b, o⟩ RB) := Lib.hid (by rw [← hu, ← hRB]; rfl)
  have HV : Hid (v = Pm.me ⟨k, t, col, lo, hi, b, o⟩ RA) := Lib.hid (by rw [← hv, ← hRA]; rfl)
  clear hRB hRA hu hv
  have F0 : Hid (Fr [] w (((w.alloc (.cells #[.int .i64 k, .int .i64 t, .int .i64 col, .int .i64 lo, .int .i64 hi, .int .i64 b, .int .i64 o] 35)).alloc (.cells #[.int .i64 ct, .int .i64 ck, .bool had, .int .i64 o0, .int .i64 o1, .int .i64 o2, .bool has, .int .i64 n0, .int .i64 n1, .int .i64 n2] 59)).alloc (.cells #[.int .i64 0, .int .i64 0, .int .i64 0, .int .i64 0, .int .i64 0, .int .i64 0, .int .i64 0, .int .i64 0, .int .i64 0, .bool false, .int .i64 0, .int .i64 0, .int .i64 0, .bool false, .int .i64 0, .int .i64 0, .int .i64 0, .pointer none, .pointer none, .int .i64 0, .int .i64 0] 103))) := Lib.hid ((((Fr.refl _ _).alloc _).alloc _).alloc _)
  have hq := QAt.new w ⟨k, t, col, lo, hi, b, o⟩
  have HQ : Hid (QAt (((w.alloc (.cells #[.int .i64 k, .int .i64 t, .int .i64 col, .int .i64 lo, .int .i64 hi, .int .i64 b, .int .i64 o] 35)).alloc (.cells #[.int .i64 ct, .int .i64 ck, .bool had, .int .i64 o0, .int .i64 o1, .int .i64 o2, .bool has, .int .i64 n0, .int .i64 n1, .int .i64 n2] 59)).alloc (.cells #[.int .i64 0, .int .i64 0, .int .i64 0, .int .i64 0, .int .i64 0, .int .i64 0, .int .i64 0, .int .i64 0, .int .i64 0, .bool false, .int .i64 0, .int .i64 0, .int .i64 0, .bool false, .int .i64 0, .int .i64 0, .int .i64 0, .pointer none, .pointer none, .int .i64 0, .int .i64 0] 103)) w.heap.size ⟨k, t, col, lo, hi, b, o⟩) := Lib.hid ((Blk.alloc hq _).alloc _)
  have hc := Blk.new (w.alloc (.cells #[.int .i64 k, .int .i64 t, .int .i64 col, .int .i64 lo, .int .i64 hi, .int .i64 b, .int .i64 o] 35)) 59 #[.int .i64 ct, .int .i64 ck, .bool had, .int .i64 o0, .int .i64 o1, .int .i64 o2, .bool has, .int .i64 n0, .int .i64 n1, .int .i64 n2]
  rw [World.size_alloc] at hc
  have HC : Hid (Blk (((w.alloc (.cells #[.int .i64 k, .int .i64 t, .int .i64 col, .int .i64 lo, .int .i64 hi, .int .i64 b, .int .i64 o] 35)).alloc (.cells #[.int .i64 ct, .int .i64 ck, .bool had, .int .i64 o0, .int .i64 o1, .int .i64 o2, .bool has, .int .i64 n0, .int .i64 n1, .int .i64 n2] 59)).alloc (.cells #[.int .i64 0, .int .i64 0, .int .i64 0, .int .i64 0, .int .i64 0, .int .i64 0, .int .i64 0, .int .i64 0, .int .i64 0, .bool false, .int .i64 0, .int .i64 0, .int .i64 0, .bool false, .int .i64 0, .int .i64 0, .int .i64 0, .pointer none, .pointer none, .int .i64 0, .int .i64 0] 103)) (w.heap.size + 1) 59 #[.int .i64 ct, .int .i64 ck, .bool had, .int .i64 o0, .int .i64 o1, .int .i64 o2, .bool has, .int .i64 n0, .int .i64 n1, .int .i64 n2]) := Lib.hid (hc.alloc _)
  have hz := Blk.new ((w.alloc (.cells #[.int .i64 k, .int .i64 t, .int .i64 col, .int .i64 lo, .int .i64 hi, .int .i64 b, .int .i64 o] 35)).alloc (.cells #[.int .i64 ct, .int .i64 ck, .bool had, .int .i64 o0, .int .i64 o1, .int .i64 o2, .bool has, .int .i64 n0, .int .i64 n1, .int .i64 n2] 59)) 103 #[.int .i64 0, .int .i64 0, .int .i64 0, .int .i64 0, .int .i64 0, .int .i64 0, .int .i64 0, .int .i64 0, .int .i64 0, .bool false, .int .i64 0, .int .i64 0, .int .i64 0, .bool false, .int .i64 0, .int .i64 0, .int .i64 0, .pointer none, .pointer none, .int .i64 0, .int .i64 0]
  rw [World.size_alloc, World.size_alloc] at hz
  have HZ := Lib.hid hz
  have HSZ : Hid ((((w.alloc (.cells #[.int .i64 k, .int .i64 t, .int .i64 col, .int .i64 lo, .int .i64 hi, .int .i64 b, .int .i64 o] 35)).alloc (.cells #[.int .i64 ct, .int .i64 ck, .bool had, .int .i64 o0, .int .i64 o1, .int .i64 o2, .bool has, .int .i64 n0, .int .i64 n1, .int .i64 n2] 59)).alloc (.cells #[.int .i64 0, .int .i64 0, .int .i64 0, .int .i64 0, .int .i64 0, .int .i64 0, .int .i64 0, .int .i64 0, .int .i64 0, .bool false, .int .i64 0, .int .i64 0, .int .i64 0, .bool false, .int .i64 0, .int .i64 0, .int .i64 0, .pointer none, .pointer none, .int .i64 0, .int .i64 0] 103)).heap.size = w.heap.size + 1 + 1 + 1) := Lib.hid (by simp [World.size_alloc])
  clear hq hc hz
  unfold Qry.val
  go_enter Tryz.func45, Tryz.ntmps45
  go_upto_region 1 with (fail)
  generalize (((w.alloc (.cells #[.int .i64 k, .int .i64 t, .int .i64 col, .int .i64 lo, .int .i64 hi, .int .i64 b, .int .i64 o] 35)).alloc (.cells #[.int .i64 ct, .int .i64 ck, .bool had, .int .i64 o0, .int .i64 o1, .int .i64 o2, .bool has, .int .i64 n0, .int .i64 n1, .int .i64 n2] 59)).alloc (.cells #[.int .i64 0, .int .i64 0, .int .i64 0, .int .i64 0, .int .i64 0, .int .i64 0, .int .i64 0, .int .i64 0, .int .i64 0, .bool false, .int .i64 0, .int .i64 0, .int .i64 0, .bool false, .int .i64 0, .int .i64 0, .int .i64 0, .pointer none, .pointer none, .int .i64 0, .int .i64 0] 103)) = w1 at *
  have q0 := HQ.out.c0
  have q1 := HQ.out.c1
  have q2 := HQ.out.c2
  have q3 := HQ.out.c3
  have q4 := HQ.out.c4
  have q5 := HQ.out.c5
  have q6 := HQ.out.c6
  dsimp only at q0 q1 q2 q3 q4 q5 q6

  have c0 := HC.out.cell 0
  have c1 := HC.out.cell 1
  have c2 := HC.out.cell 2
  have c3 := HC.out.cell 3
  have c4 := HC.out.cell 4
  have c5 := HC.out.cell 5
  have c6 := HC.out.cell 6
  have c7 := HC.out.cell 7
  have c8 := HC.out.cell 8
  have c9 := HC.out.cell 9
  go_upto_region 2 with (first
    | (refine wpList_build_is rfl _ _ rfl #[.int .i64 k, .int .i64 t, .int .i64 col, .int .i64 lo, .int .i64 hi, .int .i64 b, .int .i64 o, .int .i64 ct, .int .i64 ck, .bool had, .int .i64 o0, .int .i64 o1, .int .i64 o2, .bool has, .int .i64 n0, .int .i64 n1, .int .i64 n2, .pointer none, .pointer none, .int .i64 0, .int .i64 0] (by kernel_rfl) ?_)
    | (refine wpList_store_blk rfl _ _ _ rfl w1.heap.size #[.int .i64 k, .int .i64 t, .int .i64 col, .int .i64 lo, .int .i64 hi, .int .i64 b, .int .i64 o, .int .i64 ct, .int .i64 ck, .bool had, .int .i64 o0, .int .i64 o1, .int .i64 o2, .bool has, .int .i64 n0, .int .i64 n1, .int .i64 n2, .pointer none, .pointer none, .int .i64 0, .int .i64 0] rfl rfl 103 #[.int .i64 0, .int .i64 0, .int .i64 0, .int .i64 0, .int .i64 0, .int .i64 0, .int .i64 0, .int .i64 0, .int .i64 0, .bool false, .int .i64 0, .int .i64 0, .int .i64 0, .bool false, .int .i64 0, .int .i64 0, .int .i64 0, .pointer none, .pointer none, .int .i64 0, .int .i64 0] (Blk.new _ _ _) (by kernel_rfl) rfl rfl ?_
       intro w2 hb2 hf2
       have HB2 := Lib.hid hb2
       have HF2 := Lib.hid (((Fr.refl [] w1).alloc (.cells #[.int .i64 0, .int .i64 0, .int .i64 0, .int .i64 0, .int .i64 0, .int .i64 0, .int .i64 0, .int .i64 0, .int .i64 0, .bool false, .int .i64 0, .int .i64 0, .int .i64 0, .bool false, .int .i64 0, .int .i64 0, .int .i64 0, .pointer none, .pointer none, .int .i64 0, .int .i64 0] 103)).trans' hf2 (fun i hi => .inr (by rw [List.mem_singleton] at hi; omega)))
       clear hb2 hf2))
  have Q2 := Lib.hid (HQ.out.fr HF2.out (by simp))
  have C2 := Lib.hid (HC.out.fr HF2.out (by simp))
  have Z2 := Lib.hid (HZ.out.fr HF2.out (by simp))
  have E2 : Hid (EffAt w2 w1.heap.size ⟨k, t, col, lo, hi, b, o⟩ ⟨ct, ck, had, o0, o1, o2, has, n0, n1, n2⟩ none none 0 0) := HB2
  have F2 := Lib.hid (F0.out.trans HF2.out)
  have HGE := Lib.hid (HSZ.out)
  clear HQ HC HZ HF2 HB2 HSZ F0 q0 q1 q2 q3 q4 q5 q6 c0 c1 c2 c3 c4 c5 c6 c7 c8 c9
  obtain ⟨ge, hge⟩ : ∃ x, w1.heap.size = x := ⟨_, rfl⟩
  rw [hge] at E2 HGE ⊢
  clear hge
  go_upto_region 3 with (fail)
  have d0 := C2.out.cell 0
  have d1 := C2.out.cell 1
  have d2 := C2.out.cell 2
  have d3 := C2.out.cell 3
  have d4 := C2.out.cell 4
  have d5 := C2.out.cell 5
  have d6 := C2.out.cell 6
  have d7 := C2.out.cell 7
  have d8 := C2.out.cell 8
  have d9 := C2.out.cell 9
  go_upto_region 4 with (first
    | (go_at_call 89
       refine (HBF.out _).mono ?_
       rintro e w3 ⟨⟨rt, rk, rx, ry, rz⟩, rfl, hbe, f3⟩
       have Q3 := Lib.hid (Q2.out.fr f3 (by simp))
       have C3 := Lib.hid (C2.out.fr f3 (by simp))
       have Z3 := Lib.hid (Z2.out.fr f3 (by simp))
       have E3 := Lib.hid (E2.out.fr0 f3)
       have F3 := Lib.hid (F2.out.trans f3)
       have HX : Hid (Pm.sc ⟨k, t, col, lo, hi, b, o⟩ (if had = true then some ⟨rt, rk, rx, ry, rz⟩ else none) = RB) := Lib.hid (by rw [← HRB.out, ← hbe]; rfl)
       clear hbe f3)
    | (go_at_call 88
       refine (HSC.out ⟨rt, rk, rx, ry, rz⟩ had w.heap.size w3 Q3.out).mono ?_
       rintro e w4 ⟨pb, rfl, hp, f4⟩
       rw [HX.out] at hp ⊢
       rw [← HU.out]
       have Q4 := Lib.hid (Q3.out.fr f4 (by simp))
       have C4 := Lib.hid (C3.out.fr f4 (by simp))
       have Z4 := Lib.hid (Z3.out.fr f4 (by simp))
       have E4 := Lib.hid (E3.out.fr0 f4)
       have F4 := Lib.hid (F3.out.trans f4)
       have PB4 := Lib.hid hp
       have y17 := E4.out.c17
       have y19 := E4.out.c19
       have z17 := Blk.frozen E4.out 17
       have z19 := Blk.frozen E4.out 19
       clear hp f4 Q3 C3 Z3 E3 F3))
  have hE5 := Blk.set_ (Blk.set_ E4.out 17 (.pointer pb)) 19 (.int .i64 u)
  have E5 : Hid (EffAt ((w4.setCell ⟨ge, 17, none⟩ (.pointer pb)).setCell ⟨ge, 19, none⟩ (.int .i64 u)) ge ⟨k, t, col, lo, hi, b, o⟩ ⟨ct, ck, had, o0, o1, o2, has, n0, n1, n2⟩ pb none u 0) := Lib.hid hE5
  have f5 : Fr [ge] w4 ((w4.setCell ⟨ge, 17, none⟩ (.pointer pb)).setCell ⟨ge, 19, none⟩ (.int .i64 u)) := ((Fr.refl _ _).setCell (.inl (by simp)) _).setCell (.inl (by simp)) _
  have Q5 := Lib.hid (Q4.out.fr f5 (by rw [List.mem_singleton]; have := HGE.out; omega))
  have C5 := Lib.hid (C4.out.fr f5 (by rw [List.mem_singleton]; have := HGE.out; omega))
  have Z5 := Lib.hid (Z4.out.fr f5 (by rw [List.mem_singleton]; have := HGE.out; omega))
  have PB5 : Hid (PtrR ((w4.setCell ⟨ge, 17, none⟩ (.pointer pb)).setCell ⟨ge, 19, none⟩ (.int .i64 u)) pb RB) := Lib.hid (PB4.out.frE f5 (E4.out.ne_row))
  have F5 := Lib.hid (F4.out.trans' f5 (fun i hi => .inr (by rw [List.mem_singleton] at hi; have := HGE.out; omega)))
  clear hE5 f5 y17 y19 z17 z19 Q4 C4 Z4 E4 F4 PB4 Q2 C2 Z2 E2 F2 HX d0 d1 d2 d3 d4 d5 d6 d7 d8 d9
  generalize (w4.setCell ⟨ge, 17, none⟩ (.pointer pb)).setCell ⟨ge, 19, none⟩ (.int .i64 u) = w5 at *
  have d0 := C5.out.cell 0
  have d1 := C5.out.cell 1
  have d2 := C5.out.cell 2
  have d3 := C5.out.cell 3
  have d4 := C5.out.cell 4
  have d5 := C5.out.cell 5
  have d6 := C5.out.cell 6
  have d7 := C5.out.cell 7
  have d8 := C5.out.cell 8
  have d9 := C5.out.cell 9
  go_upto_region 5 with (first
    | (go_at_call 50
       refine (HAF.out _).mono ?_
       rintro e w6 ⟨⟨st, sk, sx, sy, sz⟩, rfl, hbe, f6⟩
       have Q6 := Lib.hid (Q5.out.fr f6 (by simp))
       have Z6 := Lib.hid (Z5.out.fr f6 (by simp))
       have E6 := Lib.hid (E5.out.fr0 f6)
       have F6 := Lib.hid (F5.out.trans f6)
       have PB6 := Lib.hid (PB5.out.fr0 f6)
       have HX : Hid (Pm.sc ⟨k, t, col, lo, hi, b, o⟩ (if has = true then some ⟨st, sk, sx, sy, sz⟩ else none) = RA) := Lib.hid (by rw [← HRA.out, ← hbe]; rfl)
       clear hbe f6)
    | (go_at_call 88
       refine (HSC.out ⟨st, sk, sx, sy, sz⟩ has w.heap.size w6 Q6.out).mono ?_
       rintro e w7 ⟨pa, rfl, hp, f7⟩
       rw [HX.out] at hp ⊢
       rw [← HV.out]
       have Z7 := Lib.hid (Z6.out.fr f7 (by simp))
       have E7 := Lib.hid (E6.out.fr0 f7)
       have F7 := Lib.hid (F6.out.trans f7)
       have PB7 := Lib.hid (PB6.out.fr0 f7)
       have PA7 := Lib.hid hp
       have y18 := E7.out.c18
       have y20 := E7.out.c20
       have z18 := Blk.frozen E7.out 18
       have z20 := Blk.frozen E7.out 20
       clear hp f7))
  have hE8 := Blk.set_ (Blk.set_ E7.out 18 (.pointer pa)) 20 (.int .i64 v)
  have E8 : Hid (EffAt ((w7.setCell ⟨ge, 18, none⟩ (.pointer pa)).setCell ⟨ge, 20, none⟩ (.int .i64 v)) ge ⟨k, t, col, lo, hi, b, o⟩ ⟨ct, ck, had, o0, o1, o2, has, n0, n1, n2⟩ pb pa u v) := Lib.hid hE8
  have f8 : Fr [ge] w7 ((w7.setCell ⟨ge, 18, none⟩ (.pointer pa)).setCell ⟨ge, 20, none⟩ (.int .i64 v)) := ((Fr.refl _ _).setCell (.inl (by simp)) _).setCell (.inl (by simp)) _
  have Z8 := Lib.hid (Z7.out.fr f8 (by rw [List.mem_singleton]; have := HGE.out; omega))
  have PB8 := Lib.hid (PB7.out.frE f8 (E7.out.ne_row))
  have PA8 := Lib.hid (PA7.out.frE f8 (E7.out.ne_row))
  have F8 := Lib.hid (F7.out.trans' f8 (fun i hi => .inr (by rw [List.mem_singleton] at hi; have := HGE.out; omega)))
  clear hE8 f8 y18 y20 z18 z20 Z7 E7 F7 PB7 PA7 Q6 Z6 E6 F6 PB6 HX d0 d1 d2 d3 d4 d5 d6 d7 d8 d9 Q5 C5 Z5 E5 F5 PB5
  generalize (w7.setCell ⟨ge, 18, none⟩ (.pointer pa)).setCell ⟨ge, 20, none⟩ (.int .i64 v) = w8 at *
  have HE8 := E8.out
  go_wp2_with (first
    | (refine wpList_load_row rfl _ _ rfl ge rfl 103 (effArr ⟨k, t, col, lo, hi, b, o⟩ ⟨ct, ck, had, o0, o1, o2, has, n0, n1, n2⟩ pb pa u v) (0, 0) _ HE8 Tryz.underlying103 rfl (by kernel_rfl) ?_)
    | (refine wpList_store_blk rfl _ _ _ rfl (w.heap.size + 1 + 1) (effArr ⟨k, t, col, lo, hi, b, o⟩ ⟨ct, ck, had, o0, o1, o2, has, n0, n1, n2⟩ pb pa u v) rfl rfl 103 #[.int .i64 0, .int .i64 0, .int .i64 0, .int .i64 0, .int .i64 0, .int .i64 0, .int .i64 0, .int .i64 0, .int .i64 0, .bool false, .int .i64 0, .int .i64 0, .int .i64 0, .bool false, .int .i64 0, .int .i64 0, .int .i64 0, .pointer none, .pointer none, .int .i64 0, .int .i64 0] Z8.out (by kernel_rfl) rfl rfl ?_
       intro w9 hb9 hf9
       have HB9 := Lib.hid hb9
       have PB9 := Lib.hid (PB8.out.frE hf9 (Z8.out.ne_row))
       have PA9 := Lib.hid (PA8.out.frE hf9 (Z8.out.ne_row))
       have F9 := Lib.hid (F8.out.trans' hf9 (fun i hi => .inr (by rw [List.mem_singleton] at hi; omega)))
       clear hb9 hf9))
  exact bodyPost_ret (results_cell_row rfl _ _ (w.heap.size + 1 + 1) 103 _ (0, 0) _ rfl HB9.out Tryz.underlying103 rfl (by kernel_rfl)) rfl ⟨pb, pa, rfl, PB9.out, PA9.out, F9.out⟩
end Go.Proofs.YtciaallekkdnhaaGreat
namespace Go.Proofs.YtciaallekkdnhaaGreat
open Go.RowKit

theorem PtrR.isSome {w : World} {p : Option Addr} {x : Option RowV} (h : PtrR w p x) : p.isSome = x.isSome := by
  cases x with
  | none =>
    have h' : p = none := h
    rw [h']
    rfl
  | some r =>
    obtain ⟨g, e, _⟩ := h
    rw [e]
    rfl
/-- A function value that has captured nothing. -/
abbrev fnV (n : Nat) : Value := .func (.func n) #[] #[]
set_option maxRecDepth 100000 in
set_option maxHeartbeats 2000000 in
theorem pany_any (q : Qry) (c : Chg) (pb pa : Option Addr) (u v : Int) (w : World) : Calls Tryz.prog 75 #[.agg (effArr q c pb pa u v)] w fun e w' => e = .returned (.bool (pb.isSome || pa.isSome)) ∧ Fr [] w w' := by
  have F0 : Hid (Fr [] w (w.alloc (.cells (effArr q c pb pa u v) 103))) := Lib.hid ((Fr.refl _ _).alloc _)
  have HB := Lib.hid (EffAt.new w q c pb pa u v)
  go_enter Tryz.func75, Tryz.ntmps75
  go_upto_region 1 with (fail)
  generalize w.alloc (.cells (effArr q c pb pa u v) 103) = w1 at *
  have e17 := HB.out.c17
  have e18 := HB.out.c18
  cases pb with
  | none =>
    cases pa with
    | none => go_wp2; go_ret; exact ⟨rfl, F0.out⟩
    | some a => go_wp2; go_ret; exact ⟨rfl, F0.out⟩
  | some b => go_wp2; go_ret; exact ⟨rfl, F0.out⟩
set_option maxRecDepth 100000 in
set_option maxHeartbeats 2000000 in
theorem pone_any (q : Qry) (c : Chg) (pb pa : Option Addr) (u v : Int) (w : World) : Calls Tryz.prog 77 #[.agg (effArr q c pb pa u v)] w fun e w' => e = .returned (.bool (pb.isSome != pa.isSome)) ∧ Fr [] w w' := by
  have F0 : Hid (Fr [] w (w.alloc (.cells (effArr q c pb pa u v) 103))) := Lib.hid ((Fr.refl _ _).alloc _)
  have HB := Lib.hid (EffAt.new w q c pb pa u v)
  go_enter Tryz.func77, Tryz.ntmps77
  go_upto_region 1 with (fail)
  generalize w.alloc (.cells (effArr q c pb pa u v) 103) = w1 at *
  have e17 := HB.out.c17
  have e18 := HB.out.c18
  cases pb with
  | none =>
    cases pa with
    | none => go_wp2; go_ret; exact ⟨rfl, F0.out⟩
    | some a => go_wp2; go_ret; exact ⟨rfl, F0.out⟩
  | some b =>
    cases pa with
    | none => go_wp2; go_ret; exact ⟨rfl, F0.out⟩
    | some a => go_wp2; go_ret; exact ⟨rfl, F0.out⟩
set_option maxRecDepth 100000 in
set_option maxHeartbeats 2000000 in
theorem psum_t (q : Qry) (c : Chg) (pb pa : Option Addr) (u v : Int) (w : World) : Calls Tryz.prog 79 #[.agg (effArr q c pb pa u v)] w fun e w' => e = .returned (.bool (!decide (u = v))) ∧ Fr [] w w' := by
  have F0 : Hid (Fr [] w (w.alloc (.cells (effArr q c pb pa u v) 103))) := Lib.hid ((Fr.refl _ _).alloc _)
  have HB := Lib.hid (EffAt.new w q c pb pa u v)
  go_enter Tryz.func79, Tryz.ntmps79
  go_upto_region 1 with (fail)
  generalize w.alloc (.cells (effArr q c pb pa u v) 103) = w1 at *
  have e19 := HB.out.c19
  have e20 := HB.out.c20
  by_cases h : u = v
  · have e : (u != v) = false := by simp [h]
    go_wp2
    go_ret
    exact ⟨by simp [h], F0.out⟩
  · have e : (u != v) = true := by simp [h]
    go_wp2
    go_ret
    exact ⟨by simp [h], F0.out⟩
set_option maxRecDepth 100000 in
set_option maxHeartbeats 2000000 in
theorem pmin_t (q : Qry) (c : Chg) (pb pa : Option Addr) (u v : Int) (w : World) : Calls Tryz.prog 81 #[.agg (effArr q c pb pa u v)] w fun e w' => e = .returned (.bool ((pb.isSome != pa.isSome) || !decide (u = v))) ∧ Fr [] w w' := by
  have F0 : Hid (Fr [] w (w.alloc (.cells (effArr q c pb pa u v) 103))) := Lib.hid ((Fr.refl _ _).alloc _)
  have HB := Lib.hid (EffAt.new w q c pb pa u v)
  have HO := Lib.hid (pone_any q c pb pa u v)
  go_enter Tryz.func81, Tryz.ntmps81
  go_upto_region 1 with (fail)
  generalize w.alloc (.cells (effArr q c pb pa u v) 103) = w1 at *
  have HE := HB.out
  cases h1 : (pb.isSome != pa.isSome) with
  | true =>
    go_wp2_with (first
      | (refine wpList_load_row rfl _ _ rfl w.heap.size rfl 103 _ (0, 0) _ HE Tryz.underlying103 rfl (by kernel_rfl) ?_)
      | (go_at_call 77; refine (HO.out _).mono ?_; rintro e w2 ⟨rfl, f2⟩; rw [h1]; have F2 := Lib.hid (F0.out.trans f2); clear f2))
    go_ret
    exact ⟨by simp [h1], F2.out⟩
  | false =>
    by_cases h : u = v
    · subst h
      have e : (u != u) = false := by simp
      go_wp2_with (first
        | (refine wpList_load_row rfl _ _ rfl w.heap.size rfl 103 _ (0, 0) _ HE Tryz.underlying103 rfl (by kernel_rfl) ?_)
        | (go_at_call 77; refine (HO.out _).mono ?_; rintro e w2 ⟨rfl, f2⟩; rw [h1]; have F2 := Lib.hid (F0.out.trans f2); have e19 := (HB.out.fr0 f2).c19; have e20 := (HB.out.fr0 f2).c20; clear f2))
      go_ret
      exact ⟨by simp, F2.out⟩
    · have e : (u != v) = true := by simp [h]
      go_wp2_with (first
        | (refine wpList_load_row rfl _ _ rfl w.heap.size rfl 103 _ (0, 0) _ HE Tryz.underlying103 rfl (by kernel_rfl) ?_)
        | (go_at_call 77; refine (HO.out _).mono ?_; rintro e w2 ⟨rfl, f2⟩; rw [h1]; have F2 := Lib.hid (F0.out.trans f2); have e19 := (HB.out.fr0 f2).c19; have e20 := (HB.out.fr0 f2).c20; clear f2))
      go_ret
      exact ⟨by simp [h, h1], F2.out⟩
set_option maxRecDepth 100000 in
set_option maxHeartbeats 2000000 in
theorem pmax_t (q : Qry) (c : Chg) (pb pa : Option Addr) (u v : Int) (w : World) : Calls Tryz.prog 84 #[.agg (effArr q c pb pa u v)] w fun e w' => e = .returned (.bool ((pb.isSome != pa.isSome) || !decide (u = v))) ∧ Fr [] w w' := by
  have F0 : Hid (Fr [] w (w.alloc (.cells (effArr q c pb pa u v) 103))) := Lib.hid ((Fr.refl _ _).alloc _)
  have HB := Lib.hid (EffAt.new w q c pb pa u v)
  have HO := Lib.hid (pone_any q c pb pa u v)
  go_enter Tryz.func84, Tryz.ntmps84
  go_upto_region 1 with (fail)
  generalize w.alloc (.cells (effArr q c pb pa u v) 103) = w1 at *
  have HE := HB.out
  cases h1 : (pb.isSome != pa.isSome) with
  | true =>
    go_wp2_with (first
      | (refine wpList_load_row rfl _ _ rfl w.heap.size rfl 103 _ (0, 0) _ HE Tryz.underlying103 rfl (by kernel_rfl) ?_)
      | (go_at_call 77; refine (HO.out _).mono ?_; rintro e w2 ⟨rfl, f2⟩; rw [h1]; have F2 := Lib.hid (F0.out.trans f2); clear f2))
    go_ret
    exact ⟨by simp [h1], F2.out⟩
  | false =>
    by_cases h : u = v
    · subst h
      have e : (u != u) = false := by simp
      go_wp2_with (first
        | (refine wpList_load_row rfl _ _ rfl w.heap.size rfl 103 _ (0, 0) _ HE Tryz.underlying103 rfl (by kernel_rfl) ?_)
        | (go_at_call 77; refine (HO.out _).mono ?_; rintro e w2 ⟨rfl, f2⟩; rw [h1]; have F2 := Lib.hid (F0.out.trans f2); have e19 := (HB.out.fr0 f2).c19; have e20 := (HB.out.fr0 f2).c20; clear f2))
      go_ret
      exact ⟨by simp, F2.out⟩
    · have e : (u != v) = true := by simp [h]
      go_wp2_with (first
        | (refine wpList_load_row rfl _ _ rfl w.heap.size rfl 103 _ (0, 0) _ HE Tryz.underlying103 rfl (by kernel_rfl) ?_)
        | (go_at_call 77; refine (HO.out _).mono ?_; rintro e w2 ⟨rfl, f2⟩; rw [h1]; have F2 := Lib.hid (F0.out.trans f2); have e19 := (HB.out.fr0 f2).c19; have e20 := (HB.out.fr0 f2).c20; clear f2))
      go_ret
      exact ⟨by simp [h, h1], F2.out⟩
set_option maxRecDepth 100000 in
set_option maxHeartbeats 2000000 in
theorem pjoin_t (q : Qry) (c : Chg) (pb pa : Option Addr) (u v : Int) (w : World) : Calls Tryz.prog 86 #[.agg (effArr q c pb pa u v)] w fun e w' => e = .returned (.bool ((pb.isSome || pa.isSome) || decide (c.t = q.other))) ∧ Fr [] w w' := by
  have F0 : Hid (Fr [] w (w.alloc (.cells (effArr q c pb pa u v) 103))) := Lib.hid ((Fr.refl _ _).alloc _)
  have HB := Lib.hid (EffAt.new w q c pb pa u v)
  have HO := Lib.hid (pany_any q c pb pa u v)
  go_enter Tryz.func86, Tryz.ntmps86
  go_upto_region 1 with (fail)
  generalize w.alloc (.cells (effArr q c pb pa u v) 103) = w1 at *
  have HE := HB.out
  cases h1 : (pb.isSome || pa.isSome) with
  | true =>
    go_wp2_with (first
      | (refine wpList_load_row rfl _ _ rfl w.heap.size rfl 103 _ (0, 0) _ HE Tryz.underlying103 rfl (by kernel_rfl) ?_)
      | (go_at_call 75; refine (HO.out _).mono ?_; rintro e w2 ⟨rfl, f2⟩; rw [h1]; have F2 := Lib.hid (F0.out.trans f2); clear f2))
    go_ret
    exact ⟨by simp [h1], F2.out⟩
  | false =>
    go_wp2_with (first
      | (refine wpList_load_row rfl _ _ rfl w.heap.size rfl 103 _ (0, 0) _ HE Tryz.underlying103 rfl (by kernel_rfl) ?_)
      | (go_at_call 75; refine (HO.out _).mono ?_; rintro e w2 ⟨rfl, f2⟩; rw [h1]; have F2 := Lib.hid (F0.out.trans f2); have e7 := (HB.out.fr0 f2).c7; have e6 := (HB.out.fr0 f2).c6; clear f2))
    go_ret
    exact ⟨by rw [h1]; rfl, F2.out⟩
theorem pless_any (a b : Int) (w : World) : Calls Tryz.prog 83 #[.int .i64 a, .int .i64 b] w fun e w' => e = .returned (.bool (decide (a < b))) ∧ w = w' := by
  go_enter Tryz.func83, Tryz.ntmps83
  go_wp2
  go_ret
  exact ⟨rfl, rfl⟩
theorem pmore_any (a b : Int) (w : World) : Calls Tryz.prog 85 #[.int .i64 a, .int .i64 b] w fun e w' => e = .returned (.bool (decide (b < a))) ∧ w = w' := by
  go_enter Tryz.func85, Tryz.ntmps85
  go_wp2
  go_ret
  exact ⟨rfl, rfl⟩
set_option maxRecDepth 100000 in
theorem pextreme_any (lf : Nat) (w : World) : Calls Tryz.prog 82 #[fnV lf] w fun e w' => e = .returned (.func (.func 125) #[] #[.pointer (some ⟨w.heap.size, 0, none⟩)]) ∧ w' = w.alloc (.cells #[fnV lf] 156) := by
  go_enter Tryz.func82, Tryz.ntmps82
  go_wp2
  go_ret
  exact ⟨rfl, rfl⟩
set_option maxRecDepth 100000 in
set_option maxHeartbeats 2000000 in
theorem pcount_any (q : Qry) (c : Chg) (pb pa : Option Addr) (u v : Int) (X : Option Addr) (n cap : Nat) (m : Int) (f : Bool) (w : World) : Calls Tryz.prog 78 #[.agg (effArr q c pb pa u v), .agg #[.slice X n cap, .int .i64 m, .bool f]] w fun e w' => e = .returned (.tuple #[.agg #[.slice X n cap, .int .i64 (if pa.isSome = true then wrap64 (m + 1) else wrap64 (m - 1)), .bool f], .bool true]) ∧ Fr [] w w' := by
  have F0 : Hid (Fr [] w (((w.alloc (.cells (effArr q c pb pa u v) 103)).alloc (.cells #[.slice X n cap, .int .i64 m, .bool f] 71)).alloc (.cells #[.slice none 0 0, .int .i64 0, .bool false] 71))) := Lib.hid ((((Fr.refl _ _).alloc _).alloc _).alloc _)
  have HB : Hid (EffAt (((w.alloc (.cells (effArr q c pb pa u v) 103)).alloc (.cells #[.slice X n cap, .int .i64 m, .bool f] 71)).alloc (.cells #[.slice none 0 0, .int .i64 0, .bool false] 71)) w.heap.size q c pb pa u v) := Lib.hid (Blk.alloc (Blk.alloc (EffAt.new w q c pb pa u v) _) _)
  have hr := Blk.new (w.alloc (.cells (effArr q c pb pa u v) 103)) 71 #[.slice X n cap, .int .i64 m, .bool f]
  rw [World.size_alloc] at hr
  have HR : Hid (Blk (((w.alloc (.cells (effArr q c pb pa u v) 103)).alloc (.cells #[.slice X n cap, .int .i64 m, .bool f] 71)).alloc (.cells #[.slice none 0 0, .int .i64 0, .bool false] 71)) (w.heap.size + 1) 71 #[.slice X n cap, .int .i64 m, .bool f]) := Lib.hid (hr.alloc _)
  have hz := Blk.new ((w.alloc (.cells (effArr q c pb pa u v) 103)).alloc (.cells #[.slice X n cap, .int .i64 m, .bool f] 71)) 71 #[.slice none 0 0, .int .i64 0, .bool false]
  rw [World.size_alloc, World.size_alloc] at hz
  have HZ := Lib.hid hz
  clear hr hz
  go_enter Tryz.func78, Tryz.ntmps78
  go_upto_region 1 with (fail)
  generalize ((w.alloc (.cells (effArr q c pb pa u v) 103)).alloc (.cells #[.slice X n cap, .int .i64 m, .bool f] 71)).alloc (.cells #[.slice none 0 0, .int .i64 0, .bool false] 71) = w1 at *
  have r1 := HR.out.cell 1
  have y1 := HR.out.frozen 1
  have e18 := HB.out.c18
  cases pa with
  | none =>
    go_upto_region 4 with (fail)
    have hf2 : Fr [w.heap.size + 1] w1 (w1.setCell ⟨w.heap.size + 1, 1, none⟩ (.int .i64 (wrap64 (m - 1)))) := (Fr.refl _ _).setCell (.inl (by simp)) _
    have HR2 : Blk (w1.setCell ⟨w.heap.size + 1, 1, none⟩ (.int .i64 (wrap64 (m - 1)))) (w.heap.size + 1) 71 #[.slice X n cap, .int .i64 (wrap64 (m - 1)), .bool f] := HR.out.set_ 1 _
    have HZ2 := HZ.out.fr hf2 (by simp)
    have F2 := Lib.hid (F0.out.trans' hf2 (by simp))
    generalize w1.setCell ⟨w.heap.size + 1, 1, none⟩ (.int .i64 (wrap64 (m - 1))) = w2 at *
    go_wp2_with (first
      | (refine wpList_load_row rfl _ _ rfl (w.heap.size + 1) rfl 71 _ (0, 0) _ HR2 Tryz.underlying71 rfl (by kernel_rfl) ?_)
      | (refine wpList_store_blk rfl _ _ _ rfl (w.heap.size + 1 + 1) #[.slice X n cap, .int .i64 (wrap64 (m - 1)), .bool f] rfl rfl 71 _ HZ2 (by kernel_rfl) rfl rfl ?_; intro w3 hb3 hf3; have HB3 := Lib.hid hb3; have F3 := Lib.hid (F2.out.trans' hf3 (fun i hi => .inr (by rw [List.mem_singleton] at hi; omega))); clear hb3 hf3))
    have q0 := HB3.out.cell 0
    have q1 := HB3.out.cell 1
    have q2 := HB3.out.cell 2
    exact bodyPost_ret (v := .tuple #[.agg #[.slice X n cap, .int .i64 (wrap64 (m - 1)), .bool f], .bool true]) (by simp [results, Tryz.results78, go_sem, q0, q1, q2]) rfl ⟨rfl, F3.out⟩
  | some a =>
    go_upto_region 4 with (fail)
    have hf2 : Fr [w.heap.size + 1] w1 (w1.setCell ⟨w.heap.size + 1, 1, none⟩ (.int .i64 (wrap64 (m + 1)))) := (Fr.refl _ _).setCell (.inl (by simp)) _
    have HR2 : Blk (w1.setCell ⟨w.heap.size + 1, 1, none⟩ (.int .i64 (wrap64 (m + 1)))) (w.heap.size + 1) 71 #[.slice X n cap, .int .i64 (wrap64 (m + 1)), .bool f] := HR.out.set_ 1 _
    have HZ2 := HZ.out.fr hf2 (by simp)
    have F2 := Lib.hid (F0.out.trans' hf2 (by simp))
    generalize w1.setCell ⟨w.heap.size + 1, 1, none⟩ (.int .i64 (wrap64 (m + 1))) = w2 at *
    go_wp2_with (first
      | (refine wpList_load_row rfl _ _ rfl (w.heap.size + 1) rfl 71 _ (0, 0) _ HR2 Tryz.underlying71 rfl (by kernel_rfl) ?_)
      | (refine wpList_store_blk rfl _ _ _ rfl (w.heap.size + 1 + 1) #[.slice X n cap, .int .i64 (wrap64 (m + 1)), .bool f] rfl rfl 71 _ HZ2 (by kernel_rfl) rfl rfl ?_; intro w3 hb3 hf3; have HB3 := Lib.hid hb3; have F3 := Lib.hid (F2.out.trans' hf3 (fun i hi => .inr (by rw [List.mem_singleton] at hi; omega))); clear hb3 hf3))
    have q0 := HB3.out.cell 0
    have q1 := HB3.out.cell 1
    have q2 := HB3.out.cell 2
    exact bodyPost_ret (v := .tuple #[.agg #[.slice X n cap, .int .i64 (wrap64 (m + 1)), .bool f], .bool true]) (by simp [results, Tryz.results78, go_sem, q0, q1, q2]) rfl ⟨rfl, F3.out⟩
set_option maxRecDepth 100000 in
set_option maxHeartbeats 2000000 in
theorem psum_any (q : Qry) (c : Chg) (pb pa : Option Addr) (u v : Int) (X : Option Addr) (n cap : Nat) (m : Int) (f : Bool) (w : World) : Calls Tryz.prog 80 #[.agg (effArr q c pb pa u v), .agg #[.slice X n cap, .int .i64 m, .bool f]] w fun e w' => e = .returned (.tuple #[.agg #[.slice X n cap, .int .i64 (wrap64 (m + wrap64 (v - u))), .bool f], .bool true]) ∧ Fr [] w w' := by
  have F0 : Hid (Fr [] w (((w.alloc (.cells (effArr q c pb pa u v) 103)).alloc (.cells #[.slice X n cap, .int .i64 m, .bool f] 71)).alloc (.cells #[.slice none 0 0, .int .i64 0, .bool false] 71))) := Lib.hid ((((Fr.refl _ _).alloc _).alloc _).alloc _)
  have HB : Hid (EffAt (((w.alloc (.cells (effArr q c pb pa u v) 103)).alloc (.cells #[.slice X n cap, .int .i64 m, .bool f] 71)).alloc (.cells #[.slice none 0 0, .int .i64 0, .bool false] 71)) w.heap.size q c pb pa u v) := Lib.hid (Blk.alloc (Blk.alloc (EffAt.new w q c pb pa u v) _) _)
  have hr := Blk.new (w.alloc (.cells (effArr q c pb pa u v) 103)) 71 #[.slice X n cap, .int .i64 m, .bool f]
  rw [World.size_alloc] at hr
  have HR : Hid (Blk (((w.alloc (.cells (effArr q c pb pa u v) 103)).alloc (.cells #[.slice X n cap, .int .i64 m, .bool f] 71)).alloc (.cells #[.slice none 0 0, .int .i64 0, .bool false] 71)) (w.heap.size + 1) 71 #[.slice X n cap, .int .i64 m, .bool f]) := Lib.hid (hr.alloc _)
  have hz := Blk.new ((w.alloc (.cells (effArr q c pb pa u v) 103)).alloc (.cells #[.slice X n cap, .int .i64 m, .bool f] 71)) 71 #[.slice none 0 0, .int .i64 0, .bool false]
  rw [World.size_alloc, World.size_alloc] at hz
  have HZ := Lib.hid hz
  clear hr hz
  go_enter Tryz.func80, Tryz.ntmps80
  go_upto_region 1 with (fail)
  generalize ((w.alloc (.cells (effArr q c pb pa u v) 103)).alloc (.cells #[.slice X n cap, .int .i64 m, .bool f] 71)).alloc (.cells #[.slice none 0 0, .int .i64 0, .bool false] 71) = w1 at *
  have r1 := HR.out.cell 1
  have y1 := HR.out.frozen 1
  have e19 := HB.out.c19
  have e20 := HB.out.c20
  go_upto_region 2 with (fail)
  have hf2 : Fr [w.heap.size + 1] w1 (w1.setCell ⟨w.heap.size + 1, 1, none⟩ (.int .i64 (wrap64 (m + wrap64 (v - u))))) := (Fr.refl _ _).setCell (.inl (by simp)) _
  have HR2 : Blk (w1.setCell ⟨w.heap.size + 1, 1, none⟩ (.int .i64 (wrap64 (m + wrap64 (v - u))))) (w.heap.size + 1) 71 #[.slice X n cap, .int .i64 (wrap64 (m + wrap64 (v - u))), .bool f] := HR.out.set_ 1 _
  have HZ2 := HZ.out.fr hf2 (by simp)
  have F2 := Lib.hid (F0.out.trans' hf2 (by simp))
  generalize w1.setCell ⟨w.heap.size + 1, 1, none⟩ (.int .i64 (wrap64 (m + wrap64 (v - u)))) = w2 at *
  go_wp2_with (first
    | (refine wpList_load_row rfl _ _ rfl (w.heap.size + 1) rfl 71 _ (0, 0) _ HR2 Tryz.underlying71 rfl (by kernel_rfl) ?_)
    | (refine wpList_store_blk rfl _ _ _ rfl (w.heap.size + 1 + 1) #[.slice X n cap, .int .i64 (wrap64 (m + wrap64 (v - u))), .bool f] rfl rfl 71 _ HZ2 (by kernel_rfl) rfl rfl ?_; intro w3 hb3 hf3; have HB3 := Lib.hid hb3; have F3 := Lib.hid (F2.out.trans' hf3 (fun i hi => .inr (by rw [List.mem_singleton] at hi; omega))); clear hb3 hf3))
  have q0 := HB3.out.cell 0
  have q1 := HB3.out.cell 1
  have q2 := HB3.out.cell 2
  exact bodyPost_ret (v := .tuple #[.agg #[.slice X n cap, .int .i64 (wrap64 (m + wrap64 (v - u))), .bool f], .bool true]) (by simp [results, Tryz.results80, go_sem, q0, q1, q2]) rfl ⟨rfl, F3.out⟩
end Go.Proofs.YtciaallekkdnhaaGreat
namespace Go.Proofs.YtciaallekkdnhaaGreat
open Go.RowKit Go.ChangeMaps

section
variable {K V : Type} {P : Program} {t k e : TypeId} {ek : K → Value} {kl : K → Lit} {ev : V → Value} {ok : K → Prop} {z : Value} {o : Oper} {a : Act} {Q : Exit → Act → World → Prop} {ops : Array Oper} {rest : List Oper}
/-- An entry of a map's literal. -/
theorem wpList_vins [DecidableEq K] (w : World) (hg : o.guard = none) (m x v : Operand) (hop : o.op = Op.insert t m x v) (T : MT P t k e ek kl ev ok z) (b : Nat) (M : List (K × V)) (hm : a.eval m = .map (some b)) (h : VMap P k kl ev w b M) (x0 : K) (u0 : V) (hx : a.eval x = ek x0) (hv : a.eval v = ev u0) (hok : ok x0) (hn : M.length < maxLen)
    (hK : ∀ w', VMap P k kl ev w' b (mput M x0 u0) → w.mapTurned w' b → wpList P ops Q rest (a.put o.dst undef) w') : wpList P ops Q (o :: rest) a w :=
  wpList_plain hg fun _ hC => by
    obtain ⟨w', hrun, r1, r2⟩ := h.store T x0 hok u0 hn
    unfold Oper.wp
    simp [execOp, hop, hm, hx, hv, hrun, Result.andThen]
    exact hC _ _ (hK w' r1 r2)
end
theorem Blk.newP {w : World} {g t : Nat} {cs : Array Value} (h : g = w.heap.size) : Blk (w.alloc (.cells cs t)) g t cs := by
  subst h
  exact Blk.new w t cs
abbrev evK (p : Value × Value) : Value := .agg #[p.1, p.2]
theorem tyKind : MT Tryz.prog 99 3 98 (Value.int .i64) (Lit.int .i64) evK okI (.agg #[.nilFunc, .nilFunc]) where
  keyed := Maps.int_keyed Tryz.underlying3
  ht := Tryz.underlying99
  key := fun x hx => Maps.keyOf_int_mk Tryz.underlying3 hx
  inj := fun x y h => by injection h
  zero := fun w => by kernel_rfl
/-- What the map holds. -/
def KM (g5 g6 : Nat) : List (Int × Value × Value) := (mput (mput (mput (mput (mput (mput (mput ([] : List (Int × Value × Value)) 1 (fnV 75, fnV 76)) 2 (fnV 75, fnV 76)) 3 (fnV 77, fnV 78)) 4 (fnV 79, fnV 80)) 5 (fnV 81, .func (.func 125) #[] #[.pointer (some ⟨g5, 0, none⟩)])) 6 (fnV 84, .func (.func 125) #[] #[.pointer (some ⟨g6, 0, none⟩)])) 7 (fnV 86, fnV 87))
theorem KM.get (g5 g6 : Nat) : mget (KM g5 g6) 1 = some (fnV 75, fnV 76) ∧ mget (KM g5 g6) 2 = some (fnV 75, fnV 76) ∧ mget (KM g5 g6) 3 = some (fnV 77, fnV 78) ∧ mget (KM g5 g6) 4 = some (fnV 79, fnV 80) ∧ mget (KM g5 g6) 5 = some (fnV 81, .func (.func 125) #[] #[.pointer (some ⟨g5, 0, none⟩)]) ∧ mget (KM g5 g6) 6 = some (fnV 84, .func (.func 125) #[] #[.pointer (some ⟨g6, 0, none⟩)]) ∧ mget (KM g5 g6) 7 = some (fnV 86, fnV 87) := by
  refine ⟨by simp [KM, mget, mput, mdel], by simp [KM, mget, mput, mdel], by simp [KM, mget, mput, mdel], by simp [KM, mget, mput, mdel], by simp [KM, mget, mput, mdel], by simp [KM, mget, mput, mdel], by simp [KM, mget, mput, mdel]⟩
set_option maxRecDepth 100000 in
set_option maxHeartbeats 4000000 in
theorem kinds_any (w : World) : Calls Tryz.prog 44 #[] w fun e w' => ∃ b g5 g6, e = .returned (.map (some b)) ∧ VMap Tryz.prog 3 (Lit.int .i64) evK w' b (KM g5 g6) ∧ Blk w' g5 156 #[fnV 83] ∧ Blk w' g6 156 #[fnV 85] ∧ Fr [] w w' := by
  have V0 : Hid (VMap Tryz.prog 3 (Lit.int .i64) evK (w.alloc (.map #[] 0)) w.heap.size []) := Lib.hid (VMap.made _ _ _)
  have F0 : Hid (Fr [] w (w.alloc (.map #[] 0))) := Lib.hid ((Fr.refl _ _).alloc _)
  have S0 : Hid (w.heap.size < (w.alloc (.map #[] 0)).heap.size) := Lib.hid (by simp [World.size_alloc])
  have HX := Lib.hid pextreme_any
  have hmm := @run_makeMap Tryz.prog
  go_enter Tryz.func44, Tryz.ntmps44
  go_wp2_with (first
    | (refine wpList_vins _ rfl _ (.const (.int .i64 1)) _ rfl tyKind w.heap.size ([] : List (Int × Value × Value)) rfl V0.out 1 (fnV 75, fnV 76) rfl rfl (okI_mk (by decide) (by decide)) (by simp [maxLen]) ?_; intro w1 h1 t1; have V1 := Lib.hid h1; have F1 := Lib.hid (F0.out.trans' (turned_fr t1 (List.mem_singleton.2 rfl)) (fun i hi => .inr (by rw [List.mem_singleton] at hi; omega))); have S1 : Hid (w.heap.size < w1.heap.size) := Lib.hid (VMap.lt h1); clear h1 t1)
    | (refine wpList_vins _ rfl _ (.const (.int .i64 2)) _ rfl tyKind w.heap.size (mput ([] : List (Int × Value × Value)) 1 (fnV 75, fnV 76)) rfl V1.out 2 (fnV 75, fnV 76) rfl rfl (okI_mk (by decide) (by decide)) (by simp [mput, mdel, maxLen]) ?_; intro w2 h2 t2; have V2 := Lib.hid h2; have F2 := Lib.hid (F1.out.trans' (turned_fr t2 (List.mem_singleton.2 rfl)) (fun i hi => .inr (by rw [List.mem_singleton] at hi; omega))); have S2 : Hid (w.heap.size < w2.heap.size) := Lib.hid (VMap.lt h2); clear h2 t2)
    | (refine wpList_vins _ rfl _ (.const (.int .i64 3)) _ rfl tyKind w.heap.size (mput (mput ([] : List (Int × Value × Value)) 1 (fnV 75, fnV 76)) 2 (fnV 75, fnV 76)) rfl V2.out 3 (fnV 77, fnV 78) rfl rfl (okI_mk (by decide) (by decide)) (by simp [mput, mdel, maxLen]) ?_; intro w3 h3 t3; have V3 := Lib.hid h3; have F3 := Lib.hid (F2.out.trans' (turned_fr t3 (List.mem_singleton.2 rfl)) (fun i hi => .inr (by rw [List.mem_singleton] at hi; omega))); have S3 : Hid (w.heap.size < w3.heap.size) := Lib.hid (VMap.lt h3); clear h3 t3)
    | (refine wpList_vins _ rfl _ (.const (.int .i64 4)) _ rfl tyKind w.heap.size (mput (mput (mput ([] : List (Int × Value × Value)) 1 (fnV 75, fnV 76)) 2 (fnV 75, fnV 76)) 3 (fnV 77, fnV 78)) rfl V3.out 4 (fnV 79, fnV 80) rfl rfl (okI_mk (by decide) (by decide)) (by simp [mput, mdel, maxLen]) ?_; intro w4 h4 t4; have V4 := Lib.hid h4; have F4 := Lib.hid (F3.out.trans' (turned_fr t4 (List.mem_singleton.2 rfl)) (fun i hi => .inr (by rw [List.mem_singleton] at hi; omega))); have S4 : Hid (w.heap.size < w4.heap.size) := Lib.hid (VMap.lt h4); clear h4 t4)
    | (go_at_call 82; refine (HX.out 83 w4).mono ?_; rintro e wx ⟨rfl, rfl⟩; have V4b := Lib.hid (V4.out.alloc (.cells #[fnV 83] 156)); have F4b := Lib.hid (F4.out.alloc (.cells #[fnV 83] 156)); obtain ⟨g5, hg5⟩ : ∃ g, w4.heap.size = g := ⟨_, rfl⟩; have N5 : Hid (¬ g5 = w.heap.size) := Lib.hid (by have := S4.out; omega); have B5_4 := Lib.hid (Blk.newP (w := w4) (t := 156) (cs := #[fnV 83]) hg5.symm); rw [hg5]; clear hg5)
    | (refine wpList_vins _ rfl _ (.const (.int .i64 5)) _ rfl tyKind w.heap.size (mput (mput (mput (mput ([] : List (Int × Value × Value)) 1 (fnV 75, fnV 76)) 2 (fnV 75, fnV 76)) 3 (fnV 77, fnV 78)) 4 (fnV 79, fnV 80)) rfl V4b.out 5 (fnV 81, .func (.func 125) #[] #[.pointer (some ⟨g5, 0, none⟩)]) rfl rfl (okI_mk (by decide) (by decide)) (by simp [mput, mdel, maxLen]) ?_; intro w5 h5 t5; have V5 := Lib.hid h5; have F5 := Lib.hid (F4b.out.trans' (turned_fr t5 (List.mem_singleton.2 rfl)) (fun i hi => .inr (by rw [List.mem_singleton] at hi; omega))); have S5 : Hid (w.heap.size < w5.heap.size) := Lib.hid (VMap.lt h5); have B5_5 := Lib.hid (B5_4.out.fr (turned_fr t5 (List.mem_singleton.2 rfl)) (by rw [List.mem_singleton]; exact N5.out)); clear h5 t5)
    | (go_at_call 82; refine (HX.out 85 w5).mono ?_; rintro e wx ⟨rfl, rfl⟩; have V5b := Lib.hid (V5.out.alloc (.cells #[fnV 85] 156)); have F5b := Lib.hid (F5.out.alloc (.cells #[fnV 85] 156)); obtain ⟨g6, hg6⟩ : ∃ g, w5.heap.size = g := ⟨_, rfl⟩; have N6 : Hid (¬ g6 = w.heap.size) := Lib.hid (by have := S5.out; omega); have B6_5 := Lib.hid (Blk.newP (w := w5) (t := 156) (cs := #[fnV 85]) hg6.symm); have B5_5b := Lib.hid (B5_5.out.alloc (.cells #[fnV 85] 156)); rw [hg6]; clear hg6)
    | (refine wpList_vins _ rfl _ (.const (.int .i64 6)) _ rfl tyKind w.heap.size (mput (mput (mput (mput (mput ([] : List (Int × Value × Value)) 1 (fnV 75, fnV 76)) 2 (fnV 75, fnV 76)) 3 (fnV 77, fnV 78)) 4 (fnV 79, fnV 80)) 5 (fnV 81, .func (.func 125) #[] #[.pointer (some ⟨g5, 0, none⟩)])) rfl V5b.out 6 (fnV 84, .func (.func 125) #[] #[.pointer (some ⟨g6, 0, none⟩)]) rfl rfl (okI_mk (by decide) (by decide)) (by simp [mput, mdel, maxLen]) ?_; intro w6 h6 t6; have V6 := Lib.hid h6; have F6 := Lib.hid (F5b.out.trans' (turned_fr t6 (List.mem_singleton.2 rfl)) (fun i hi => .inr (by rw [List.mem_singleton] at hi; omega))); have S6 : Hid (w.heap.size < w6.heap.size) := Lib.hid (VMap.lt h6); have B5_6 := Lib.hid (B5_5b.out.fr (turned_fr t6 (List.mem_singleton.2 rfl)) (by rw [List.mem_singleton]; exact N5.out)); have B6_6 := Lib.hid (B6_5.out.fr (turned_fr t6 (List.mem_singleton.2 rfl)) (by rw [List.mem_singleton]; exact N6.out)); clear h6 t6)
    | (refine wpList_vins _ rfl _ (.const (.int .i64 7)) _ rfl tyKind w.heap.size (mput (mput (mput (mput (mput (mput ([] : List (Int × Value × Value)) 1 (fnV 75, fnV 76)) 2 (fnV 75, fnV 76)) 3 (fnV 77, fnV 78)) 4 (fnV 79, fnV 80)) 5 (fnV 81, .func (.func 125) #[] #[.pointer (some ⟨g5, 0, none⟩)])) 6 (fnV 84, .func (.func 125) #[] #[.pointer (some ⟨g6, 0, none⟩)])) rfl V6.out 7 (fnV 86, fnV 87) rfl rfl (okI_mk (by decide) (by decide)) (by simp [mput, mdel, maxLen]) ?_; intro w7 h7 t7; have V7 := Lib.hid h7; have F7 := Lib.hid (F6.out.trans' (turned_fr t7 (List.mem_singleton.2 rfl)) (fun i hi => .inr (by rw [List.mem_singleton] at hi; omega))); have S7 : Hid (w.heap.size < w7.heap.size) := Lib.hid (VMap.lt h7); have B5_7 := Lib.hid (B5_6.out.fr (turned_fr t7 (List.mem_singleton.2 rfl)) (by rw [List.mem_singleton]; exact N5.out)); have B6_7 := Lib.hid (B6_6.out.fr (turned_fr t7 (List.mem_singleton.2 rfl)) (by rw [List.mem_singleton]; exact N6.out)); clear h7 t7)
    )
  go_ret
  exact ⟨_, g5, g6, rfl, V7.out, B5_7.out, B6_7.out, F7.out⟩
end Go.Proofs.YtciaallekkdnhaaGreat

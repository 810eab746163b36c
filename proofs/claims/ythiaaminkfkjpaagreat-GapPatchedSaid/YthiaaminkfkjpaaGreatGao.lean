/-
  'chosen': the rows that a function chooses, sorted by a column.
-/
import Derived.Test.YthiaaminkfkjpaaGreatGai
import Derived.Test.YthiaaminkfkjpaaGreatGam
import Derived.Test.YthiaaminkfkjpaaGreatGag
import Derived.Test.YthiaaminkfkjpaaGreatGan
import Derived.StillTailTactics
namespace Go.Proofs.YthiaaminkfkjpaaGreat
open Go.RowKit

/-- What 'Get' answers for what is there. -/
abbrev gotVal (o : Option RowV) : Value := .tuple #[(o.map RowV.val).getD (.agg #[.int .i64 0, .int .i64 0, .int .i64 0, .int .i64 0, .int .i64 0]), .bool o.isSome]

/-- A row laid into the result's block. -/
theorem row_laid {W w : World} {F : World} {t k x y z t0 k0 x0 y0 z0 : Int} (hF : F = ((((W.setCell ⟨w.heap.size, 0, none⟩ (.int .i64 t)).setCell ⟨w.heap.size, 1, none⟩ (.int .i64 k)).setCell ⟨w.heap.size, 2, none⟩ (.int .i64 x)).setCell ⟨w.heap.size, 3, none⟩ (.int .i64 y)).setCell ⟨w.heap.size, 4, none⟩ (.int .i64 z))
    (hn : Blk W w.heap.size 67 #[.int .i64 t0, .int .i64 k0, .int .i64 x0, .int .i64 y0, .int .i64 z0]) (f : Fr [] w W) :
    (F.cell? ⟨w.heap.size, 0, none⟩ = some (.int .i64 t) ∧ F.cell? ⟨w.heap.size, 1, none⟩ = some (.int .i64 k) ∧ F.cell? ⟨w.heap.size, 2, none⟩ = some (.int .i64 x) ∧ F.cell? ⟨w.heap.size, 3, none⟩ = some (.int .i64 y) ∧ F.cell? ⟨w.heap.size, 4, none⟩ = some (.int .i64 z)) ∧ Fr [] w F := by
  subst hF
  have hS := ((((hn.set_ 0 (.int .i64 t)).set_ 1 (.int .i64 k)).set_ 2 (.int .i64 x)).set_ 3 (.int .i64 y)).set_ 4 (.int .i64 z)
  refine ⟨⟨hS.cell 0, hS.cell 1, hS.cell 2, hS.cell 3, hS.cell 4⟩, ?_⟩
  exact ((((f.setCell (.inr (Nat.le_refl _)) _).setCell (.inr (Nat.le_refl _)) _).setCell (.inr (Nat.le_refl _)) _).setCell (.inr (Nat.le_refl _)) _).setCell (.inr (Nat.le_refl _)) _

set_option maxRecDepth 100000 in
theorem rfget_any (b : Nat) (v : Value) (L : List RowV) (s : Sm.Sta) (t k : Int) (w : World) (h : RfAt w b v L s) (ht : okI t) (hk : okI k) :
    Calls Tryz.prog 25 #[.pointer (some ⟨b, 0, none⟩), .int .i64 t, .int .i64 k] w fun e w' => e = .returned (gotVal (mget s.M (idOf t k))) ∧ Fr [] w w' := by
  obtain ⟨A, cap, hv⟩ := h.row.val
  subst hv
  have hlen : L.length ≤ 2000 := by rw [h.sim.len]; exact h.ok.len
  have hres := Lib.hid (fun (n : Nat) (hp : Sm.Plc L t k n) => And.intro (fun (hl : n < L.length) (e1 : L[n].t = t) (e2 : L[n].k = k) => hp.hit h.sim h.ok.nd h.ok.key ht hk hl e1 e2) (hp.miss h.sim h.ok.nd h.ok.key ht hk))
  have F0 : Fr [] w (w.alloc (.cells #[.int .i64 0, .int .i64 0, .int .i64 0, .int .i64 0, .int .i64 0] 67)) := (Fr.refl _ _).alloc _
  have hn := Blk.new w 67 #[.int .i64 0, .int .i64 0, .int .i64 0, .int .i64 0, .int .i64 0]
  have h0 := h.fr0 F0
  have hb0 : (w.alloc (.cells #[.int .i64 0, .int .i64 0, .int .i64 0, .int .i64 0, .int .i64 0] 67)).cell? ⟨b, 0, none⟩ = some (.slice A L.length cap) := h0.blk.cell 0
  have HP := Lib.hid (place_any b A cap L t k _ hb0 h0.row h0.sim.srt (by omega))
  have hlb := h.blk.lt
  go_enter Tryz.func25, Tryz.ntmps25
  clear hb0
  go_wp2_with fail
  refine HP.out.mono ?_
  rintro e w' ⟨n, ⟨rfl, rfl⟩, hp⟩
  obtain ⟨hhit, hmiss⟩ := hres.out n hp
  have hnl := hp.le
  clear HP hres hp
  have HR := Lib.hid (fun (h : 0 < L.length) => h0.row.form RowV.cells_len h)
  have c0 : (w.alloc (.cells #[.int .i64 0, .int .i64 0, .int .i64 0, .int .i64 0, .int .i64 0] 67)).cell? ⟨b, 0, none⟩ = some (.slice A L.length cap) := h0.blk.cell 0
  have d0 := hn.cell 0
  have d1 := hn.cell 1
  have d2 := hn.cell 2
  have d3 := hn.cell 3
  have d4 := hn.cell 4
  have z0 := hn.frozen 0
  have z1 := hn.frozen 1
  have z2 := hn.frozen 2
  have z3 := hn.frozen 3
  have z4 := hn.frozen 4
  clear h0
  by_cases hlt : n < L.length
  · obtain ⟨gR, cap', hA, hlc, hcm, hgl, hcell, hfz⟩ := HR.out (by omega)
    cases hA
    replace hhit := hhit hlt
    have hmiss' : ¬ (L[n].t = t ∧ L[n].k = k) → mget s.M (idOf t k) = none := fun h => hmiss fun _ => h
    have HH := Lib.hid hhit
    have HM := Lib.hid hmiss'
    obtain ⟨x, hx⟩ : ∃ x, L[n] = x := ⟨_, rfl⟩
    obtain ⟨xt, xk, xa, xb, xc⟩ := x
    have hce := Lib.hid (fun j (hj : j < 5) => hcell n hlt j hj)
    clear hmiss hmiss' hhit hcell hfz HR
    rw [hx] at HH HM hce
    clear hx
    generalize w.alloc (.cells #[.int .i64 0, .int .i64 0, .int .i64 0, .int .i64 0, .int .i64 0] 67) = W0 at *
    have x0 : W0.cell? ⟨gR, n * 5, none⟩ = some (.int .i64 xt) := hce.out 0 (by decide)
    have x1 : W0.cell? ⟨gR, n * 5 + 1, none⟩ = some (.int .i64 xk) := hce.out 1 (by decide)
    have x2 : W0.cell? ⟨gR, n * 5 + 2, none⟩ = some (.int .i64 xa) := hce.out 2 (by decide)
    have x3 : W0.cell? ⟨gR, n * 5 + 3, none⟩ = some (.int .i64 xb) := hce.out 3 (by decide)
    have x4 : W0.cell? ⟨gR, n * 5 + 4, none⟩ = some (.int .i64 xc) := hce.out 4 (by decide)
    clear hce
    by_cases e1 : xt = t
    · have e1' : (xt == t) = true := by simpa using e1
      have E1 := Lib.hid e1
      clear e1
      by_cases e2 : xk = k
      · have e2' : (xk == k) = true := by simpa using e2
        have HG := Lib.hid (HH.out E1.out e2)
        clear e2
        go_wp2_with fail
        have hlaid := row_laid (t := xt) (k := xk) (x := xa) (y := xb) (z := xc) rfl hn F0
        refine bodyPost_ret (v := .tuple #[.agg #[.int .i64 xt, .int .i64 xk, .int .i64 xa, .int .i64 xb, .int .i64 xc], .bool true]) (by obtain ⟨⟨y0, y1, y2, y3, y4⟩, _⟩ := hlaid; simp [results, Tryz.results25, go_sem, y0, y1, y2, y3, y4]) rfl ⟨by rw [HG.out]; rfl, hlaid.2⟩
      · have e2' : (xk == k) = false := by simpa using e2
        have HG := Lib.hid (HM.out (fun h => e2 h.2))
        clear e2
        go_wp2_with fail
        have hlaid := row_laid (t := 0) (k := 0) (x := 0) (y := 0) (z := 0) rfl hn F0
        refine bodyPost_ret (v := .tuple #[.agg #[.int .i64 0, .int .i64 0, .int .i64 0, .int .i64 0, .int .i64 0], .bool false]) (by obtain ⟨⟨y0, y1, y2, y3, y4⟩, _⟩ := hlaid; simp [results, Tryz.results25, go_sem, y0, y1, y2, y3, y4]) rfl ⟨by rw [HG.out]; rfl, hlaid.2⟩
    · have e1' : (xt == t) = false := by simpa using e1
      have HG := Lib.hid (HM.out (fun h => e1 h.1))
      clear e1
      go_wp2_with fail
      have hlaid := row_laid (t := 0) (k := 0) (x := 0) (y := 0) (z := 0) rfl hn F0
      refine bodyPost_ret (v := .tuple #[.agg #[.int .i64 0, .int .i64 0, .int .i64 0, .int .i64 0, .int .i64 0], .bool false]) (by obtain ⟨⟨y0, y1, y2, y3, y4⟩, _⟩ := hlaid; simp [results, Tryz.results25, go_sem, y0, y1, y2, y3, y4]) rfl ⟨by rw [HG.out]; rfl, hlaid.2⟩
  · have HG := Lib.hid (hmiss (fun h => absurd h hlt))
    clear hmiss hhit HR
    generalize w.alloc (.cells #[.int .i64 0, .int .i64 0, .int .i64 0, .int .i64 0, .int .i64 0] 67) = W0 at *
    go_wp2_with fail
    have hlaid := row_laid (t := 0) (k := 0) (x := 0) (y := 0) (z := 0) rfl hn F0
    refine bodyPost_ret (v := .tuple #[.agg #[.int .i64 0, .int .i64 0, .int .i64 0, .int .i64 0, .int .i64 0], .bool false]) (by obtain ⟨⟨y0, y1, y2, y3, y4⟩, _⟩ := hlaid; simp [results, Tryz.results25, go_sem, y0, y1, y2, y3, y4]) rfl ⟨by rw [HG.out]; rfl, hlaid.2⟩
end Go.Proofs.YthiaaminkfkjpaaGreat
namespace Go.Proofs.YthiaaminkfkjpaaGreat
open Go.RowKit

/-- The value of a column: the row is boxed. -/
theorem value_any (r : RowV) (c : Int) (w : World) : Calls Tryz.prog 57 #[r.val, .int .i64 c] w fun e w' => e = .returned (.int .i64 (r.value c)) ∧ w' = w.alloc (.cells r.cells.toArray 67) := by
  obtain ⟨t, k, x, y, z⟩ := r
  unfold RowV.val
  dsimp only
  by_cases h0 : c = 0
  · subst h0
    go_enter Tryz.func57, Tryz.ntmps57
    go_wp2
    go_ret
    exact ⟨rfl, rfl⟩
  by_cases h1 : c = 1
  · subst h1
    go_enter Tryz.func57, Tryz.ntmps57
    go_wp2
    go_ret
    exact ⟨rfl, rfl⟩
  by_cases h2 : c = 2
  · subst h2
    go_enter Tryz.func57, Tryz.ntmps57
    go_wp2
    go_ret
    exact ⟨rfl, rfl⟩
  by_cases h3 : c = 3
  · subst h3
    go_enter Tryz.func57, Tryz.ntmps57
    go_wp2
    go_ret
    exact ⟨rfl, rfl⟩
  have HV : Hid (RowV.value ⟨t, k, x, y, z⟩ c = 0) := Lib.hid (by simp [RowV.value, h0, h1, h2, h3])
  have g0 : (c == 0) = false := by simpa using h0
  have g1 : (c == 1) = false := by simpa using h1
  have g2 : (c == 2) = false := by simpa using h2
  have g3 : (c == 3) = false := by simpa using h3
  clear h0 h1 h2 h3
  go_enter Tryz.func57, Tryz.ntmps57
  go_wp2
  go_ret
  exact ⟨by rw [HV.out]; rfl, rfl⟩
theorem isNaN_any (x : Int) (w : World) : Calls Tryz.prog 94 #[.int .i64 x] w fun e w' => e = .returned (.bool false) ∧ w' = w := by
  go_enter Tryz.func94, Tryz.ntmps94
  go_wp2
  go_ret
  exact ⟨by simp, rfl⟩
/-- 'cmp.Compare'. -/
def cmpI (x y : Int) : Int := if x < y then -1 else if y < x then 1 else 0
theorem compare_any (x y : Int) (w : World) : Calls Tryz.prog 71 #[.int .i64 x, .int .i64 y] w fun e w' => e = .returned (.int .i64 (cmpI x y)) ∧ w' = w := by
  have HN := Lib.hid isNaN_any
  have HC : Hid (cmpI x y = if x < y then -1 else if y < x then 1 else 0) := Lib.hid rfl
  by_cases h1 : x < y
  · have HC2 : Hid (cmpI x y = -1) := Lib.hid (by rw [HC.out, if_pos h1])
    go_enter Tryz.func71, Tryz.ntmps71
    go_wp2_with (go_at_call 94; refine (HN.out _ _).mono ?_; rintro e w' ⟨rfl, rfl⟩)
    go_ret
    exact ⟨by rw [HC2.out]; rfl, rfl⟩
  by_cases h2 : y < x
  · have HC2 : Hid (cmpI x y = 1) := Lib.hid (by rw [HC.out, if_neg h1, if_pos h2])
    go_enter Tryz.func71, Tryz.ntmps71
    go_wp2_with (go_at_call 94; refine (HN.out _ _).mono ?_; rintro e w' ⟨rfl, rfl⟩)
    go_ret
    exact ⟨by rw [HC2.out]; rfl, rfl⟩
  have HC2 : Hid (cmpI x y = 0) := Lib.hid (by rw [HC.out, if_neg h1, if_neg h2])
  go_enter Tryz.func71, Tryz.ntmps71
  go_wp2_with (go_at_call 94; refine (HN.out _ _).mono ?_; rintro e w' ⟨rfl, rfl⟩)
  go_ret
  exact ⟨by rw [HC2.out]; rfl, rfl⟩
/-- 'cmp.Or' of two. -/
theorem or_any (x y : Int) (b cap : Nat) (w : World) (h0 : w.cell? ⟨b, 0, none⟩ = some (.int .i64 x)) (h1 : w.cell? ⟨b, 1, none⟩ = some (.int .i64 y)) :
    Calls Tryz.prog 70 #[.slice (some ⟨b, 0, none⟩) 2 cap] w fun e w' => e = .returned (.int .i64 (if x = 0 then y else x)) ∧ w' = w := by
  by_cases hx : x = 0
  · subst hx
    by_cases hy : y = 0
    · subst hy
      go_enter Tryz.func70, Tryz.ntmps70
      go_wp2_with fail
      refine wp_loop_rounds 3 ?_
      rw [rounds_succ]
      go_wp2_with fail
      (try (rw [rounds_succ]; go_wp2_with fail))
      (try (rw [rounds_succ]; go_wp2_with fail))
      go_ret
      exact ⟨by simp, rfl⟩
    · have hy' : (y != 0) = true := by simpa using hy
      have HY := Lib.hid hy
      clear hy
      go_enter Tryz.func70, Tryz.ntmps70
      go_wp2_with fail
      refine wp_loop_rounds 3 ?_
      rw [rounds_succ]
      go_wp2_with fail
      (try (rw [rounds_succ]; go_wp2_with fail))
      go_ret
      exact ⟨by simp, rfl⟩
  · have hx' : (x != 0) = true := by simpa using hx
    have HX := Lib.hid hx
    clear hx
    go_enter Tryz.func70, Tryz.ntmps70
    go_wp2_with fail
    refine wp_loop_rounds 3 ?_
    rw [rounds_succ]
    go_wp2_with fail
    go_ret
    exact ⟨rfl, rfl⟩
end Go.Proofs.YthiaaminkfkjpaaGreat
namespace Go.Proofs.YthiaaminkfkjpaaGreat
open Go.RowKit Go.Sort

/-- How two rows stand to each other: by the column, then by the key. -/
def cmpRow (c : Int) (a b : RowV) : Int := if cmpI (a.value c) (b.value c) = 0 then cmpI a.k b.k else cmpI (a.value c) (b.value c)

theorem grown3 {W W2 : World} (nq : Nat) (osq : Array Obj) (o : Obj) (h : ∃ q os, W2 = grow (W.drewN q) os) : ∃ q os, (grow (W2.drewN nq) osq).alloc o = grow (W.drewN q) os := by
  obtain ⟨q, os, rfl⟩ := h
  refine ⟨q + nq, os ++ osq ++ #[o], ?_⟩
  rw [alloc_eq_grow]
  show grow (grow (grow ((W.drewN q).drewN nq) os) osq) _ = _
  rw [grow_grow, grow_grow, World.drewN_drewN, Array.append_assoc]
theorem value5 (t k x y z c : Int) (w : World) : Calls Tryz.prog 57 #[.agg #[.int .i64 t, .int .i64 k, .int .i64 x, .int .i64 y, .int .i64 z], .int .i64 c] w fun e w' => e = .returned (.int .i64 (RowV.value ⟨t, k, x, y, z⟩ c)) ∧ w' = w.alloc (.cells #[.int .i64 t, .int .i64 k, .int .i64 x, .int .i64 y, .int .i64 z] 67) := value_any ⟨t, k, x, y, z⟩ c w

set_option maxRecDepth 100000 in
set_option maxHeartbeats 2000000 in
theorem cmp_any (c : Int) (r1 r2 : RowV) (gc : Nat) (W : World) (hc : W.cell? ⟨gc, 0, none⟩ = some (.int .i64 c)) :
    Calls Tryz.prog 69 #[r1.val, r2.val, .pointer (some ⟨gc, 0, none⟩)] W fun e w' => e = .returned (.int .i64 (cmpRow c r1 r2)) ∧ ∃ q os, w' = grow (W.drewN q) os := by
  have hgl := World.block_lt_of_cell? W _ hc
  have HV := Lib.hid value5
  have HCM := Lib.hid compare_any
  have hb1 := (Blk.new W 67 r1.cells.toArray).alloc (.cells r2.cells.toArray 67)
  have hb2 := Blk.new (W.alloc (.cells r1.cells.toArray 67)) 67 r2.cells.toArray
  have hc2 : ((W.alloc (.cells r1.cells.toArray 67)).alloc (.cells r2.cells.toArray 67)).cell? ⟨gc, 0, none⟩ = some (.int .i64 c) := by
    rw [World.cell?_alloc_lt _ _ _ (by simpa using Nat.lt_succ_of_lt hgl), World.cell?_alloc_lt _ _ _ (by simpa using hgl)]
    exact hc
  have hW : ∃ q os, (W.alloc (.cells r1.cells.toArray 67)).alloc (.cells r2.cells.toArray 67) = grow (W.drewN q) os := ⟨0, _, by rw [alloc_eq_grow, alloc_eq_grow, grow_grow]; rfl⟩
  have HW := Lib.hid hW
  clear hW hc
  unfold cmpRow
  go_enter Tryz.func69, Tryz.ntmps69
  go_wp2_with fail
  rw [World.size_alloc] at hb2
  generalize (W.alloc (.cells r1.cells.toArray 67)).alloc (.cells r2.cells.toArray 67) = W2 at *
  obtain ⟨t1, k1, x1, y1, z1⟩ := r1
  obtain ⟨t2, k2, x2, y2, z2⟩ := r2
  have hl1 := hb1.lt
  have hl2 := hb2.lt
  have hl0 := World.block_lt_of_cell? W2 _ hc2
  have q0 : ∀ n os, (grow (W2.drewN n) os).cell? ⟨gc, 0, none⟩ = some (.int .i64 c) := cell_grown hl0 hc2
  have a0 : ∀ n os, (grow (W2.drewN n) os).cell? ⟨W.heap.size, 0, none⟩ = some (.int .i64 t1) := cell_grown hl1 (hb1.cell 0)
  have a1 : ∀ n os, (grow (W2.drewN n) os).cell? ⟨W.heap.size, 1, none⟩ = some (.int .i64 k1) := cell_grown hl1 (hb1.cell 1)
  have a2 : ∀ n os, (grow (W2.drewN n) os).cell? ⟨W.heap.size, 2, none⟩ = some (.int .i64 x1) := cell_grown hl1 (hb1.cell 2)
  have a3 : ∀ n os, (grow (W2.drewN n) os).cell? ⟨W.heap.size, 3, none⟩ = some (.int .i64 y1) := cell_grown hl1 (hb1.cell 3)
  have a4 : ∀ n os, (grow (W2.drewN n) os).cell? ⟨W.heap.size, 4, none⟩ = some (.int .i64 z1) := cell_grown hl1 (hb1.cell 4)
  have b0 : ∀ n os, (grow (W2.drewN n) os).cell? ⟨W.heap.size + 1, 0, none⟩ = some (.int .i64 t2) := cell_grown hl2 (hb2.cell 0)
  have b1 : ∀ n os, (grow (W2.drewN n) os).cell? ⟨W.heap.size + 1, 1, none⟩ = some (.int .i64 k2) := cell_grown hl2 (hb2.cell 1)
  have b2 : ∀ n os, (grow (W2.drewN n) os).cell? ⟨W.heap.size + 1, 2, none⟩ = some (.int .i64 x2) := cell_grown hl2 (hb2.cell 2)
  have b3 : ∀ n os, (grow (W2.drewN n) os).cell? ⟨W.heap.size + 1, 3, none⟩ = some (.int .i64 y2) := cell_grown hl2 (hb2.cell 3)
  have b4 : ∀ n os, (grow (W2.drewN n) os).cell? ⟨W.heap.size + 1, 4, none⟩ = some (.int .i64 z2) := cell_grown hl2 (hb2.cell 4)
  clear hb1 hb2 hc2 hgl hl0 hl1 hl2
  refine wp_region_quiet_tail (C := fun w' => ∃ p : GrownBy, w' = grow (W2.drewN p.n) p.os) 12 (by kernel_rfl) (by kernel_rfl) ⟨⟨1, #[]⟩, by rw [grow_empty]; rfl⟩ ?_
  simp only [List.take_succ_cons, List.take_zero, List.drop_succ_cons, List.drop_zero]
  repeat (quiet_step (first
    | exact Calls.grown_of ((HV.out _ _ _ _ _ _ _).mono fun e w'' h => ⟨h.1, 0, _, h.2.trans (alloc_eq_grow _ _)⟩)
    | exact Calls.grown_of ((HCM.out _ _ _).mono fun e w'' h => ⟨h.1, 0, #[], h.2.trans (grow_empty _).symm⟩)))
  refine wpQuiet_nil ?_
  intro w' hw'
  obtain ⟨⟨nq, osq⟩, rfl⟩ := hw'
  dsimp only
  go_wp2_with fail
  have hsz : (grow (W2.drewN nq) osq).heap.size = W2.heap.size + osq.size := by simp [grow]
  have hnb := Blk.new (grow (W2.drewN nq) osq) 3 #[.int .i64 (cmpI (RowV.value ⟨t1, k1, x1, y1, z1⟩ c) (RowV.value ⟨t2, k2, x2, y2, z2⟩ c)), .int .i64 (cmpI k1 k2)]
  rw [hsz] at hnb
  refine (or_any (cmpI (RowV.value ⟨t1, k1, x1, y1, z1⟩ c) (RowV.value ⟨t2, k2, x2, y2, z2⟩ c)) (cmpI k1 k2) (W2.heap.size + osq.size) 2 _ (hnb.cell 0) (hnb.cell 1)).mono ?_
  rintro e w'' ⟨rfl, rfl⟩
  go_wp2_with fail
  all_goals
    go_ret
    exact ⟨rfl, grown3 _ _ _ HW.out⟩
end Go.Proofs.YthiaaminkfkjpaaGreat

/-
  The reference of a state: Get.
-/
import Derived.Test.YthiaaminkfkjpaaEaq
namespace Go.Proofs.Ythiaaminkfkjpaa
open Go.RowKit

/-- What 'Get' answers for what is there. -/
abbrev gotVal (o : Option RowV) : Value := .tuple #[(o.map RowV.val).getD (.agg #[.int .i64 0, .int .i64 0, .int .i64 0, .int .i64 0, .int .i64 0]), .bool o.isSome]

/-- A row laid into the result's block. -/
theorem row_laid {W w : World} {F : World} {t k x y z t0 k0 x0 y0 z0 : Int} (hF : F = ((((W.setCell ⟨w.heap.size, 0, none⟩ (.int .i64 t)).setCell ⟨w.heap.size, 1, none⟩ (.int .i64 k)).setCell ⟨w.heap.size, 2, none⟩ (.int .i64 x)).setCell ⟨w.heap.size, 3, none⟩ (.int .i64 y)).setCell ⟨w.heap.size, 4, none⟩ (.int .i64 z))
    (hn : Blk W w.heap.size 33 #[.int .i64 t0, .int .i64 k0, .int .i64 x0, .int .i64 y0, .int .i64 z0]) (f : Fr [] w W) :
    (F.cell? ⟨w.heap.size, 0, none⟩ = some (.int .i64 t) ∧ F.cell? ⟨w.heap.size, 1, none⟩ = some (.int .i64 k) ∧ F.cell? ⟨w.heap.size, 2, none⟩ = some (.int .i64 x) ∧ F.cell? ⟨w.heap.size, 3, none⟩ = some (.int .i64 y) ∧ F.cell? ⟨w.heap.size, 4, none⟩ = some (.int .i64 z)) ∧ Fr [] w F := by
  subst hF
  have hS := ((((hn.set_ 0 (.int .i64 t)).set_ 1 (.int .i64 k)).set_ 2 (.int .i64 x)).set_ 3 (.int .i64 y)).set_ 4 (.int .i64 z)
  refine ⟨⟨hS.cell 0, hS.cell 1, hS.cell 2, hS.cell 3, hS.cell 4⟩, ?_⟩
  exact ((((f.setCell (.inr (Nat.le_refl _)) _).setCell (.inr (Nat.le_refl _)) _).setCell (.inr (Nat.le_refl _)) _).setCell (.inr (Nat.le_refl _)) _).setCell (.inr (Nat.le_refl _)) _

set_option maxRecDepth 100000 in
theorem rfget_any (b : Nat) (v : Value) (L : List RowV) (s : Sm.Sta) (t k : Int) (w : World) (h : RfAt w b v L s) (ht : okI t) (hk : okI k) :
    Calls Try.prog 16 #[.pointer (some ⟨b, 0, none⟩), .int .i64 t, .int .i64 k] w fun e w' => e = .returned (gotVal (mget s.M (idOf t k))) ∧ Fr [] w w' := by
  obtain ⟨A, cap, hv⟩ := h.row.val
  subst hv
  have hlen : L.length ≤ 2000 := by rw [h.sim.len]; exact h.ok.len
  have hres := Lib.hid (fun (n : Nat) (hp : Sm.Plc L t k n) => And.intro (fun (hl : n < L.length) (e1 : L[n].t = t) (e2 : L[n].k = k) => hp.hit h.sim h.ok.nd h.ok.key ht hk hl e1 e2) (hp.miss h.sim h.ok.nd h.ok.key ht hk))
  have F0 : Fr [] w (w.alloc (.cells #[.int .i64 0, .int .i64 0, .int .i64 0, .int .i64 0, .int .i64 0] 33)) := (Fr.refl _ _).alloc _
  have hn := Blk.new w 33 #[.int .i64 0, .int .i64 0, .int .i64 0, .int .i64 0, .int .i64 0]
  have h0 := h.fr0 F0
  have hb0 : (w.alloc (.cells #[.int .i64 0, .int .i64 0, .int .i64 0, .int .i64 0, .int .i64 0] 33)).cell? ⟨b, 0, none⟩ = some (.slice A L.length cap) := h0.blk.cell 0
  have HP := Lib.hid (place_any b A cap L t k _ hb0 h0.row h0.sim.srt (by omega))
  have hlb := h.blk.lt
  go_enter Try.func16, Try.ntmps16
  clear hb0
  go_wp2_with fail
  refine HP.out.mono ?_
  rintro e w' ⟨n, ⟨rfl, rfl⟩, hp⟩
  obtain ⟨hhit, hmiss⟩ := hres.out n hp
  have hnl := hp.le
  clear HP hres hp
  have HR := Lib.hid (fun (h : 0 < L.length) => h0.row.form RowV.cells_len h)
  have c0 : (w.alloc (.cells #[.int .i64 0, .int .i64 0, .int .i64 0, .int .i64 0, .int .i64 0] 33)).cell? ⟨b, 0, none⟩ = some (.slice A L.length cap) := h0.blk.cell 0
  have d0 := hn.cell 0
  have d1 := hn.cell 1
  have d2 := hn.cell 2
  have d3 := hn.cell 3
  have d4 := hn.cell 4
  have z0 := hn.frozen 0
  have z1 := hn.frozen 1
  have z2 := hn.frozen 2
  have z3 := hn.frozen 3
  have z4 := hn.frozen 4
  clear h0
  by_cases hlt : n < L.length
  · obtain ⟨gR, cap', hA, hlc, hcm, hgl, hcell, hfz⟩ := HR.out (by omega)
    cases hA
    replace hhit := hhit hlt
    have hmiss' : ¬ (L[n].t = t ∧ L[n].k = k) → mget s.M (idOf t k) = none := fun h => hmiss fun _ => h
    have HH := Lib.hid hhit
    have HM := Lib.hid hmiss'
    obtain ⟨x, hx⟩ : ∃ x, L[n] = x := ⟨_, rfl⟩
    obtain ⟨xt, xk, xa, xb, xc⟩ := x
    have hce := Lib.hid (fun j (hj : j < 5) => hcell n hlt j hj)
    clear hmiss hmiss' hhit hcell hfz HR
    rw [hx] at HH HM hce
    clear hx
    generalize w.alloc (.cells #[.int .i64 0, .int .i64 0, .int .i64 0, .int .i64 0, .int .i64 0] 33) = W0 at *
    have x0 : W0.cell? ⟨gR, n * 5, none⟩ = some (.int .i64 xt) := hce.out 0 (by decide)
    have x1 : W0.cell? ⟨gR, n * 5 + 1, none⟩ = some (.int .i64 xk) := hce.out 1 (by decide)
    have x2 : W0.cell? ⟨gR, n * 5 + 2, none⟩ = some (.int .i64 xa) := hce.out 2 (by decide)
    have x3 : W0.cell? ⟨gR, n * 5 + 3, none⟩ = some (.int .i64 xb) := hce.out 3 (by decide)
    have x4 : W0.cell? ⟨gR, n * 5 + 4, none⟩ = some (.int .i64 xc) := hce.out 4 (by decide)
    clear hce
    by_cases e1 : xt = t
    · have e1' : (xt == t) = true := by simpa using e1
      have E1 := Lib.hid e1
      clear e1
      by_cases e2 : xk = k
      · have e2' : (xk == k) = true := by simpa using e2
        have HG := Lib.hid (HH.out E1.out e2)
        clear e2
        go_wp2_with fail
        have hlaid := row_laid (t := xt) (k := xk) (x := xa) (y := xb) (z := xc) rfl hn F0
        refine bodyPost_ret (v := .tuple #[.agg #[.int .i64 xt, .int .i64 xk, .int .i64 xa, .int .i64 xb, .int .i64 xc], .bool true]) (by obtain ⟨⟨y0, y1, y2, y3, y4⟩, _⟩ := hlaid; simp [results, Try.results16, go_sem, y0, y1, y2, y3, y4]) rfl ⟨by rw [HG.out]; rfl, hlaid.2⟩
      · have e2' : (xk == k) = false := by simpa using e2
        have HG := Lib.hid (HM.out (fun h => e2 h.2))
        clear e2
        go_wp2_with fail
        have hlaid := row_laid (t := 0) (k := 0) (x := 0) (y := 0) (z := 0) rfl hn F0
        refine bodyPost_ret (v := .tuple #[.agg #[.int .i64 0, .int .i64 0, .int .i64 0, .int .i64 0, .int .i64 0], .bool false]) (by obtain ⟨⟨y0, y1, y2, y3, y4⟩, _⟩ := hlaid; simp [results, Try.results16, go_sem, y0, y1, y2, y3, y4]) rfl ⟨by rw [HG.out]; rfl, hlaid.2⟩
    · have e1' : (xt == t) = false := by simpa using e1
      have HG := Lib.hid (HM.out (fun h => e1 h.1))
      clear e1
      go_wp2_with fail
      have hlaid := row_laid (t := 0) (k := 0) (x := 0) (y := 0) (z := 0) rfl hn F0
      refine bodyPost_ret (v := .tuple #[.agg #[.int .i64 0, .int .i64 0, .int .i64 0, .int .i64 0, .int .i64 0], .bool false]) (by obtain ⟨⟨y0, y1, y2, y3, y4⟩, _⟩ := hlaid; simp [results, Try.results16, go_sem, y0, y1, y2, y3, y4]) rfl ⟨by rw [HG.out]; rfl, hlaid.2⟩
  · have HG := Lib.hid (hmiss (fun h => absurd h hlt))
    clear hmiss hhit HR
    generalize w.alloc (.cells #[.int .i64 0, .int .i64 0, .int .i64 0, .int .i64 0, .int .i64 0] 33) = W0 at *
    go_wp2_with fail
    have hlaid := row_laid (t := 0) (k := 0) (x := 0) (y := 0) (z := 0) rfl hn F0
    refine bodyPost_ret (v := .tuple #[.agg #[.int .i64 0, .int .i64 0, .int .i64 0, .int .i64 0, .int .i64 0], .bool false]) (by obtain ⟨⟨y0, y1, y2, y3, y4⟩, _⟩ := hlaid; simp [results, Try.results16, go_sem, y0, y1, y2, y3, y4]) rfl ⟨by rw [HG.out]; rfl, hlaid.2⟩
end Go.Proofs.Ythiaaminkfkjpaa

/-
  The reference of a state: Get.
-/
import Derived.Test.YtjiikpmkedkbkaaGaf
import Derived.Test.YtjiikpmkedkbkaaGai
import Derived.Test.YtjiikpmkedkbkaaGab
namespace Go.Proofs.Ytjiikpmkedkbkaa
open Go.RowKit

theorem infoRow : (Try.prog.info? 57).map (fun i => (i.zero, i.size, i.bytes)) = some (some (.agg #[.int .i64 0, .int .i64 0, .int .i64 0, .int .i64 0, .int .i64 0]), 5, 40) := by kernel_rfl
theorem etRow : ∃ i0, ET Try.prog 25 57 5 40 i0 (.agg #[.int .i64 0, .int .i64 0, .int .i64 0, .int .i64 0, .int .i64 0]) := by
  obtain ⟨i0, hi, hz0, hz1, hz2⟩ := info_parts infoRow
  exact ⟨i0, Try.underlying25, hi, hz0, hz1, hz2, rfl, by decide⟩
abbrev RowsOwn (w : World) (v : Value) (L : List RowV) : Prop := OwnL 57 5 RowV.cells w v L

/-- At block b lies the reference's state: the rows L, in v's row; it is the state s. -/
structure RfAt (w : World) (b : Nat) (v : Value) (L : List RowV) (s : Sm.Sta) : Prop where
  blk : Blk w b 67 #[v, .int .i64 s.pos]
  row : RowsOwn w v L
  sim : Sm.Sim s.M L
  ok : Sm.Ok s
def fpRf (b : Nat) (v : Value) : List Nat := b :: v.ownBlock.toList
theorem RfAt.fr {w w' : World} {b : Nat} {v : Value} {L : List RowV} {s : Sm.Sta} {S : List Nat} (h : RfAt w b v L s) (hf : Fr S w w') (hs : ∀ i ∈ fpRf b v, i ∉ S) : RfAt w' b v L s :=
  ⟨h.blk.fr hf (hs b (by simp [fpRf])), h.row.fr hf (fun g hg => hs g (by simp [fpRf, hg])), h.sim, h.ok⟩
theorem RfAt.fr0 {w w' : World} {b : Nat} {v : Value} {L : List RowV} {s : Sm.Sta} (h : RfAt w b v L s) (hf : Fr [] w w') : RfAt w' b v L s := h.fr hf (by simp)

theorem rfnew_any (w : World) : Calls Try.prog 16 #[] w fun e w' => e = .returned (.pointer (some ⟨w.heap.size, 0, none⟩)) ∧ RfAt w' w.heap.size (.slice none 0 0) [] Sm.new ∧ Fr [] w w' := by
  go_enter Try.func16, Try.ntmps16
  go_wp2
  go_ret
  exact ⟨rfl, ⟨Blk.new _ _ _, OwnL.nil, Sm.Sim.nil, Sm.ok_new⟩, (Fr.refl _ _).alloc _⟩

set_option maxRecDepth 100000 in
/-- 'place': at the rows L, which lie in a block. -/
theorem place_any (b : Nat) (A : Option Addr) (cap : Nat) (L : List RowV) (t k : Int) (w : World) (h0 : w.cell? ⟨b, 0, none⟩ = some (.slice A L.length cap)) (hrow : RowsOwn w (.slice A L.length cap) L) (hsrt : Sm.Srt L) (hl : L.length ≤ 5000) :
    Calls Try.prog 44 #[.pointer (some ⟨b, 0, none⟩), .int .i64 t, .int .i64 k] w fun e w' => ∃ n : Nat, (e = .returned (.int .i64 n) ∧ w = w') ∧ Sm.Plc L t k n := by
  have HS := Lib.hid hsrt
  have HR := Lib.hid (fun (h : 0 < L.length) => hrow.form RowV.cells_len h)
  clear hrow hsrt
  go_enter Try.func44, Try.ntmps44
  go_wp2_with fail
  go_loop [7, 8] (fun lo hi => ∃ l h : Nat, (lo = .int .i64 l ∧ hi = .int .i64 h) ∧ l ≤ h ∧ h ≤ L.length ∧ Hid (∀ i (hi : i < L.length), (i < l → Sm.bef L[i] t k = true) ∧ (h ≤ i → Sm.bef L[i] t k = false))) (fun lo hi => (intOf hi - intOf lo).toNat)
  case atStart => exact ⟨0, L.length, ⟨rfl, rfl⟩, by omega, Nat.le_refl _, Lib.hid fun i hi => ⟨fun h => by omega, fun h => by omega⟩⟩
  case round =>
    obtain ⟨l, h, ⟨rfl, rfl⟩, hlh, hhL, hinv⟩ := hrel
    by_cases hlt : l < h
    · obtain ⟨gR, cap', hA, hlc, hcm, hgl, hcell, hfz⟩ := HR.out (by omega)
      cases hA
      have hm1 : l ≤ (l + h) / 2 := by omega
      have hm2 : (l + h) / 2 < h := by omega
      have hml : (l + h) / 2 < L.length := by omega
      have d0 : w.cell? ⟨gR, (l + h) / 2 * 5, none⟩ = some (.int .i64 L[(l + h) / 2].t) := hcell _ (by omega) 0 (by decide)
      have d1 : w.cell? ⟨gR, (l + h) / 2 * 5 + 1, none⟩ = some (.int .i64 L[(l + h) / 2].k) := hcell _ (by omega) 1 (by decide)
      obtain ⟨x, hx⟩ : ∃ x, L[(l + h) / 2] = x := ⟨_, rfl⟩
      rw [hx] at d0 d1
      have HX := Lib.hid hx
      clear hx hcell hfz
      obtain ⟨xt, xk, x1, x2, x3⟩ := x
      dsimp only at d0 d1
      have hlow : Hid (Sm.bef ⟨xt, xk, x1, x2, x3⟩ t k = true → ∀ i (hi : i < L.length), (i < (l + h) / 2 + 1 → Sm.bef L[i] t k = true) ∧ (h ≤ i → Sm.bef L[i] t k = false)) := Lib.hid fun hb i hi => ⟨fun h1 => by
        rcases Nat.lt_or_ge i ((l + h) / 2) with h2 | h2
        · have h3 := HS.out.get hi hml h2
          rw [HX.out] at h3
          simp only [Sm.bef, decide_eq_true_eq] at hb ⊢
          dsimp only at h3
          omega
        · obtain rfl : i = (l + h) / 2 := by omega
          rw [HX.out]; exact hb, (hinv.out i hi).2⟩
      have hhigh : Hid (Sm.bef ⟨xt, xk, x1, x2, x3⟩ t k = false → ∀ i (hi : i < L.length), (i < l → Sm.bef L[i] t k = true) ∧ ((l + h) / 2 ≤ i → Sm.bef L[i] t k = false)) := Lib.hid fun hb i hi => ⟨(hinv.out i hi).1, fun h1 => by
        rcases Nat.lt_or_ge ((l + h) / 2) i with h2 | h2
        · have h3 := HS.out.get hml hi h2
          rw [HX.out] at h3
          simp only [Sm.bef, decide_eq_false_iff_not] at hb ⊢
          dsimp only at h3
          omega
        · obtain rfl : i = (l + h) / 2 := by omega
          rw [HX.out]; exact hb⟩
      clear hinv
      by_cases h1 : xt < t
      · have HB := Lib.hid (hlow.out (by simp only [Sm.bef, decide_eq_true_eq]; omega))
        clear hlow hhigh
        go_wp2_with fail
        go_round
        case rel => exact ⟨(l + h) / 2 + 1, h, ⟨by go_num, rfl⟩, by omega, by omega, HB⟩
        case measure => simp [intOf]; omega
      · by_cases h2 : xt = t
        · have h2' : (xt == t) = true := by simpa using h2
          by_cases h3 : xk < k
          · have HB := Lib.hid (hlow.out (by simp only [Sm.bef, decide_eq_true_eq]; omega))
            clear hlow hhigh h2
            go_wp2_with fail
            go_round
            case rel => exact ⟨(l + h) / 2 + 1, h, ⟨by go_num, rfl⟩, by omega, by omega, HB⟩
            case measure => simp [intOf]; omega
          · have HB := Lib.hid (hhigh.out (by simp only [Sm.bef, decide_eq_false_iff_not]; omega))
            clear hlow hhigh h2
            go_wp2_with fail
            go_round
            case rel => exact ⟨l, (l + h) / 2, ⟨rfl, by go_num⟩, by omega, by omega, HB⟩
            case measure => simp [intOf]; omega
        · have h2' : (xt == t) = false := by simpa using h2
          have HB := Lib.hid (hhigh.out (by simp only [Sm.bef, decide_eq_false_iff_not]; omega))
          clear hlow hhigh h2
          go_wp2_with fail
          go_round
          case rel => exact ⟨l, (l + h) / 2, ⟨rfl, by go_num⟩, by omega, by omega, HB⟩
          case measure => simp [intOf]; omega
    · go_wp2
      go_ret
      have : l = h := by omega
      subst this
      exact ⟨l, ⟨rfl, rfl⟩, hhL, fun i hi h1 => (hinv.out i hi).1 h1, fun i hi h1 => (hinv.out i hi).2 h1⟩
end Go.Proofs.Ytjiikpmkedkbkaa
namespace Go.Proofs.Ytjiikpmkedkbkaa

/-- At A lie the elements L. -/
def AtL {X : Type} (enc : X → List Value) (size : Nat) (w : World) (A : Option Addr) (L : List X) : Prop :=
  0 < L.length → ∃ b off, A = some ⟨b, off, none⟩ ∧ b < w.heap.size ∧ ∀ i (h : i < L.length) j, j < size → w.cell? ⟨b, off + i * size + j, none⟩ = (enc L[i])[j]?
section
variable {X : Type} {enc : X → List Value} {size e : Nat} {w w' : World} {A : Option Addr} {L : List X} {v : Value}
theorem AtL.fr {S : List Nat} (h : AtL enc size w A L) (hf : Fr S w w') (hs : ∀ ad, A = some ad → ad.block ∉ S) : AtL enc size w' A L := by
  intro hl
  obtain ⟨b, off, e, hb, hc⟩ := h hl
  refine ⟨b, off, e, Nat.lt_of_lt_of_le hb hf.size, fun i hi j hj => ?_⟩
  rw [hf.cell (p := ⟨b, off + i * size + j, none⟩) hb (hs ⟨b, off, none⟩ e)]
  exact hc i hi j hj
theorem AtL.fr0 (h : AtL enc size w A L) (hf : Fr [] w w') : AtL enc size w' A L := h.fr hf (by simp)
theorem OwnL.at_ (henc : ∀ x, (enc x).length = size) (h : OwnL e size enc w v L) : ∃ A cap, v = .slice A L.length cap ∧ AtL enc size w A L := by
  rcases Nat.eq_zero_or_pos L.length with h0 | h0
  · obtain ⟨A, cap, hv⟩ := h.val
    exact ⟨A, cap, hv, fun hl => absurd hl (by omega)⟩
  · obtain ⟨g, cap, hv, _, _, hlt, hcell, _⟩ := h.form henc h0
    exact ⟨_, cap, hv, fun _ => ⟨g, 0, rfl, hlt, fun i hi j hj => by rw [Nat.zero_add]; exact hcell i hi j hj⟩⟩
theorem AtL.of_blk (henc : ∀ x, (enc x).length = size) {g t : Nat} {arr : Array Value} (hB : Blk w g t arr) (h : L.flatMap enc = arr.toList) : AtL enc size w (some ⟨g, 0, none⟩) L :=
  fun _ => ⟨g, 0, rfl, hB.lt, fun i hi j hj => by
    rw [← flat_get henc L i hi j hj, h, Nat.zero_add, hB.cell]
    simp⟩
end
theorem OwnL.at1 {X : Type} {e size : Nat} {enc : X → List Value} {w : World} {A : Option Addr} {n cap : Nat} {L : List X} (henc : ∀ x, (enc x).length = size) (h : OwnL e size enc w (.slice A n cap) L) : AtL enc size w A L ∧ n = L.length := by
  obtain ⟨A', cap', hv, ha⟩ := h.at_ henc
  cases hv
  exact ⟨ha, rfl⟩
end Go.Proofs.Ytjiikpmkedkbkaa
namespace Go.Proofs.Ytjiikpmkedkbkaa
open Go.RowKit

/-- What 'Get' answers for what is there. -/
abbrev gotVal (o : Option RowV) : Value := .tuple #[(o.map RowV.val).getD (.agg #[.int .i64 0, .int .i64 0, .int .i64 0, .int .i64 0, .int .i64 0]), .bool o.isSome]

/-- A row laid into the result's block. -/
theorem row_laid {W w : World} {F : World} {t k x y z t0 k0 x0 y0 z0 : Int} (hF : F = ((((W.setCell ⟨w.heap.size, 0, none⟩ (.int .i64 t)).setCell ⟨w.heap.size, 1, none⟩ (.int .i64 k)).setCell ⟨w.heap.size, 2, none⟩ (.int .i64 x)).setCell ⟨w.heap.size, 3, none⟩ (.int .i64 y)).setCell ⟨w.heap.size, 4, none⟩ (.int .i64 z))
    (hn : Blk W w.heap.size 57 #[.int .i64 t0, .int .i64 k0, .int .i64 x0, .int .i64 y0, .int .i64 z0]) (f : Fr [] w W) :
    (F.cell? ⟨w.heap.size, 0, none⟩ = some (.int .i64 t) ∧ F.cell? ⟨w.heap.size, 1, none⟩ = some (.int .i64 k) ∧ F.cell? ⟨w.heap.size, 2, none⟩ = some (.int .i64 x) ∧ F.cell? ⟨w.heap.size, 3, none⟩ = some (.int .i64 y) ∧ F.cell? ⟨w.heap.size, 4, none⟩ = some (.int .i64 z)) ∧ Fr [] w F := by
  subst hF
  have hS := ((((hn.set_ 0 (.int .i64 t)).set_ 1 (.int .i64 k)).set_ 2 (.int .i64 x)).set_ 3 (.int .i64 y)).set_ 4 (.int .i64 z)
  refine ⟨⟨hS.cell 0, hS.cell 1, hS.cell 2, hS.cell 3, hS.cell 4⟩, ?_⟩
  exact ((((f.setCell (.inr (Nat.le_refl _)) _).setCell (.inr (Nat.le_refl _)) _).setCell (.inr (Nat.le_refl _)) _).setCell (.inr (Nat.le_refl _)) _).setCell (.inr (Nat.le_refl _)) _

set_option maxRecDepth 100000 in
theorem rfget_any (b : Nat) (v : Value) (L : List RowV) (s : Sm.Sta) (t k : Int) (w : World) (h : RfAt w b v L s) (ht : okI t) (hk : okI k) :
    Calls Try.prog 26 #[.pointer (some ⟨b, 0, none⟩), .int .i64 t, .int .i64 k] w fun e w' => e = .returned (gotVal (mget s.M (idOf t k))) ∧ Fr [] w w' := by
  obtain ⟨A, cap, hv⟩ := h.row.val
  subst hv
  have hlen : L.length ≤ 2000 := by rw [h.sim.len]; exact h.ok.len
  have hres := Lib.hid (fun (n : Nat) (hp : Sm.Plc L t k n) => And.intro (fun (hl : n < L.length) (e1 : L[n].t = t) (e2 : L[n].k = k) => hp.hit h.sim h.ok.nd h.ok.key ht hk hl e1 e2) (hp.miss h.sim h.ok.nd h.ok.key ht hk))
  have F0 : Fr [] w (w.alloc (.cells #[.int .i64 0, .int .i64 0, .int .i64 0, .int .i64 0, .int .i64 0] 57)) := (Fr.refl _ _).alloc _
  have hn := Blk.new w 57 #[.int .i64 0, .int .i64 0, .int .i64 0, .int .i64 0, .int .i64 0]
  have h0 := h.fr0 F0
  have hb0 : (w.alloc (.cells #[.int .i64 0, .int .i64 0, .int .i64 0, .int .i64 0, .int .i64 0] 57)).cell? ⟨b, 0, none⟩ = some (.slice A L.length cap) := h0.blk.cell 0
  have HP := Lib.hid (place_any b A cap L t k _ hb0 h0.row h0.sim.srt (by omega))
  have hlb := h.blk.lt
  go_enter Try.func26, Try.ntmps26
  clear hb0
  go_wp2_with fail
  refine HP.out.mono ?_
  rintro e w' ⟨n, ⟨rfl, rfl⟩, hp⟩
  obtain ⟨hhit, hmiss⟩ := hres.out n hp
  have hnl := hp.le
  clear HP hres hp
  have HR := Lib.hid (fun (h : 0 < L.length) => h0.row.form RowV.cells_len h)
  have c0 : (w.alloc (.cells #[.int .i64 0, .int .i64 0, .int .i64 0, .int .i64 0, .int .i64 0] 57)).cell? ⟨b, 0, none⟩ = some (.slice A L.length cap) := h0.blk.cell 0
  have d0 := hn.cell 0
  have d1 := hn.cell 1
  have d2 := hn.cell 2
  have d3 := hn.cell 3
  have d4 := hn.cell 4
  have z0 := hn.frozen 0
  have z1 := hn.frozen 1
  have z2 := hn.frozen 2
  have z3 := hn.frozen 3
  have z4 := hn.frozen 4
  clear h0
  by_cases hlt : n < L.length
  · obtain ⟨gR, cap', hA, hlc, hcm, hgl, hcell, hfz⟩ := HR.out (by omega)
    cases hA
    replace hhit := hhit hlt
    have hmiss' : ¬ (L[n].t = t ∧ L[n].k = k) → mget s.M (idOf t k) = none := fun h => hmiss fun _ => h
    have HH := Lib.hid hhit
    have HM := Lib.hid hmiss'
    obtain ⟨x, hx⟩ : ∃ x, L[n] = x := ⟨_, rfl⟩
    obtain ⟨xt, xk, xa, xb, xc⟩ := x
    have hce := Lib.hid (fun j (hj : j < 5) => hcell n hlt j hj)
    clear hmiss hmiss' hhit hcell hfz HR
    rw [hx] at HH HM hce
    clear hx
    generalize w.alloc (.cells #[.int .i64 0, .int .i64 0, .int .i64 0, .int .i64 0, .int .i64 0] 57) = W0 at *
    have x0 : W0.cell? ⟨gR, n * 5, none⟩ = some (.int .i64 xt) := hce.out 0 (by decide)
    have x1 : W0.cell? ⟨gR, n * 5 + 1, none⟩ = some (.int .i64 xk) := hce.out 1 (by decide)
    have x2 : W0.cell? ⟨gR, n * 5 + 2, none⟩ = some (.int .i64 xa) := hce.out 2 (by decide)
    have x3 : W0.cell? ⟨gR, n * 5 + 3, none⟩ = some (.int .i64 xb) := hce.out 3 (by decide)
    have x4 : W0.cell? ⟨gR, n * 5 + 4, none⟩ = some (.int .i64 xc) := hce.out 4 (by decide)
    clear hce
    by_cases e1 : xt = t
    · have e1' : (xt == t) = true := by simpa using e1
      have E1 := Lib.hid e1
      clear e1
      by_cases e2 : xk = k
      · have e2' : (xk == k) = true := by simpa using e2
        have HG := Lib.hid (HH.out E1.out e2)
        clear e2
        go_wp2_with fail
        have hlaid := row_laid (t := xt) (k := xk) (x := xa) (y := xb) (z := xc) rfl hn F0
        refine bodyPost_ret (v := .tuple #[.agg #[.int .i64 xt, .int .i64 xk, .int .i64 xa, .int .i64 xb, .int .i64 xc], .bool true]) (by obtain ⟨⟨y0, y1, y2, y3, y4⟩, _⟩ := hlaid; simp [results, Try.results26, go_sem, y0, y1, y2, y3, y4]) rfl ⟨by rw [HG.out]; rfl, hlaid.2⟩
      · have e2' : (xk == k) = false := by simpa using e2
        have HG := Lib.hid (HM.out (fun h => e2 h.2))
        clear e2
        go_wp2_with fail
        have hlaid := row_laid (t := 0) (k := 0) (x := 0) (y := 0) (z := 0) rfl hn F0
        refine bodyPost_ret (v := .tuple #[.agg #[.int .i64 0, .int .i64 0, .int .i64 0, .int .i64 0, .int .i64 0], .bool false]) (by obtain ⟨⟨y0, y1, y2, y3, y4⟩, _⟩ := hlaid; simp [results, Try.results26, go_sem, y0, y1, y2, y3, y4]) rfl ⟨by rw [HG.out]; rfl, hlaid.2⟩
    · have e1' : (xt == t) = false := by simpa using e1
      have HG := Lib.hid (HM.out (fun h => e1 h.1))
      clear e1
      go_wp2_with fail
      have hlaid := row_laid (t := 0) (k := 0) (x := 0) (y := 0) (z := 0) rfl hn F0
      refine bodyPost_ret (v := .tuple #[.agg #[.int .i64 0, .int .i64 0, .int .i64 0, .int .i64 0, .int .i64 0], .bool false]) (by obtain ⟨⟨y0, y1, y2, y3, y4⟩, _⟩ := hlaid; simp [results, Try.results26, go_sem, y0, y1, y2, y3, y4]) rfl ⟨by rw [HG.out]; rfl, hlaid.2⟩
  · have HG := Lib.hid (hmiss (fun h => absurd h hlt))
    clear hmiss hhit HR
    generalize w.alloc (.cells #[.int .i64 0, .int .i64 0, .int .i64 0, .int .i64 0, .int .i64 0] 57) = W0 at *
    go_wp2_with fail
    have hlaid := row_laid (t := 0) (k := 0) (x := 0) (y := 0) (z := 0) rfl hn F0
    refine bodyPost_ret (v := .tuple #[.agg #[.int .i64 0, .int .i64 0, .int .i64 0, .int .i64 0, .int .i64 0], .bool false]) (by obtain ⟨⟨y0, y1, y2, y3, y4⟩, _⟩ := hlaid; simp [results, Try.results26, go_sem, y0, y1, y2, y3, y4]) rfl ⟨by rw [HG.out]; rfl, hlaid.2⟩
end Go.Proofs.Ytjiikpmkedkbkaa

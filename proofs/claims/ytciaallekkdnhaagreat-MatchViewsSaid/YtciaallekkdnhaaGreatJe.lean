/-
  Contract of the reference of rows (cachetierref03): ValidRecord.
-/
import Derived.Test.YtciaallekkdnhaaGreatJb
import Derived.Test.YtciaallekkdnhaaGreatJc
import Derived.Maps.Keyed
import Derived.DeepKeys4
import Derived.Deep.RegionLaw
import Derived.Test.YtciaallekkdnhaaGreatJa
import Derived.Test.YtciaallekkdnhaaGreatJd
namespace Go.Proofs.YtciaallekkdnhaaGreat

/-- At A lie the elements L. -/
def AtL {X : Type} (enc : X → List Value) (size : Nat) (w : World) (A : Option Addr) (L : List X) : Prop :=
  0 < L.length → ∃ b off, A = some ⟨b, off, none⟩ ∧ b < w.heap.size ∧ ∀ i (h : i < L.length) j, j < size → w.cell? ⟨b, off + i * size + j, none⟩ = (enc L[i])[j]?
section
variable {X : Type} {enc : X → List Value} {size e : Nat} {w w' : World} {A : Option Addr} {L : List X} {v : Value}
theorem AtL.fr {S : List Nat} (h : AtL enc size w A L) (hf : Fr S w w') (hs : ∀ ad, A = some ad → ad.block ∉ S) : AtL enc size w' A L := by
  intro hl
  obtain ⟨b, off, e, hb, hc⟩ := h hl
  refine ⟨b, off, e, Nat.lt_of_lt_of_le hb hf.size, fun i hi j hj => ?_⟩
  rw [hf.cell (p := ⟨b, off + i * size + j, none⟩) hb (hs ⟨b, off, none⟩ e)]
  exact hc i hi j hj
theorem AtL.fr0 (h : AtL enc size w A L) (hf : Fr [] w w') : AtL enc size w' A L := h.fr hf (by simp)
theorem OwnL.at_ (henc : ∀ x, (enc x).length = size) (h : OwnL e size enc w v L) : ∃ A cap, v = .slice A L.length cap ∧ AtL enc size w A L := by
  rcases Nat.eq_zero_or_pos L.length with h0 | h0
  · obtain ⟨A, cap, hv⟩ := h.val
    exact ⟨A, cap, hv, fun hl => absurd hl (by omega)⟩
  · obtain ⟨g, cap, hv, _, _, hlt, hcell, _⟩ := h.form henc h0
    exact ⟨_, cap, hv, fun _ => ⟨g, 0, rfl, hlt, fun i hi j hj => by rw [Nat.zero_add]; exact hcell i hi j hj⟩⟩
theorem AtL.of_blk (henc : ∀ x, (enc x).length = size) {g t : Nat} {arr : Array Value} (hB : Blk w g t arr) (h : L.flatMap enc = arr.toList) : AtL enc size w (some ⟨g, 0, none⟩) L :=
  fun _ => ⟨g, 0, rfl, hB.lt, fun i hi j hj => by
    rw [← flat_get henc L i hi j hj, h, Nat.zero_add, hB.cell]
    simp⟩
end
theorem OwnL.at1 {X : Type} {e size : Nat} {enc : X → List Value} {w : World} {A : Option Addr} {n cap : Nat} {L : List X} (henc : ∀ x, (enc x).length = size) (h : OwnL e size enc w (.slice A n cap) L) : AtL enc size w A L ∧ n = L.length := by
  obtain ⟨A', cap', hv, ha⟩ := h.at_ henc
  cases hv
  exact ⟨ha, rfl⟩
end Go.Proofs.YtciaallekkdnhaaGreat
namespace Go.Proofs.YtciaallekkdnhaaGreat
open Go.RowKit

/-- At A lie the changes cs. -/
def ChgsAt (w : World) (A : Option Addr) (cs : List Chg) : Prop :=
  0 < cs.length → ∃ b off, A = some ⟨b, off, none⟩ ∧ b < w.heap.size ∧ ∀ i (h : i < cs.length) j, j < 10 → w.cell? ⟨b, off + i * 10 + j, none⟩ = cs[i].cells[j]?
theorem ChgsAt.fr {w w' : World} {A : Option Addr} {cs : List Chg} {S : List Nat} (h : ChgsAt w A cs) (hf : Fr S w w') (hs : ∀ ad, A = some ad → ad.block ∉ S) : ChgsAt w' A cs := by
  intro hl
  obtain ⟨b, off, e, hb, hc⟩ := h hl
  refine ⟨b, off, e, Nat.lt_of_lt_of_le hb hf.size, fun i hi j hj => ?_⟩
  rw [hf.cell (p := ⟨b, off + i * 10 + j, none⟩) hb (hs ⟨b, off, none⟩ e)]
  exact hc i hi j hj

theorem zero_chg_cells : (⟨-1, 0, false, 0, 0, 0, false, 0, 0, 0⟩ : Chg).cells.toArray = #[.int .i64 (-1), .int .i64 0, .bool false, .int .i64 0, .int .i64 0, .int .i64 0, .bool false, .int .i64 0, .int .i64 0, .int .i64 0] := rfl

/-- A change stored at the head of block g. -/
abbrev setChg (w : World) (g : Nat) (c : Chg) : World := (((((((((w.setCell ⟨g, 0, none⟩ (.int .i64 c.t)).setCell ⟨g, 1, none⟩ (.int .i64 c.k)).setCell ⟨g, 2, none⟩ (.bool c.had)).setCell ⟨g, 3, none⟩ (.int .i64 c.o0)).setCell ⟨g, 4, none⟩ (.int .i64 c.o1)).setCell ⟨g, 5, none⟩ (.int .i64 c.o2)).setCell ⟨g, 6, none⟩ (.bool c.has)).setCell ⟨g, 7, none⟩ (.int .i64 c.n0)).setCell ⟨g, 8, none⟩ (.int .i64 c.n1)).setCell ⟨g, 9, none⟩ (.int .i64 c.n2)
theorem setChg_blk {w : World} {g ty : Nat} {l : Chg} (h : Blk w g ty l.cells.toArray) (c : Chg) : Blk (setChg w g c) g ty c.cells.toArray := by
  have h := (((((((((h.set_ 0 (.int .i64 c.t)).set_ 1 (.int .i64 c.k)).set_ 2 (.bool c.had)).set_ 3 (.int .i64 c.o0)).set_ 4 (.int .i64 c.o1)).set_ 5 (.int .i64 c.o2)).set_ 6 (.bool c.has)).set_ 7 (.int .i64 c.n0)).set_ 8 (.int .i64 c.n1)).set_ 9 (.int .i64 c.n2)
  simpa [Chg.cells] using h
theorem setChg_fr {S : List Nat} {W w : World} (hF : Fr S W w) {g : Nat} (hg : W.heap.size ≤ g) (c : Chg) : Fr S W (setChg w g c) :=
  (((((((((hF.setCell (.inr hg) _).setCell (.inr hg) _).setCell (.inr hg) _).setCell (.inr hg) _).setCell (.inr hg) _).setCell (.inr hg) _).setCell (.inr hg) _).setCell (.inr hg) _).setCell (.inr hg) _).setCell (.inr hg) _

/-- What stands at the head of each round. -/
def ValidRel (w : World) (g : Nat) (cs : List Chg) (k : Nat) (wr : World) : Prop := k ≤ cs.length ∧ ∃ l : Chg, Blk wr g 59 l.cells.toArray ∧ Rw.chgs (-1) 0 cs = Rw.chgs l.t l.k (cs.drop k) ∧ Fr [] w wr

theorem validRecord_any (r : Rec) (A : Option Addr) (cap : Nat) (w : World) (hx : ChgsAt w A r.cs) (hlen : r.cs.length ≤ maxLen) :
    Calls Tryz.prog 93 #[.agg #[.int .i64 r.p, .slice A r.cs.length cap]] w fun e w' => e = .returned (.bool (Rw.valid r)) ∧ Fr [] w w' := by
  obtain ⟨p, cs⟩ := r
  have HR : Hid (Rw.valid ⟨p, cs⟩ = (Rw.inI 1 10000 p && Rw.inI 1 8 cs.length && Rw.chgs (-1) 0 cs)) := Lib.hid rfl
  dsimp only at hx hlen ⊢
  unfold maxLen at hlen
  go_enter Tryz.func93, Tryz.ntmps93
  go_wp2_with fail
  refine (within_one p 1 10000 (w.heap.size + 1) _ (by simp [go_sem])).mono ?_
  rintro e w1 ⟨rfl, f1⟩
  have F1 : Fr [] w w1 := (((Fr.refl _ _).alloc _).alloc _).trans f1
  have hB := ((Blk.new w 26 #[.int .i64 p, .slice A cs.length cap]).alloc _).fr f1 (by simp)
  clear f1
  cases hp : Rw.inI 1 10000 p
  · have HF : Hid (Rw.valid ⟨p, cs⟩ = false) := Lib.hid (by rw [HR.out, hp]; rfl)
    clear hp
    go_wp2_with fail
    go_ret
    exact ⟨by rw [HF.out]; rfl, F1⟩
  have Hp := Lib.hid hp
  have c1 := hB.cell 1
  have hlt := hB.lt
  clear hp
  go_wp2_with fail
  refine (within_one cs.length 1 8 w1.heap.size _ (by simp [go_sem])).mono ?_
  rintro e w2 ⟨rfl, f2⟩
  have F2 : Fr [] w w2 := F1.trans (((Fr.refl _ _).alloc _).trans f2)
  replace hB := (hB.alloc _).fr f2 (by simp)
  clear f2 F1 c1 hlt
  cases hn : Rw.inI 1 8 cs.length
  · have HF : Hid (Rw.valid ⟨p, cs⟩ = false) := Lib.hid (by rw [HR.out, Hp.out, hn]; rfl)
    clear hn
    go_wp2_with fail
    go_ret
    exact ⟨by rw [HF.out]; rfl, F2⟩
  have Hn := Lib.hid hn
  have hn8 : 1 ≤ cs.length ∧ cs.length ≤ 8 := by
    have := hn
    unfold Rw.inI at this
    simp at this
    omega
  clear hn
  obtain ⟨b, off, hA, hb, hc⟩ := (hx.fr F2 (by simp)) (by omega)
  subst hA
  have HV : Hid (Rw.valid ⟨p, cs⟩ = Rw.chgs (-1) 0 cs) := Lib.hid (by rw [HR.out, Hp.out, Hn.out]; simp)
  clear HR Hp Hn hx
  have c1 := hB.cell 1
  have hlt := hB.lt
  have hcw : ∀ o, (w2.alloc o).cell? ⟨w.heap.size, 1, none⟩ = some (.slice (some ⟨b, off, none⟩) cs.length cap) := fun o => (hB.alloc o).cell 1
  have Hc := Lib.hid hc
  clear hc
  go_wp2_with fail
  have R0 : ValidRel w w2.heap.size cs 0 (w2.alloc (.cells #[.int .i64 (-1), .int .i64 0, .bool false, .int .i64 0, .int .i64 0, .int .i64 0, .bool false, .int .i64 0, .int .i64 0, .int .i64 0] 59)) :=
    ⟨Nat.zero_le _, ⟨-1, 0, false, 0, 0, 0, false, 0, 0, 0⟩, Blk.new _ _ _, rfl, F2.alloc _⟩
  have hcc : Hid (∀ wr, Fr [] w2 wr → ∀ i (h : i < cs.length) j, j < 10 → wr.cell? ⟨b, off + i * 10 + j, none⟩ = cs[i].cells[j]?) := Lib.hid fun wr hf i h j hj => by
    rw [hf.cell hb (by simp)]; exact Hc.out i h j hj
  have hf0 : Fr [] w2 (w2.alloc (.cells #[.int .i64 (-1), .int .i64 0, .bool false, .int .i64 0, .int .i64 0, .int .i64 0, .bool false, .int .i64 0, .int .i64 0, .int .i64 0] 59)) := (Fr.refl _ _).alloc _
  generalize hg : w2.heap.size = g at *
  have hgw : w.heap.size ≤ g := by have := F2.size; omega
  have hgw2 : w2.heap.size ≤ g := by omega
  clear c1 hcw hlt hB hg F2
  go_loopw [23] (fun i wr => ∃ k : Nat, i = .int .i64 k ∧ ValidRel w g cs k wr ∧ Fr [] w2 wr) (fun i _ => cs.length - (intOf i).toNat)
  case atStart => exact ⟨0, rfl, R0, hf0⟩
  case round =>
    clear R0 hf0
    obtain ⟨k, rfl, ⟨hk, l, hl, hch, hfr⟩, hf2⟩ := hrel
    by_cases hlt : k < cs.length
    · have hck := Lib.hid (hcc.out wr hf2 k hlt)
      have hch' : Rw.chgs (-1) 0 cs = (Rw.chg cs[k] && Rw.behind l.t l.k cs[k] && Rw.chgs cs[k].t cs[k].k (cs.drop (k + 1))) := by
        rw [hch, List.drop_eq_getElem_cons hlt]; rfl
      have HCH := Lib.hid hch'
      clear hch hch'
      generalize cs[k] = c at hck HCH
      obtain ⟨t, kk, had, o0, o1, o2, has, n0, n1, n2⟩ := c
      have c0 : wr.cell? ⟨b, off + k * 10, none⟩ = some (.int .i64 t) := hck.out 0 (by decide)
      have c1 : wr.cell? ⟨b, off + k * 10 + 1, none⟩ = some (.int .i64 kk) := hck.out 1 (by decide)
      have c2 : wr.cell? ⟨b, off + k * 10 + 2, none⟩ = some (.bool had) := hck.out 2 (by decide)
      have c3 : wr.cell? ⟨b, off + k * 10 + 3, none⟩ = some (.int .i64 o0) := hck.out 3 (by decide)
      have c4 : wr.cell? ⟨b, off + k * 10 + 4, none⟩ = some (.int .i64 o1) := hck.out 4 (by decide)
      have c5 : wr.cell? ⟨b, off + k * 10 + 5, none⟩ = some (.int .i64 o2) := hck.out 5 (by decide)
      have c6 : wr.cell? ⟨b, off + k * 10 + 6, none⟩ = some (.bool has) := hck.out 6 (by decide)
      have c7 : wr.cell? ⟨b, off + k * 10 + 7, none⟩ = some (.int .i64 n0) := hck.out 7 (by decide)
      have c8 : wr.cell? ⟨b, off + k * 10 + 8, none⟩ = some (.int .i64 n1) := hck.out 8 (by decide)
      have c9 : wr.cell? ⟨b, off + k * 10 + 9, none⟩ = some (.int .i64 n2) := hck.out 9 (by decide)
      clear hck
      go_wp2_with fail
      refine (validChange_any ⟨t, kk, had, o0, o1, o2, has, n0, n1, n2⟩ _).mono ?_
      rintro e w3 ⟨rfl, f3⟩
      have hfr3 : Fr [] w w3 := hfr.trans (((Fr.refl _ _).alloc _).trans f3)
      have hf23 : Fr [] w2 w3 := hf2.trans (((Fr.refl _ _).alloc _).trans f3)
      have hl3 := (hl.alloc _).fr f3 (by simp)
      have hN := (Blk.new wr 59 _).fr f3 (by simp)
      clear c0 c1 c2 c3 c4 c5 c6 c7 c8 c9 f3 hfr hf2 hl
      cases hv : Rw.chg ⟨t, kk, had, o0, o1, o2, has, n0, n1, n2⟩
      · have HF : Hid (Rw.valid ⟨p, cs⟩ = false) := Lib.hid (by rw [HV.out, HCH.out, hv]; rfl)
        clear hv
        go_wp2_with fail
        go_ret
        exact ⟨by rw [HF.out]; rfl, hfr3⟩
      have Hv := Lib.hid hv
      clear hv
      have x0 := hN.cell 0
      have x1 := hN.cell 1
      have y0 : w3.cell? ⟨g, 0, none⟩ = some (.int .i64 l.t) := hl3.cell 0
      have y1 : w3.cell? ⟨g, 1, none⟩ = some (.int .i64 l.k) := hl3.cell 1
      by_cases hb : Rw.behind l.t l.k ⟨t, kk, had, o0, o1, o2, has, n0, n1, n2⟩ = true
      · have HCC : Hid (Rw.chgs (-1) 0 cs = Rw.chgs t kk (cs.drop (k + 1))) := Lib.hid (by rw [HCH.out, Hv.out, hb]; simp)
        have x2 := hN.cell 2
        have x3 := hN.cell 3
        have x4 := hN.cell 4
        have x5 := hN.cell 5
        have x6 := hN.cell 6
        have x7 := hN.cell 7
        have x8 := hN.cell 8
        have x9 := hN.cell 9
        have y2 : w3.cell? ⟨g, 2, none⟩ = some (.bool l.had) := hl3.cell 2
        have y3 : w3.cell? ⟨g, 3, none⟩ = some (.int .i64 l.o0) := hl3.cell 3
        have y4 : w3.cell? ⟨g, 4, none⟩ = some (.int .i64 l.o1) := hl3.cell 4
        have y5 : w3.cell? ⟨g, 5, none⟩ = some (.int .i64 l.o2) := hl3.cell 5
        have y6 : w3.cell? ⟨g, 6, none⟩ = some (.bool l.has) := hl3.cell 6
        have y7 : w3.cell? ⟨g, 7, none⟩ = some (.int .i64 l.n0) := hl3.cell 7
        have y8 : w3.cell? ⟨g, 8, none⟩ = some (.int .i64 l.n1) := hl3.cell 8
        have y9 : w3.cell? ⟨g, 9, none⟩ = some (.int .i64 l.n2) := hl3.cell 9
        have z0 := hl3.frozen 0
        have z1 := hl3.frozen 1
        have z2 := hl3.frozen 2
        have z3 := hl3.frozen 3
        have z4 := hl3.frozen 4
        have z5 := hl3.frozen 5
        have z6 := hl3.frozen 6
        have z7 := hl3.frozen 7
        have z8 := hl3.frozen 8
        have z9 := hl3.frozen 9
        simp only [Rw.behind, decide_eq_true_eq] at hb
        rcases hb with hb | ⟨hb1, hb2⟩
        · have d1 : ¬ t < l.t := by omega
          have d2 : (t == l.t) = false := by simp; omega
          clear hb
          go_wp2_with fail
          go_roundw
          case rel => exact ⟨k + 1, by go_num, ⟨hlt, ⟨t, kk, had, o0, o1, o2, has, n0, n1, n2⟩, setChg_blk hl3 ⟨t, kk, had, o0, o1, o2, has, n0, n1, n2⟩, HCC.out, setChg_fr hfr3 hgw ⟨t, kk, had, o0, o1, o2, has, n0, n1, n2⟩⟩, setChg_fr hf23 hgw2 ⟨t, kk, had, o0, o1, o2, has, n0, n1, n2⟩⟩
          case measure => simp [intOf]; omega
        · have d1 : ¬ t < l.t := by omega
          have d2 : (t == l.t) = true := by simp; omega
          have d3 : ¬ kk ≤ l.k := by omega
          clear hb1 hb2
          go_wp2_with fail
          go_roundw
          case rel => exact ⟨k + 1, by go_num, ⟨hlt, ⟨t, kk, had, o0, o1, o2, has, n0, n1, n2⟩, setChg_blk hl3 ⟨t, kk, had, o0, o1, o2, has, n0, n1, n2⟩, HCC.out, setChg_fr hfr3 hgw ⟨t, kk, had, o0, o1, o2, has, n0, n1, n2⟩⟩, setChg_fr hf23 hgw2 ⟨t, kk, had, o0, o1, o2, has, n0, n1, n2⟩⟩
          case measure => simp [intOf]; omega
      · have HF : Hid (Rw.valid ⟨p, cs⟩ = false) := Lib.hid (by rw [HV.out, HCH.out]; simp [hb])
        simp only [Rw.behind, decide_eq_true_eq] at hb
        by_cases h1 : t < l.t
        · clear hb
          go_wp2_with fail
          go_ret
          exact ⟨by rw [HF.out]; rfl, hfr3⟩
        · have d2 : (t == l.t) = true := by simp; omega
          have d3 : kk ≤ l.k := by omega
          clear hb
          go_wp2_with fail
          go_ret
          exact ⟨by rw [HF.out]; rfl, hfr3⟩
    · have HF : Hid (Rw.valid ⟨p, cs⟩ = true) := Lib.hid (by
        rw [HV.out, hch, List.drop_of_length_le (by omega)]
        rfl)
      clear hch
      go_wp2_with fail
      go_ret
      exact ⟨by rw [HF.out]; rfl, hfr⟩
end Go.Proofs.YtciaallekkdnhaaGreat
namespace Go.Proofs.YtciaallekkdnhaaGreat
open Go.RowKit

def klId (x : IdK) : Lit := .string (keyBytes [.int .i64 x.1.1, .int .i64 x.1.2])
set_option maxRecDepth 100000 in
theorem keyOf_id (x : IdK) : keyOf Tryz.prog 114 x.val = some (klId x) := by
  obtain ⟨⟨t, k⟩, h1, h2⟩ := x
  obtain ⟨d, hd⟩ : ∃ d, Tryz.prog.types.size + 1 = d + 2 := ⟨Tryz.prog.types.size - 1, by
    have : 1 ≤ Tryz.prog.types.size := of_decide_eq_true (by kernel_rfl)
    omega⟩
  have hk : Tryz.prog.keyType 114 = true := by kernel_rfl
  have hcell : Tryz.prog.cellsOf 114 = 2 := by kernel_rfl
  have hcelli : Tryz.prog.cellsOf 3 = 1 := by kernel_rfl
  unfold okI at h1 h2
  dsimp only at h1 h2
  simp only [keyOf, Tryz.underlying114, hk, Value.formed, hcell, hd, Value.cells]
  simp [Program.keyLits, Tryz.underlying114, Tryz.underlying3, hcell, hcelli, h1, h2, klId]
theorem keyedId : Maps.Keyed Tryz.prog 114 := Maps.Keyed.of_law (deep_law_laid (m := 3) laidOut (by decide) (of_decide_eq_true (by kernel_rfl)) (by kernel_rfl) (by kernel_rfl))
theorem tyIdRow : MT Tryz.prog 107 114 116 IdK.val klId RowV.val (fun _ => True) (.agg #[.int .i64 0, .int .i64 0, .int .i64 0, .int .i64 0, .int .i64 0]) where
  keyed := keyedId
  ht := Tryz.underlying107
  key := fun x _ => keyOf_id x
  inj := fun x y h => by
    have h1 := keyedId.inj (keyOf_id x) ((keyOf_id y).trans (by rw [h]))
    obtain ⟨⟨t, k⟩, _⟩ := x
    obtain ⟨⟨t', k'⟩, _⟩ := y
    simp only [IdK.val] at h1
    injection h1 with h1
    simp at h1
    obtain ⟨rfl, rfl⟩ := h1
    rfl
  zero := fun w => by kernel_rfl
end Go.Proofs.YtciaallekkdnhaaGreat
namespace Go.Proofs.YtciaallekkdnhaaGreat
open Go.RowKit

/-- At block b lies the state s, whose map lies at block m. -/
structure StaAt (w : World) (b m : Nat) (s : Sm.Sta) : Prop where
  blk : Blk w b 111 #[.map (some m), .int .i64 s.pos]
  map : VMap Tryz.prog 114 klId RowV.val w m s.M
  ok : Sm.Ok s
theorem StaAt.ne {w : World} {b m : Nat} {s : Sm.Sta} (h : StaAt w b m s) : m ≠ b := h.map.ne h.blk
theorem StaAt.lt {w : World} {b m : Nat} {s : Sm.Sta} (h : StaAt w b m s) : b < w.heap.size ∧ m < w.heap.size := ⟨h.blk.lt, h.map.lt⟩
theorem StaAt.fr {w w' : World} {b m : Nat} {s : Sm.Sta} {S : List Nat} (h : StaAt w b m s) (hf : Fr S w w') (hb : b ∉ S) (hm : m ∉ S) : StaAt w' b m s := ⟨h.blk.fr hf hb, h.map.fr hf hm, h.ok⟩
theorem StaAt.fr0 {w w' : World} {b m : Nat} {s : Sm.Sta} (h : StaAt w b m s) (hf : Fr [] w w') : StaAt w' b m s := h.fr hf (by simp) (by simp)

theorem Sm.ok_new : Sm.Ok Sm.new := ⟨by decide, by decide, nd_nil, by simp [Sm.new], by simp [Sm.new]⟩
theorem snew_any (w : World) : Calls Tryz.prog 28 #[] w fun e w' => e = .returned (.pointer (some ⟨w.heap.size + 1, 0, none⟩)) ∧ StaAt w' (w.heap.size + 1) w.heap.size Sm.new ∧ Fr [] w w' := by
  have hmm := @run_makeMap Tryz.prog
  go_enter Tryz.func28, Tryz.ntmps28
  go_wp2
  go_ret
  refine ⟨by simp, ⟨?_, (VMap.made _ _ w).alloc _, Sm.ok_new⟩, ((Fr.refl _ _).alloc _).alloc _⟩
  have := Blk.new (w.alloc (.map #[] 0)) 111 #[.map (some w.heap.size), .int .i64 0]
  simpa [Sm.new] using this
/-- At the head of each round of 'fits'. -/
def FitsRel (w : World) (_b _m : Nat) (s : Sm.Sta) (cs : List Chg) (k : Nat) (n : Int) (wr : World) : Prop := k ≤ cs.length ∧ Sm.fitsGo s.M s.M.length cs = Sm.fitsGo s.M n (cs.drop k) ∧ Fr [] w wr ∧ (-(k : Int) ≤ n ∧ n ≤ 2000 + k)

set_option maxRecDepth 100000 in
set_option maxHeartbeats 2000000 in
theorem fits_skip (b m : Nat) (s : Sm.Sta) (r : Rec) (A : Option Addr) (cap : Nat) (w : World) (_h : StaAt w b m s) (hc : ChgsAt w A r.cs) (hlen : r.cs.length ≤ maxLen) (hv : Rw.valid r = false) :
    Calls Tryz.prog 49 #[.pointer (some ⟨b, 0, none⟩), .agg #[.int .i64 r.p, .slice A r.cs.length cap]] w fun e w' => e = .returned (.bool false) ∧ Fr [] w w' := by
  have HV := Lib.hid hv
  clear hv
  have f0 : Fr [] w ((w.alloc (.cells #[.int .i64 r.p, .slice A r.cs.length cap] 26)).drew) := ((Fr.refl _ _).alloc _).drew
  have hcd := hc.fr f0 (by simp)
  go_enter Tryz.func49, Tryz.ntmps49
  go_wp2_with fail
  first
    | (go_region_with (first
          | (go_at_call 93; refine (validRecord_any r A cap _ hcd hlen).mono ?_; rintro e w1 ⟨he, f1⟩; rw [HV.out] at he; subst he)))
    | fail "with"
  all_goals
    go_wp2_with fail
    go_ret
    exact ⟨rfl, f0.trans f1⟩
end Go.Proofs.YtciaallekkdnhaaGreat
namespace Go.Proofs.YtciaallekkdnhaaGreat
open Go.RowKit

theorem Blk.ne {w : World} {a b ta tb : Nat} {ca cb : Array Value} (h1 : Blk w a ta ca) (h2 : Blk w b tb cb) (hne : ta ≠ tb) : a ≠ b := by
  rintro rfl
  unfold Blk at h1 h2
  rw [h1] at h2
  injection h2 with h2
  injection h2 with _ h2
  exact hne h2

/-- Changes of a record in a block of changes: nobody writes there. -/
def HoldsC (w : World) (A : Option Addr) (cs : List Chg) : Prop := ChgsAt w A cs ∧ (0 < cs.length → ∀ ad, A = some ad → ∃ arr fz, w.heap[ad.block]? = some (.cells arr 59 fz))
/-- None of the blocks in S holds changes. -/
def NoC (w : World) (S : List Nat) : Prop := ∀ s ∈ S, ∀ arr fz, w.heap[s]? ≠ some (.cells arr 59 fz)
theorem NoC.nil {w : World} : NoC w [] := fun _ h => by simp at h
theorem NoC.cons {w : World} {s : Nat} {S : List Nat} (h1 : ∀ arr fz, w.heap[s]? ≠ some (.cells arr 59 fz)) (h2 : NoC w S) : NoC w (s :: S) := fun x hx => by
  rcases List.mem_cons.1 hx with rfl | hx
  · exact h1
  · exact h2 x hx
theorem noC_blk {w : World} {s ty : Nat} {cs : Array Value} (h : Blk w s ty cs) (hne : ty ≠ 59) : ∀ arr fz, w.heap[s]? ≠ some (.cells arr 59 fz) := by
  intro arr fz e
  unfold Blk at h
  rw [h] at e
  injection e with e
  injection e with _ e
  exact hne e
theorem noC_map {K V : Type} {P : Program} {k : TypeId} {kl : K → Lit} {ev : V → Value} {w : World} {b : Nat} {M : List (K × V)} (h : VMap P k kl ev w b M) : ∀ arr fz, w.heap[b]? ≠ some (.cells arr 59 fz) := by
  intro arr fz e
  obtain ⟨es, clock, hb, _⟩ := h
  rw [hb] at e
  cases e
theorem noC_new {w : World} {s : Nat} (h : w.heap.size ≤ s) : ∀ arr fz, w.heap[s]? ≠ some (.cells arr 59 fz) := by
  intro arr fz e
  rw [Array.getElem?_eq_none h] at e
  cases e
theorem HoldsC.fr {w w' : World} {A : Option Addr} {cs : List Chg} {S : List Nat} (h : HoldsC w A cs) (hf : Fr S w w') (hs : NoC w S) : HoldsC w' A cs := by
  have hn : 0 < cs.length → ∀ ad, A = some ad → ad.block ∉ S := fun hl ad e hm => by
    obtain ⟨arr, fz, hb⟩ := h.2 hl ad e
    exact hs _ hm arr fz hb
  refine ⟨fun hl => (h.1.fr hf (hn hl)) hl, fun hl ad e => ?_⟩
  obtain ⟨arr, fz, hb⟩ := h.2 hl ad e
  exact ⟨arr, fz, (hf.block _ (Array.getElem?_eq_some_iff.1 hb).1 (hn hl ad e)).trans hb⟩
end Go.Proofs.YtciaallekkdnhaaGreat
namespace Go.Proofs.YtciaallekkdnhaaGreat
open Go.RowKit

theorem infoRow : (Tryz.prog.info? 116).map (fun i => (i.zero, i.size, i.bytes)) = some (some (.agg #[.int .i64 0, .int .i64 0, .int .i64 0, .int .i64 0, .int .i64 0]), 5, 40) := by kernel_rfl
theorem etRow : ∃ i0, ET Tryz.prog 69 116 5 40 i0 (.agg #[.int .i64 0, .int .i64 0, .int .i64 0, .int .i64 0, .int .i64 0]) := by
  obtain ⟨i0, hi, hz0, hz1, hz2⟩ := info_parts infoRow
  exact ⟨i0, Tryz.underlying69, hi, hz0, hz1, hz2, rfl, by decide⟩
abbrev RowsOwn (w : World) (v : Value) (L : List RowV) : Prop := OwnL 116 5 RowV.cells w v L

/-- At block b lies the reference's state: the rows L, in v's row; it is the state s. -/
structure RfAt (w : World) (b : Nat) (v : Value) (L : List RowV) (s : Sm.Sta) : Prop where
  blk : Blk w b 132 #[v, .int .i64 s.pos]
  row : RowsOwn w v L
  sim : Sm.Sim s.M L
  ok : Sm.Ok s
def fpRf (b : Nat) (v : Value) : List Nat := b :: v.ownBlock.toList
theorem RfAt.fr {w w' : World} {b : Nat} {v : Value} {L : List RowV} {s : Sm.Sta} {S : List Nat} (h : RfAt w b v L s) (hf : Fr S w w') (hs : ∀ i ∈ fpRf b v, i ∉ S) : RfAt w' b v L s :=
  ⟨h.blk.fr hf (hs b (by simp [fpRf])), h.row.fr hf (fun g hg => hs g (by simp [fpRf, hg])), h.sim, h.ok⟩
theorem RfAt.fr0 {w w' : World} {b : Nat} {v : Value} {L : List RowV} {s : Sm.Sta} (h : RfAt w b v L s) (hf : Fr [] w w') : RfAt w' b v L s := h.fr hf (by simp)

theorem rfnew_any (w : World) : Calls Tryz.prog 58 #[] w fun e w' => e = .returned (.pointer (some ⟨w.heap.size, 0, none⟩)) ∧ RfAt w' w.heap.size (.slice none 0 0) [] Sm.new ∧ Fr [] w w' := by
  go_enter Tryz.func58, Tryz.ntmps58
  go_wp2
  go_ret
  exact ⟨rfl, ⟨Blk.new _ _ _, OwnL.nil, Sm.Sim.nil, Sm.ok_new⟩, (Fr.refl _ _).alloc _⟩

set_option maxRecDepth 100000 in
/-- 'place': at the rows L, which lie in a block. -/
theorem place_any (b : Nat) (A : Option Addr) (cap : Nat) (L : List RowV) (t k : Int) (w : World) (h0 : w.cell? ⟨b, 0, none⟩ = some (.slice A L.length cap)) (hrow : RowsOwn w (.slice A L.length cap) L) (hsrt : Sm.Srt L) (hl : L.length ≤ 5000) :
    Calls Tryz.prog 106 #[.pointer (some ⟨b, 0, none⟩), .int .i64 t, .int .i64 k] w fun e w' => ∃ n : Nat, (e = .returned (.int .i64 n) ∧ w = w') ∧ Sm.Plc L t k n := by
  have HS := Lib.hid hsrt
  have HR := Lib.hid (fun (h : 0 < L.length) => hrow.form RowV.cells_len h)
  clear hrow hsrt
  go_enter Tryz.func106, Tryz.ntmps106
  go_wp2_with fail
  go_loop [7, 8] (fun lo hi => ∃ l h : Nat, (lo = .int .i64 l ∧ hi = .int .i64 h) ∧ l ≤ h ∧ h ≤ L.length ∧ Hid (∀ i (hi : i < L.length), (i < l → Sm.bef L[i] t k = true) ∧ (h ≤ i → Sm.bef L[i] t k = false))) (fun lo hi => (intOf hi - intOf lo).toNat)
  case atStart => exact ⟨0, L.length, ⟨rfl, rfl⟩, by omega, Nat.le_refl _, Lib.hid fun i hi => ⟨fun h => by omega, fun h => by omega⟩⟩
  case round =>
    obtain ⟨l, h, ⟨rfl, rfl⟩, hlh, hhL, hinv⟩ := hrel
    by_cases hlt : l < h
    · obtain ⟨gR, cap', hA, hlc, hcm, hgl, hcell, hfz⟩ := HR.out (by omega)
      cases hA
      have hm1 : l ≤ (l + h) / 2 := by omega
      have hm2 : (l + h) / 2 < h := by omega
      have hml : (l + h) / 2 < L.length := by omega
      have d0 : w.cell? ⟨gR, (l + h) / 2 * 5, none⟩ = some (.int .i64 L[(l + h) / 2].t) := hcell _ (by omega) 0 (by decide)
      have d1 : w.cell? ⟨gR, (l + h) / 2 * 5 + 1, none⟩ = some (.int .i64 L[(l + h) / 2].k) := hcell _ (by omega) 1 (by decide)
      obtain ⟨x, hx⟩ : ∃ x, L[(l + h) / 2] = x := ⟨_, rfl⟩
      rw [hx] at d0 d1
      have HX := Lib.hid hx
      clear hx hcell hfz
      obtain ⟨xt, xk, x1, x2, x3⟩ := x
      dsimp only at d0 d1
      have hlow : Hid (Sm.bef ⟨xt, xk, x1, x2, x3⟩ t k = true → ∀ i (hi : i < L.length), (i < (l + h) / 2 + 1 → Sm.bef L[i] t k = true) ∧ (h ≤ i → Sm.bef L[i] t k = false)) := Lib.hid fun hb i hi => ⟨fun h1 => by
        rcases Nat.lt_or_ge i ((l + h) / 2) with h2 | h2
        · have h3 := HS.out.get hi hml h2
          rw [HX.out] at h3
          simp only [Sm.bef, decide_eq_true_eq] at hb ⊢
          dsimp only at h3
          omega
        · obtain rfl : i = (l + h) / 2 := by omega
          rw [HX.out]; exact hb, (hinv.out i hi).2⟩
      have hhigh : Hid (Sm.bef ⟨xt, xk, x1, x2, x3⟩ t k = false → ∀ i (hi : i < L.length), (i < l → Sm.bef L[i] t k = true) ∧ ((l + h) / 2 ≤ i → Sm.bef L[i] t k = false)) := Lib.hid fun hb i hi => ⟨(hinv.out i hi).1, fun h1 => by
        rcases Nat.lt_or_ge ((l + h) / 2) i with h2 | h2
        · have h3 := HS.out.get hml hi h2
          rw [HX.out] at h3
          simp only [Sm.bef, decide_eq_false_iff_not] at hb ⊢
          dsimp only at h3
          omega
        · obtain rfl : i = (l + h) / 2 := by omega
          rw [HX.out]; exact hb⟩
      clear hinv
      by_cases h1 : xt < t
      · have HB := Lib.hid (hlow.out (by simp only [Sm.bef, decide_eq_true_eq]; omega))
        clear hlow hhigh
        go_wp2_with fail
        go_round
        case rel => exact ⟨(l + h) / 2 + 1, h, ⟨by go_num, rfl⟩, by omega, by omega, HB⟩
        case measure => simp [intOf]; omega
      · by_cases h2 : xt = t
        · have h2' : (xt == t) = true := by simpa using h2
          by_cases h3 : xk < k
          · have HB := Lib.hid (hlow.out (by simp only [Sm.bef, decide_eq_true_eq]; omega))
            clear hlow hhigh h2
            go_wp2_with fail
            go_round
            case rel => exact ⟨(l + h) / 2 + 1, h, ⟨by go_num, rfl⟩, by omega, by omega, HB⟩
            case measure => simp [intOf]; omega
          · have HB := Lib.hid (hhigh.out (by simp only [Sm.bef, decide_eq_false_iff_not]; omega))
            clear hlow hhigh h2
            go_wp2_with fail
            go_round
            case rel => exact ⟨l, (l + h) / 2, ⟨rfl, by go_num⟩, by omega, by omega, HB⟩
            case measure => simp [intOf]; omega
        · have h2' : (xt == t) = false := by simpa using h2
          have HB := Lib.hid (hhigh.out (by simp only [Sm.bef, decide_eq_false_iff_not]; omega))
          clear hlow hhigh h2
          go_wp2_with fail
          go_round
          case rel => exact ⟨l, (l + h) / 2, ⟨rfl, by go_num⟩, by omega, by omega, HB⟩
          case measure => simp [intOf]; omega
    · go_wp2
      go_ret
      have : l = h := by omega
      subst this
      exact ⟨l, ⟨rfl, rfl⟩, hhL, fun i hi h1 => (hinv.out i hi).1 h1, fun i hi h1 => (hinv.out i hi).2 h1⟩
end Go.Proofs.YtciaallekkdnhaaGreat
namespace Go.Proofs.YtciaallekkdnhaaGreat
open Go.RowKit

/-- What 'Get' answers for what is there. -/
abbrev gotVal (o : Option RowV) : Value := .tuple #[(o.map RowV.val).getD (.agg #[.int .i64 0, .int .i64 0, .int .i64 0, .int .i64 0, .int .i64 0]), .bool o.isSome]

/-- A row laid into the result's block. -/
theorem row_laid {W w : World} {F : World} {t k x y z t0 k0 x0 y0 z0 : Int} (hF : F = ((((W.setCell ⟨w.heap.size, 0, none⟩ (.int .i64 t)).setCell ⟨w.heap.size, 1, none⟩ (.int .i64 k)).setCell ⟨w.heap.size, 2, none⟩ (.int .i64 x)).setCell ⟨w.heap.size, 3, none⟩ (.int .i64 y)).setCell ⟨w.heap.size, 4, none⟩ (.int .i64 z))
    (hn : Blk W w.heap.size 116 #[.int .i64 t0, .int .i64 k0, .int .i64 x0, .int .i64 y0, .int .i64 z0]) (f : Fr [] w W) :
    (F.cell? ⟨w.heap.size, 0, none⟩ = some (.int .i64 t) ∧ F.cell? ⟨w.heap.size, 1, none⟩ = some (.int .i64 k) ∧ F.cell? ⟨w.heap.size, 2, none⟩ = some (.int .i64 x) ∧ F.cell? ⟨w.heap.size, 3, none⟩ = some (.int .i64 y) ∧ F.cell? ⟨w.heap.size, 4, none⟩ = some (.int .i64 z)) ∧ Fr [] w F := by
  subst hF
  have hS := ((((hn.set_ 0 (.int .i64 t)).set_ 1 (.int .i64 k)).set_ 2 (.int .i64 x)).set_ 3 (.int .i64 y)).set_ 4 (.int .i64 z)
  refine ⟨⟨hS.cell 0, hS.cell 1, hS.cell 2, hS.cell 3, hS.cell 4⟩, ?_⟩
  exact ((((f.setCell (.inr (Nat.le_refl _)) _).setCell (.inr (Nat.le_refl _)) _).setCell (.inr (Nat.le_refl _)) _).setCell (.inr (Nat.le_refl _)) _).setCell (.inr (Nat.le_refl _)) _

set_option maxRecDepth 100000 in
theorem rfget_any (b : Nat) (v : Value) (L : List RowV) (s : Sm.Sta) (t k : Int) (w : World) (h : RfAt w b v L s) (ht : okI t) (hk : okI k) :
    Calls Tryz.prog 59 #[.pointer (some ⟨b, 0, none⟩), .int .i64 t, .int .i64 k] w fun e w' => e = .returned (gotVal (mget s.M (idOf t k))) ∧ Fr [] w w' := by
  obtain ⟨A, cap, hv⟩ := h.row.val
  subst hv
  have hlen : L.length ≤ 2000 := by rw [h.sim.len]; exact h.ok.len
  have hres := Lib.hid (fun (n : Nat) (hp : Sm.Plc L t k n) => And.intro (fun (hl : n < L.length) (e1 : L[n].t = t) (e2 : L[n].k = k) => hp.hit h.sim h.ok.nd h.ok.key ht hk hl e1 e2) (hp.miss h.sim h.ok.nd h.ok.key ht hk))
  have F0 : Fr [] w (w.alloc (.cells #[.int .i64 0, .int .i64 0, .int .i64 0, .int .i64 0, .int .i64 0] 116)) := (Fr.refl _ _).alloc _
  have hn := Blk.new w 116 #[.int .i64 0, .int .i64 0, .int .i64 0, .int .i64 0, .int .i64 0]
  have h0 := h.fr0 F0
  have hb0 : (w.alloc (.cells #[.int .i64 0, .int .i64 0, .int .i64 0, .int .i64 0, .int .i64 0] 116)).cell? ⟨b, 0, none⟩ = some (.slice A L.length cap) := h0.blk.cell 0
  have HP := Lib.hid (place_any b A cap L t k _ hb0 h0.row h0.sim.srt (by omega))
  have hlb := h.blk.lt
  go_enter Tryz.func59, Tryz.ntmps59
  clear hb0
  go_wp2_with fail
  refine HP.out.mono ?_
  rintro e w' ⟨n, ⟨rfl, rfl⟩, hp⟩
  obtain ⟨hhit, hmiss⟩ := hres.out n hp
  have hnl := hp.le
  clear HP hres hp
  have HR := Lib.hid (fun (h : 0 < L.length) => h0.row.form RowV.cells_len h)
  have c0 : (w.alloc (.cells #[.int .i64 0, .int .i64 0, .int .i64 0, .int .i64 0, .int .i64 0] 116)).cell? ⟨b, 0, none⟩ = some (.slice A L.length cap) := h0.blk.cell 0
  have d0 := hn.cell 0
  have d1 := hn.cell 1
  have d2 := hn.cell 2
  have d3 := hn.cell 3
  have d4 := hn.cell 4
  have z0 := hn.frozen 0
  have z1 := hn.frozen 1
  have z2 := hn.frozen 2
  have z3 := hn.frozen 3
  have z4 := hn.frozen 4
  clear h0
  by_cases hlt : n < L.length
  · obtain ⟨gR, cap', hA, hlc, hcm, hgl, hcell, hfz⟩ := HR.out (by omega)
    cases hA
    replace hhit := hhit hlt
    have hmiss' : ¬ (L[n].t = t ∧ L[n].k = k) → mget s.M (idOf t k) = none := fun h => hmiss fun _ => h
    have HH := Lib.hid hhit
    have HM := Lib.hid hmiss'
    obtain ⟨x, hx⟩ : ∃ x, L[n] = x := ⟨_, rfl⟩
    obtain ⟨xt, xk, xa, xb, xc⟩ := x
    have hce := Lib.hid (fun j (hj : j < 5) => hcell n hlt j hj)
    clear hmiss hmiss' hhit hcell hfz HR
    rw [hx] at HH HM hce
    clear hx
    generalize w.alloc (.cells #[.int .i64 0, .int .i64 0, .int .i64 0, .int .i64 0, .int .i64 0] 116) = W0 at *
    have x0 : W0.cell? ⟨gR, n * 5, none⟩ = some (.int .i64 xt) := hce.out 0 (by decide)
    have x1 : W0.cell? ⟨gR, n * 5 + 1, none⟩ = some (.int .i64 xk) := hce.out 1 (by decide)
    have x2 : W0.cell? ⟨gR, n * 5 + 2, none⟩ = some (.int .i64 xa) := hce.out 2 (by decide)
    have x3 : W0.cell? ⟨gR, n * 5 + 3, none⟩ = some (.int .i64 xb) := hce.out 3 (by decide)
    have x4 : W0.cell? ⟨gR, n * 5 + 4, none⟩ = some (.int .i64 xc) := hce.out 4 (by decide)
    clear hce
    by_cases e1 : xt = t
    · have e1' : (xt == t) = true := by simpa using e1
      have E1 := Lib.hid e1
      clear e1
      by_cases e2 : xk = k
      · have e2' : (xk == k) = true := by simpa using e2
        have HG := Lib.hid (HH.out E1.out e2)
        clear e2
        go_wp2_with fail
        have hlaid := row_laid (t := xt) (k := xk) (x := xa) (y := xb) (z := xc) rfl hn F0
        refine bodyPost_ret (v := .tuple #[.agg #[.int .i64 xt, .int .i64 xk, .int .i64 xa, .int .i64 xb, .int .i64 xc], .bool true]) (by obtain ⟨⟨y0, y1, y2, y3, y4⟩, _⟩ := hlaid; simp [results, Tryz.results59, go_sem, y0, y1, y2, y3, y4]) rfl ⟨by rw [HG.out]; rfl, hlaid.2⟩
      · have e2' : (xk == k) = false := by simpa using e2
        have HG := Lib.hid (HM.out (fun h => e2 h.2))
        clear e2
        go_wp2_with fail
        have hlaid := row_laid (t := 0) (k := 0) (x := 0) (y := 0) (z := 0) rfl hn F0
        refine bodyPost_ret (v := .tuple #[.agg #[.int .i64 0, .int .i64 0, .int .i64 0, .int .i64 0, .int .i64 0], .bool false]) (by obtain ⟨⟨y0, y1, y2, y3, y4⟩, _⟩ := hlaid; simp [results, Tryz.results59, go_sem, y0, y1, y2, y3, y4]) rfl ⟨by rw [HG.out]; rfl, hlaid.2⟩
    · have e1' : (xt == t) = false := by simpa using e1
      have HG := Lib.hid (HM.out (fun h => e1 h.1))
      clear e1
      go_wp2_with fail
      have hlaid := row_laid (t := 0) (k := 0) (x := 0) (y := 0) (z := 0) rfl hn F0
      refine bodyPost_ret (v := .tuple #[.agg #[.int .i64 0, .int .i64 0, .int .i64 0, .int .i64 0, .int .i64 0], .bool false]) (by obtain ⟨⟨y0, y1, y2, y3, y4⟩, _⟩ := hlaid; simp [results, Tryz.results59, go_sem, y0, y1, y2, y3, y4]) rfl ⟨by rw [HG.out]; rfl, hlaid.2⟩
  · have HG := Lib.hid (hmiss (fun h => absurd h hlt))
    clear hmiss hhit HR
    generalize w.alloc (.cells #[.int .i64 0, .int .i64 0, .int .i64 0, .int .i64 0, .int .i64 0] 116) = W0 at *
    go_wp2_with fail
    have hlaid := row_laid (t := 0) (k := 0) (x := 0) (y := 0) (z := 0) rfl hn F0
    refine bodyPost_ret (v := .tuple #[.agg #[.int .i64 0, .int .i64 0, .int .i64 0, .int .i64 0, .int .i64 0], .bool false]) (by obtain ⟨⟨y0, y1, y2, y3, y4⟩, _⟩ := hlaid; simp [results, Tryz.results59, go_sem, y0, y1, y2, y3, y4]) rfl ⟨by rw [HG.out]; rfl, hlaid.2⟩
end Go.Proofs.YtciaallekkdnhaaGreat
namespace Go.Proofs.YtciaallekkdnhaaGreat
open Go.RowKit

/-- What stands at the head of each round. -/
def RfValidRel (w : World) (cs : List Chg) (k : Nat) (wr : World) : Prop := k ≤ cs.length ∧ (∃ lt lk : Int, Rw.chgs (-1) 0 cs = Rw.chgs lt lk (cs.drop k) ∧ (k = 0 → lt = -1 ∧ lk = 0) ∧ (∀ (_ : 0 < k) (h : k - 1 < cs.length), lt = cs[k - 1].t ∧ lk = cs[k - 1].k)) ∧ Fr [] w wr

set_option maxRecDepth 100000 in
set_option maxHeartbeats 1000000 in
theorem rfRecord_any (r : Rec) (A : Option Addr) (cap : Nat) (w : World) (hx : ChgsAt w A r.cs) (hlen : r.cs.length ≤ maxLen) :
    Calls Tryz.prog 107 #[.agg #[.int .i64 r.p, .slice A r.cs.length cap]] w fun e w' => e = .returned (.bool (Rw.valid r)) ∧ Fr [] w w' := by
  obtain ⟨p, cs⟩ := r
  have HR : Hid (Rw.valid ⟨p, cs⟩ = (Rw.inI 1 10000 p && Rw.inI 1 8 cs.length && Rw.chgs (-1) 0 cs)) := Lib.hid rfl
  have HC := Lib.hid rfWithin_any
  dsimp only at hx hlen ⊢
  unfold maxLen at hlen
  have F0 : Fr [] w (w.alloc (.cells #[.int .i64 p, .slice A cs.length cap] 26)) := (Fr.refl _ _).alloc _
  have hB0 := Blk.new w 26 #[.int .i64 p, .slice A cs.length cap]
  go_enter Tryz.func107, Tryz.ntmps107
  go_wp2_with fail
  refine (HC.out p 1 10000 _).mono ?_
  rintro e w1 ⟨rfl, rfl⟩
  cases hp : Rw.inI 1 10000 p
  · have HF : Hid (Rw.valid ⟨p, cs⟩ = false) := Lib.hid (by rw [HR.out, hp]; rfl)
    clear hp
    go_wp2_with fail
    go_ret
    exact ⟨by rw [HF.out]; rfl, F0⟩
  have Hp := Lib.hid hp
  clear hp
  go_wp2_with fail
  refine (HC.out cs.length 1 8 _).mono ?_
  rintro e w1 ⟨rfl, rfl⟩
  cases hn : Rw.inI 1 8 cs.length
  · have HF : Hid (Rw.valid ⟨p, cs⟩ = false) := Lib.hid (by rw [HR.out, Hp.out, hn]; rfl)
    clear hn
    go_wp2_with fail
    go_ret
    exact ⟨by rw [HF.out]; rfl, F0⟩
  have Hn := Lib.hid hn
  have hn8 : 1 ≤ cs.length ∧ cs.length ≤ 8 := by
    have := hn
    unfold Rw.inI at this
    simp at this
    omega
  clear hn
  generalize w.alloc (.cells #[.int .i64 p, .slice A cs.length cap] 26) = W0 at *
  obtain ⟨b, off, hA, hb, hc⟩ := (hx.fr F0 (by simp)) (by omega)
  subst hA
  have HV : Hid (Rw.valid ⟨p, cs⟩ = Rw.chgs (-1) 0 cs) := Lib.hid (by rw [HR.out, Hp.out, Hn.out]; simp)
  clear HR Hp Hn hx
  have Hc := Lib.hid hc
  clear hc
  have R0 : RfValidRel w cs 0 W0 := ⟨Nat.zero_le _, ⟨-1, 0, rfl, fun _ => ⟨rfl, rfl⟩, fun h => by omega⟩, F0⟩
  have hcc : Hid (∀ wr, Fr [] W0 wr → ∀ i (h : i < cs.length) j, j < 10 → wr.cell? ⟨b, off + i * 10 + j, none⟩ = cs[i].cells[j]?) := Lib.hid fun wr hf i h j hj => by
    rw [hf.cell hb (by simp)]; exact Hc.out i h j hj
  have hf0 : Fr [] W0 W0 := Fr.refl _ _
  go_wp2_with fail
  clear F0
  go_loopw [3] (fun i wr => ∃ k : Nat, i = .int .i64 k ∧ RfValidRel w cs k wr ∧ Fr [] W0 wr) (fun i _ => cs.length - (intOf i).toNat)
  case atStart => exact ⟨0, rfl, R0, hf0⟩
  case round =>
    clear R0 hf0
    obtain ⟨k, rfl, ⟨hk, ⟨lt, lk, hch, hz, hpos⟩, hfr⟩, hf2⟩ := hrel
    have hrb := hB0.fr hf2 (by simp)
    have r1 := hrb.cell 1
    have hrl := hrb.lt
    by_cases hlt : k < cs.length
    · have hck := Lib.hid (hcc.out wr hf2 k hlt)
      have hch' : Rw.chgs (-1) 0 cs = (Rw.chg cs[k] && Rw.behind lt lk cs[k] && Rw.chgs cs[k].t cs[k].k (cs.drop (k + 1))) := by
        rw [hch, List.drop_eq_getElem_cons hlt]; rfl
      have HCH := Lib.hid hch'
      clear hch hch'
      have hnext : Hid (∀ wq, Fr [] w wq → Rw.chgs (-1) 0 cs = Rw.chgs cs[k].t cs[k].k (cs.drop (k + 1)) → RfValidRel w cs (k + 1) wq) := Lib.hid fun wq h1 h2 => ⟨hlt, ⟨_, _, h2, fun h => by omega, fun _ _ => ⟨rfl, rfl⟩⟩, h1⟩
      generalize cs[k] = c at hck HCH hnext
      obtain ⟨t, kk, had, o0, o1, o2, has, n0, n1, n2⟩ := c
      have c0 : wr.cell? ⟨b, off + k * 10, none⟩ = some (.int .i64 t) := hck.out 0 (by decide)
      have c1 : wr.cell? ⟨b, off + k * 10 + 1, none⟩ = some (.int .i64 kk) := hck.out 1 (by decide)
      have c2 : wr.cell? ⟨b, off + k * 10 + 2, none⟩ = some (.bool had) := hck.out 2 (by decide)
      have c3 : wr.cell? ⟨b, off + k * 10 + 3, none⟩ = some (.int .i64 o0) := hck.out 3 (by decide)
      have c4 : wr.cell? ⟨b, off + k * 10 + 4, none⟩ = some (.int .i64 o1) := hck.out 4 (by decide)
      have c5 : wr.cell? ⟨b, off + k * 10 + 5, none⟩ = some (.int .i64 o2) := hck.out 5 (by decide)
      have c6 : wr.cell? ⟨b, off + k * 10 + 6, none⟩ = some (.bool has) := hck.out 6 (by decide)
      have c7 : wr.cell? ⟨b, off + k * 10 + 7, none⟩ = some (.int .i64 n0) := hck.out 7 (by decide)
      have c8 : wr.cell? ⟨b, off + k * 10 + 8, none⟩ = some (.int .i64 n1) := hck.out 8 (by decide)
      have c9 : wr.cell? ⟨b, off + k * 10 + 9, none⟩ = some (.int .i64 n2) := hck.out 9 (by decide)
      clear hck
      have hN0 := Blk.new wr 59 #[.int .i64 t, .int .i64 kk, .bool had, .int .i64 o0, .int .i64 o1, .int .i64 o2, .bool has, .int .i64 n0, .int .i64 n1, .int .i64 n2]
      go_wp2_with fail
      refine (rfChange_any ⟨t, kk, had, o0, o1, o2, has, n0, n1, n2⟩ _).mono ?_
      rintro e w3 ⟨rfl, f3⟩
      have fa : Fr [] wr w3 := ((Fr.refl _ _).alloc _).trans f3
      have hfr3 : Fr [] w w3 := hfr.trans fa
      have hf23 : Fr [] W0 w3 := hf2.trans fa
      have hN := hN0.fr f3 (by simp)
      have hr3 := hrb.fr fa (by simp)
      clear c0 c1 c2 c3 c4 c5 c6 c7 c8 c9 f3 hfr hf2 r1 hrl hrb hN0
      cases hv : Rw.chg ⟨t, kk, had, o0, o1, o2, has, n0, n1, n2⟩
      · have HF : Hid (Rw.valid ⟨p, cs⟩ = false) := Lib.hid (by rw [HV.out, HCH.out, hv]; rfl)
        clear hv
        go_wp2_with fail
        go_ret
        exact ⟨by rw [HF.out]; rfl, hfr3⟩
      have Hv := Lib.hid hv
      have hbd := Rw.chg_bounds hv
      dsimp only at hbd
      clear hv
      have r1 := hr3.cell 1
      have x0 := hN.cell 0
      have x1 := hN.cell 1
      have hlN := hN.lt
      have hlR := hr3.lt
      rcases Nat.eq_zero_or_pos k with h0 | h0
      · subst h0
        obtain ⟨rfl, rfl⟩ := hz rfl
        have hbh : Rw.behind (-1) 0 ⟨t, kk, had, o0, o1, o2, has, n0, n1, n2⟩ = true := by
          simp only [Rw.behind, decide_eq_true_eq]
          omega
        have HCC := Lib.hid (hnext.out _ hfr3 (by rw [HCH.out, Hv.out, hbh]; simp))
        clear hbh
        go_wp2_with fail
        go_roundw
        case rel => exact ⟨1, by go_num, HCC.out, hf23⟩
        case measure => simp [intOf]; omega
      · have hkl : k - 1 < cs.length := by omega
        obtain ⟨e1, e2⟩ := hpos h0 hkl
        have hcq := Lib.hid (fun j hj => hcc.out w3 hf23 (k - 1) hkl j hj)
        clear hz hpos
        generalize cs[k - 1] = q at hcq e1 e2
        obtain ⟨qt, qk, qhad, q0, q1, q2, qhas, m0, m1, m2⟩ := q
        dsimp only at e1 e2
        subst e1 e2
        have q0c : w3.cell? ⟨b, off + (k - 1) * 10, none⟩ = some (.int .i64 lt) := hcq.out 0 (by decide)
        have q1c : w3.cell? ⟨b, off + (k - 1) * 10 + 1, none⟩ = some (.int .i64 lk) := hcq.out 1 (by decide)
        have q2c : w3.cell? ⟨b, off + (k - 1) * 10 + 2, none⟩ = some (.bool qhad) := hcq.out 2 (by decide)
        have q3c : w3.cell? ⟨b, off + (k - 1) * 10 + 3, none⟩ = some (.int .i64 q0) := hcq.out 3 (by decide)
        have q4c : w3.cell? ⟨b, off + (k - 1) * 10 + 4, none⟩ = some (.int .i64 q1) := hcq.out 4 (by decide)
        have q5c : w3.cell? ⟨b, off + (k - 1) * 10 + 5, none⟩ = some (.int .i64 q2) := hcq.out 5 (by decide)
        have q6c : w3.cell? ⟨b, off + (k - 1) * 10 + 6, none⟩ = some (.bool qhas) := hcq.out 6 (by decide)
        have q7c : w3.cell? ⟨b, off + (k - 1) * 10 + 7, none⟩ = some (.int .i64 m0) := hcq.out 7 (by decide)
        have q8c : w3.cell? ⟨b, off + (k - 1) * 10 + 8, none⟩ = some (.int .i64 m1) := hcq.out 8 (by decide)
        have q9c : w3.cell? ⟨b, off + (k - 1) * 10 + 9, none⟩ = some (.int .i64 m2) := hcq.out 9 (by decide)
        clear hcq
        have ek : (k : Int) - 1 = ((k - 1 : Nat) : Int) := by omega
        by_cases hbh : Rw.behind lt lk ⟨t, kk, had, o0, o1, o2, has, n0, n1, n2⟩ = true
        · have HCC := Lib.hid (hnext.out _ (hfr3.alloc (.cells #[.int .i64 lt, .int .i64 lk, .bool qhad, .int .i64 q0, .int .i64 q1, .int .i64 q2, .bool qhas, .int .i64 m0, .int .i64 m1, .int .i64 m2] 59)) (by rw [HCH.out, Hv.out, hbh]; simp))
          simp only [Rw.behind, decide_eq_true_eq] at hbh
          rcases hbh with hbh | ⟨h1, h2⟩
          · have d1 : ¬ t < lt := by omega
            have d2 : (lt == t) = false := by simp; omega
            clear hbh
            go_wp2_with fail
            go_roundw
            case rel => exact ⟨k + 1, by go_num, HCC.out, hf23.alloc _⟩
            case measure => simp [intOf]; omega
          · have d1 : ¬ t < lt := by omega
            have d2 : (lt == t) = true := by simp; omega
            have d3 : ¬ kk ≤ lk := by omega
            clear h1 h2
            go_wp2_with fail
            go_roundw
            case rel => exact ⟨k + 1, by go_num, HCC.out, hf23.alloc _⟩
            case measure => simp [intOf]; omega
        · have HF : Hid (Rw.valid ⟨p, cs⟩ = false) := Lib.hid (by rw [HV.out, HCH.out]; simp [hbh])
          simp only [Rw.behind, decide_eq_true_eq] at hbh
          by_cases h1 : t < lt
          · clear hbh
            go_wp2_with fail
            go_ret
            exact ⟨by rw [HF.out]; rfl, hfr3.alloc _⟩
          · have d2 : (lt == t) = true := by simp; omega
            have d3 : kk ≤ lk := by omega
            clear hbh
            go_wp2_with fail
            go_ret
            exact ⟨by rw [HF.out]; rfl, hfr3.alloc _⟩
    · have HF : Hid (Rw.valid ⟨p, cs⟩ = true) := Lib.hid (by
        rw [HV.out, hch, List.drop_of_length_le (by omega)]
        rfl)
      clear hch
      go_wp2_with fail
      go_ret
      exact ⟨by rw [HF.out]; rfl, hfr⟩
end Go.Proofs.YtciaallekkdnhaaGreat

/-
  Contracts of package row: ValidRecord.
-/
import Derived.Test.YthiaaminkfkjpaaEag
namespace Go.Proofs.Ythiaaminkfkjpaa
open Go.RowKit

/-- 'ValidChange'. -/
theorem validChange_any (c : Chg) (w : World) : Calls Try.prog 56 #[c.val] w fun e w' => e = .returned (.bool (Rw.chg c)) ∧ Fr [] w w' := by
  have HC : Hid (Rw.chg c = (Rw.turns c && Rw.sound c.t c.k c.had c.o0 c.o1 c.o2 && Rw.sound c.t c.k c.has c.n0 c.n1 c.n2)) := Lib.hid rfl
  have HT : Hid (Rw.turns c = (c.had != c.has || c.had && Rw.differs c)) := Lib.hid rfl
  have hq : ∀ w, (binOp .neq 24 (.agg #[.int .i64 c.o0, .int .i64 c.o1, .int .i64 c.o2]) (.agg #[.int .i64 c.n0, .int .i64 c.n1, .int .i64 c.n2])).run Try.prog w = .ok (.bool (Rw.differs c)) w := by
    intro w
    rw [neq_v3]
    unfold Rw.differs
    congr 2
    rw [Bool.eq_iff_iff]
    simp
  have hg := eqGuard_v3
  have Hx1 : Hid (∀ w, Calls Try.prog 62 #[c.val, .bool c.had, .agg #[.int .i64 c.o0, .int .i64 c.o1, .int .i64 c.o2]] w fun e w' => e = .returned (.bool (Rw.sound c.t c.k c.had c.o0 c.o1 c.o2)) ∧ Fr [] w w') := Lib.hid fun w => sound_any c c.had _ _ _ w
  have Hx2 : Hid (∀ w, Calls Try.prog 62 #[c.val, .bool c.has, .agg #[.int .i64 c.n0, .int .i64 c.n1, .int .i64 c.n2]] w fun e w' => e = .returned (.bool (Rw.sound c.t c.k c.has c.n0 c.n1 c.n2)) ∧ Fr [] w w') := Lib.hid fun w => sound_any c c.has _ _ _ w
  obtain ⟨t, k, had, o0, o1, o2, has, n0, n1, n2⟩ := c
  generalize hs1 : Rw.sound t k had o0 o1 o2 = s1 at *
  generalize hs2 : Rw.sound t k has n0 n1 n2 = s2 at *
  generalize hd : Rw.differs ⟨t, k, had, o0, o1, o2, has, n0, n1, n2⟩ = d at *
  clear hs1 hs2 hd
  unfold Chg.val at Hx1 Hx2 ⊢
  dsimp only at Hx1 Hx2 HC HT hq ⊢
  cases ht : (had != has || had && d)
  · rw [ht] at HT
    have HF : Hid (Rw.chg ⟨t, k, had, o0, o1, o2, has, n0, n1, n2⟩ = false) := Lib.hid (by rw [HC.out, HT.out]; rfl)
    cases had <;> cases has <;> cases d <;> (first | cases ht | skip)
    all_goals
      clear Hx1 Hx2 HC HT
      go_enter Try.func56, Try.ntmps56
      go_wp2_with fail
      go_ret
      exact ⟨by rw [HF.out]; rfl, (Fr.refl _ _).alloc _⟩
  · rw [ht] at HT
    have HF : Hid (Rw.chg ⟨t, k, had, o0, o1, o2, has, n0, n1, n2⟩ = (s1 && s2)) := Lib.hid (by rw [HC.out, HT.out]; simp)
    cases had <;> cases has <;> cases d <;> (first | cases ht | skip)
    all_goals
      clear HC HT
      go_enter Try.func56, Try.ntmps56
      go_wp2_with fail
      refine (Hx1.out _).mono ?_
      rintro e w1 ⟨rfl, f1⟩
      have F1 : Fr [] w w1 := ((Fr.refl _ _).alloc _).trans f1
      have hB := (Blk.new w 35 _).fr f1 (by simp)
      clear f1 Hx1
      cases s1
      · go_wp2_with fail
        go_ret
        exact ⟨by rw [HF.out]; rfl, F1⟩
      have c0 := hB.cell 0
      have c1 := hB.cell 1
      have c2 := hB.cell 2
      have c3 := hB.cell 3
      have c4 := hB.cell 4
      have c5 := hB.cell 5
      have c6 := hB.cell 6
      have c7 := hB.cell 7
      have c8 := hB.cell 8
      have c9 := hB.cell 9
      clear hB
      go_wp2_with fail
      refine (Hx2.out _).mono ?_
      rintro e w2 ⟨rfl, f2⟩
      have F2 : Fr [] w w2 := F1.trans f2
      clear f2 Hx2 F1
      cases s2
      all_goals
        go_wp2_with fail
        go_ret
        exact ⟨by rw [HF.out]; rfl, F2⟩
end Go.Proofs.Ythiaaminkfkjpaa
namespace Go.Proofs.Ythiaaminkfkjpaa
open Go.RowKit

/-- At A lie the changes cs. -/
def ChgsAt (w : World) (A : Option Addr) (cs : List Chg) : Prop :=
  0 < cs.length → ∃ b off, A = some ⟨b, off, none⟩ ∧ b < w.heap.size ∧ ∀ i (h : i < cs.length) j, j < 10 → w.cell? ⟨b, off + i * 10 + j, none⟩ = cs[i].cells[j]?
theorem ChgsAt.fr {w w' : World} {A : Option Addr} {cs : List Chg} {S : List Nat} (h : ChgsAt w A cs) (hf : Fr S w w') (hs : ∀ ad, A = some ad → ad.block ∉ S) : ChgsAt w' A cs := by
  intro hl
  obtain ⟨b, off, e, hb, hc⟩ := h hl
  refine ⟨b, off, e, Nat.lt_of_lt_of_le hb hf.size, fun i hi j hj => ?_⟩
  rw [hf.cell (p := ⟨b, off + i * 10 + j, none⟩) hb (hs ⟨b, off, none⟩ e)]
  exact hc i hi j hj

theorem zero_chg_cells : (⟨-1, 0, false, 0, 0, 0, false, 0, 0, 0⟩ : Chg).cells.toArray = #[.int .i64 (-1), .int .i64 0, .bool false, .int .i64 0, .int .i64 0, .int .i64 0, .bool false, .int .i64 0, .int .i64 0, .int .i64 0] := rfl

/-- A change stored at the head of block g. -/
abbrev setChg (w : World) (g : Nat) (c : Chg) : World := (((((((((w.setCell ⟨g, 0, none⟩ (.int .i64 c.t)).setCell ⟨g, 1, none⟩ (.int .i64 c.k)).setCell ⟨g, 2, none⟩ (.bool c.had)).setCell ⟨g, 3, none⟩ (.int .i64 c.o0)).setCell ⟨g, 4, none⟩ (.int .i64 c.o1)).setCell ⟨g, 5, none⟩ (.int .i64 c.o2)).setCell ⟨g, 6, none⟩ (.bool c.has)).setCell ⟨g, 7, none⟩ (.int .i64 c.n0)).setCell ⟨g, 8, none⟩ (.int .i64 c.n1)).setCell ⟨g, 9, none⟩ (.int .i64 c.n2)
theorem setChg_blk {w : World} {g ty : Nat} {l : Chg} (h : Blk w g ty l.cells.toArray) (c : Chg) : Blk (setChg w g c) g ty c.cells.toArray := by
  have h := (((((((((h.set_ 0 (.int .i64 c.t)).set_ 1 (.int .i64 c.k)).set_ 2 (.bool c.had)).set_ 3 (.int .i64 c.o0)).set_ 4 (.int .i64 c.o1)).set_ 5 (.int .i64 c.o2)).set_ 6 (.bool c.has)).set_ 7 (.int .i64 c.n0)).set_ 8 (.int .i64 c.n1)).set_ 9 (.int .i64 c.n2)
  simpa [Chg.cells] using h
theorem setChg_fr {S : List Nat} {W w : World} (hF : Fr S W w) {g : Nat} (hg : W.heap.size ≤ g) (c : Chg) : Fr S W (setChg w g c) :=
  (((((((((hF.setCell (.inr hg) _).setCell (.inr hg) _).setCell (.inr hg) _).setCell (.inr hg) _).setCell (.inr hg) _).setCell (.inr hg) _).setCell (.inr hg) _).setCell (.inr hg) _).setCell (.inr hg) _).setCell (.inr hg) _

/-- What stands at the head of each round. -/
def ValidRel (w : World) (g : Nat) (cs : List Chg) (k : Nat) (wr : World) : Prop := k ≤ cs.length ∧ ∃ l : Chg, Blk wr g 35 l.cells.toArray ∧ Rw.chgs (-1) 0 cs = Rw.chgs l.t l.k (cs.drop k) ∧ Fr [] w wr

theorem validRecord_any (r : Rec) (A : Option Addr) (cap : Nat) (w : World) (hx : ChgsAt w A r.cs) (hlen : r.cs.length ≤ maxLen) :
    Calls Try.prog 46 #[.agg #[.int .i64 r.p, .slice A r.cs.length cap]] w fun e w' => e = .returned (.bool (Rw.valid r)) ∧ Fr [] w w' := by
  obtain ⟨p, cs⟩ := r
  have HR : Hid (Rw.valid ⟨p, cs⟩ = (Rw.inI 1 10000 p && Rw.inI 1 8 cs.length && Rw.chgs (-1) 0 cs)) := Lib.hid rfl
  dsimp only at hx hlen ⊢
  unfold maxLen at hlen
  go_enter Try.func46, Try.ntmps46
  go_wp2_with fail
  refine (within_one p 1 10000 (w.heap.size + 1) _ (by simp [go_sem])).mono ?_
  rintro e w1 ⟨rfl, f1⟩
  have F1 : Fr [] w w1 := (((Fr.refl _ _).alloc _).alloc _).trans f1
  have hB := ((Blk.new w 38 #[.int .i64 p, .slice A cs.length cap]).alloc _).fr f1 (by simp)
  clear f1
  cases hp : Rw.inI 1 10000 p
  · have HF : Hid (Rw.valid ⟨p, cs⟩ = false) := Lib.hid (by rw [HR.out, hp]; rfl)
    clear hp
    go_wp2_with fail
    go_ret
    exact ⟨by rw [HF.out]; rfl, F1⟩
  have Hp := Lib.hid hp
  have c1 := hB.cell 1
  have hlt := hB.lt
  clear hp
  go_wp2_with fail
  refine (within_one cs.length 1 8 w1.heap.size _ (by simp [go_sem])).mono ?_
  rintro e w2 ⟨rfl, f2⟩
  have F2 : Fr [] w w2 := F1.trans (((Fr.refl _ _).alloc _).trans f2)
  replace hB := (hB.alloc _).fr f2 (by simp)
  clear f2 F1 c1 hlt
  cases hn : Rw.inI 1 8 cs.length
  · have HF : Hid (Rw.valid ⟨p, cs⟩ = false) := Lib.hid (by rw [HR.out, Hp.out, hn]; rfl)
    clear hn
    go_wp2_with fail
    go_ret
    exact ⟨by rw [HF.out]; rfl, F2⟩
  have Hn := Lib.hid hn
  have hn8 : 1 ≤ cs.length ∧ cs.length ≤ 8 := by
    have := hn
    unfold Rw.inI at this
    simp at this
    omega
  clear hn
  obtain ⟨b, off, hA, hb, hc⟩ := (hx.fr F2 (by simp)) (by omega)
  subst hA
  have HV : Hid (Rw.valid ⟨p, cs⟩ = Rw.chgs (-1) 0 cs) := Lib.hid (by rw [HR.out, Hp.out, Hn.out]; simp)
  clear HR Hp Hn hx
  have c1 := hB.cell 1
  have hlt := hB.lt
  have hcw : ∀ o, (w2.alloc o).cell? ⟨w.heap.size, 1, none⟩ = some (.slice (some ⟨b, off, none⟩) cs.length cap) := fun o => (hB.alloc o).cell 1
  have Hc := Lib.hid hc
  clear hc
  go_wp2_with fail
  have R0 : ValidRel w w2.heap.size cs 0 (w2.alloc (.cells #[.int .i64 (-1), .int .i64 0, .bool false, .int .i64 0, .int .i64 0, .int .i64 0, .bool false, .int .i64 0, .int .i64 0, .int .i64 0] 35)) :=
    ⟨Nat.zero_le _, ⟨-1, 0, false, 0, 0, 0, false, 0, 0, 0⟩, Blk.new _ _ _, rfl, F2.alloc _⟩
  have hcc : Hid (∀ wr, Fr [] w2 wr → ∀ i (h : i < cs.length) j, j < 10 → wr.cell? ⟨b, off + i * 10 + j, none⟩ = cs[i].cells[j]?) := Lib.hid fun wr hf i h j hj => by
    rw [hf.cell hb (by simp)]; exact Hc.out i h j hj
  have hf0 : Fr [] w2 (w2.alloc (.cells #[.int .i64 (-1), .int .i64 0, .bool false, .int .i64 0, .int .i64 0, .int .i64 0, .bool false, .int .i64 0, .int .i64 0, .int .i64 0] 35)) := (Fr.refl _ _).alloc _
  generalize hg : w2.heap.size = g at *
  have hgw : w.heap.size ≤ g := by have := F2.size; omega
  have hgw2 : w2.heap.size ≤ g := by omega
  clear c1 hcw hlt hB hg F2
  go_loopw [23] (fun i wr => ∃ k : Nat, i = .int .i64 k ∧ ValidRel w g cs k wr ∧ Fr [] w2 wr) (fun i _ => cs.length - (intOf i).toNat)
  case atStart => exact ⟨0, rfl, R0, hf0⟩
  case round =>
    clear R0 hf0
    obtain ⟨k, rfl, ⟨hk, l, hl, hch, hfr⟩, hf2⟩ := hrel
    by_cases hlt : k < cs.length
    · have hck := Lib.hid (hcc.out wr hf2 k hlt)
      have hch' : Rw.chgs (-1) 0 cs = (Rw.chg cs[k] && Rw.behind l.t l.k cs[k] && Rw.chgs cs[k].t cs[k].k (cs.drop (k + 1))) := by
        rw [hch, List.drop_eq_getElem_cons hlt]; rfl
      have HCH := Lib.hid hch'
      clear hch hch'
      generalize cs[k] = c at hck HCH
      obtain ⟨t, kk, had, o0, o1, o2, has, n0, n1, n2⟩ := c
      have c0 : wr.cell? ⟨b, off + k * 10, none⟩ = some (.int .i64 t) := hck.out 0 (by decide)
      have c1 : wr.cell? ⟨b, off + k * 10 + 1, none⟩ = some (.int .i64 kk) := hck.out 1 (by decide)
      have c2 : wr.cell? ⟨b, off + k * 10 + 2, none⟩ = some (.bool had) := hck.out 2 (by decide)
      have c3 : wr.cell? ⟨b, off + k * 10 + 3, none⟩ = some (.int .i64 o0) := hck.out 3 (by decide)
      have c4 : wr.cell? ⟨b, off + k * 10 + 4, none⟩ = some (.int .i64 o1) := hck.out 4 (by decide)
      have c5 : wr.cell? ⟨b, off + k * 10 + 5, none⟩ = some (.int .i64 o2) := hck.out 5 (by decide)
      have c6 : wr.cell? ⟨b, off + k * 10 + 6, none⟩ = some (.bool has) := hck.out 6 (by decide)
      have c7 : wr.cell? ⟨b, off + k * 10 + 7, none⟩ = some (.int .i64 n0) := hck.out 7 (by decide)
      have c8 : wr.cell? ⟨b, off + k * 10 + 8, none⟩ = some (.int .i64 n1) := hck.out 8 (by decide)
      have c9 : wr.cell? ⟨b, off + k * 10 + 9, none⟩ = some (.int .i64 n2) := hck.out 9 (by decide)
      clear hck
      go_wp2_with fail
      refine (validChange_any ⟨t, kk, had, o0, o1, o2, has, n0, n1, n2⟩ _).mono ?_
      rintro e w3 ⟨rfl, f3⟩
      have hfr3 : Fr [] w w3 := hfr.trans (((Fr.refl _ _).alloc _).trans f3)
      have hf23 : Fr [] w2 w3 := hf2.trans (((Fr.refl _ _).alloc _).trans f3)
      have hl3 := (hl.alloc _).fr f3 (by simp)
      have hN := (Blk.new wr 35 _).fr f3 (by simp)
      clear c0 c1 c2 c3 c4 c5 c6 c7 c8 c9 f3 hfr hf2 hl
      cases hv : Rw.chg ⟨t, kk, had, o0, o1, o2, has, n0, n1, n2⟩
      · have HF : Hid (Rw.valid ⟨p, cs⟩ = false) := Lib.hid (by rw [HV.out, HCH.out, hv]; rfl)
        clear hv
        go_wp2_with fail
        go_ret
        exact ⟨by rw [HF.out]; rfl, hfr3⟩
      have Hv := Lib.hid hv
      clear hv
      have x0 := hN.cell 0
      have x1 := hN.cell 1
      have y0 : w3.cell? ⟨g, 0, none⟩ = some (.int .i64 l.t) := hl3.cell 0
      have y1 : w3.cell? ⟨g, 1, none⟩ = some (.int .i64 l.k) := hl3.cell 1
      by_cases hb : Rw.behind l.t l.k ⟨t, kk, had, o0, o1, o2, has, n0, n1, n2⟩ = true
      · have HCC : Hid (Rw.chgs (-1) 0 cs = Rw.chgs t kk (cs.drop (k + 1))) := Lib.hid (by rw [HCH.out, Hv.out, hb]; simp)
        have x2 := hN.cell 2
        have x3 := hN.cell 3
        have x4 := hN.cell 4
        have x5 := hN.cell 5
        have x6 := hN.cell 6
        have x7 := hN.cell 7
        have x8 := hN.cell 8
        have x9 := hN.cell 9
        have y2 : w3.cell? ⟨g, 2, none⟩ = some (.bool l.had) := hl3.cell 2
        have y3 : w3.cell? ⟨g, 3, none⟩ = some (.int .i64 l.o0) := hl3.cell 3
        have y4 : w3.cell? ⟨g, 4, none⟩ = some (.int .i64 l.o1) := hl3.cell 4
        have y5 : w3.cell? ⟨g, 5, none⟩ = some (.int .i64 l.o2) := hl3.cell 5
        have y6 : w3.cell? ⟨g, 6, none⟩ = some (.bool l.has) := hl3.cell 6
        have y7 : w3.cell? ⟨g, 7, none⟩ = some (.int .i64 l.n0) := hl3.cell 7
        have y8 : w3.cell? ⟨g, 8, none⟩ = some (.int .i64 l.n1) := hl3.cell 8
        have y9 : w3.cell? ⟨g, 9, none⟩ = some (.int .i64 l.n2) := hl3.cell 9
        have z0 := hl3.frozen 0
        have z1 := hl3.frozen 1
        have z2 := hl3.frozen 2
        have z3 := hl3.frozen 3
        have z4 := hl3.frozen 4
        have z5 := hl3.frozen 5
        have z6 := hl3.frozen 6
        have z7 := hl3.frozen 7
        have z8 := hl3.frozen 8
        have z9 := hl3.frozen 9
        simp only [Rw.behind, decide_eq_true_eq] at hb
        rcases hb with hb | ⟨hb1, hb2⟩
        · have d1 : ¬ t < l.t := by omega
          have d2 : (t == l.t) = false := by simp; omega
          clear hb
          go_wp2_with fail
          go_roundw
          case rel => exact ⟨k + 1, by go_num, ⟨hlt, ⟨t, kk, had, o0, o1, o2, has, n0, n1, n2⟩, setChg_blk hl3 ⟨t, kk, had, o0, o1, o2, has, n0, n1, n2⟩, HCC.out, setChg_fr hfr3 hgw ⟨t, kk, had, o0, o1, o2, has, n0, n1, n2⟩⟩, setChg_fr hf23 hgw2 ⟨t, kk, had, o0, o1, o2, has, n0, n1, n2⟩⟩
          case measure => simp [intOf]; omega
        · have d1 : ¬ t < l.t := by omega
          have d2 : (t == l.t) = true := by simp; omega
          have d3 : ¬ kk ≤ l.k := by omega
          clear hb1 hb2
          go_wp2_with fail
          go_roundw
          case rel => exact ⟨k + 1, by go_num, ⟨hlt, ⟨t, kk, had, o0, o1, o2, has, n0, n1, n2⟩, setChg_blk hl3 ⟨t, kk, had, o0, o1, o2, has, n0, n1, n2⟩, HCC.out, setChg_fr hfr3 hgw ⟨t, kk, had, o0, o1, o2, has, n0, n1, n2⟩⟩, setChg_fr hf23 hgw2 ⟨t, kk, had, o0, o1, o2, has, n0, n1, n2⟩⟩
          case measure => simp [intOf]; omega
      · have HF : Hid (Rw.valid ⟨p, cs⟩ = false) := Lib.hid (by rw [HV.out, HCH.out]; simp [hb])
        simp only [Rw.behind, decide_eq_true_eq] at hb
        by_cases h1 : t < l.t
        · clear hb
          go_wp2_with fail
          go_ret
          exact ⟨by rw [HF.out]; rfl, hfr3⟩
        · have d2 : (t == l.t) = true := by simp; omega
          have d3 : kk ≤ l.k := by omega
          clear hb
          go_wp2_with fail
          go_ret
          exact ⟨by rw [HF.out]; rfl, hfr3⟩
    · have HF : Hid (Rw.valid ⟨p, cs⟩ = true) := Lib.hid (by
        rw [HV.out, hch, List.drop_of_length_le (by omega)]
        rfl)
      clear hch
      go_wp2_with fail
      go_ret
      exact ⟨by rw [HF.out]; rfl, hfr⟩
end Go.Proofs.Ythiaaminkfkjpaa

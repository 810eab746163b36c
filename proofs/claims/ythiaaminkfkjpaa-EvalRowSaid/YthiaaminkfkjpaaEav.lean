/-
  Contract of the reference of rows (cachetierref03): ValidRecord.
-/
import Derived.Test.YthiaaminkfkjpaaEao
import Derived.Test.YthiaaminkfkjpaaEai
import Derived.Test.YthiaaminkfkjpaaEah
namespace Go.Proofs.Ythiaaminkfkjpaa
open Go.RowKit

/-- What stands at the head of each round. -/
def RfValidRel (w : World) (cs : List Chg) (k : Nat) (wr : World) : Prop := k ≤ cs.length ∧ (∃ lt lk : Int, Rw.chgs (-1) 0 cs = Rw.chgs lt lk (cs.drop k) ∧ (k = 0 → lt = -1 ∧ lk = 0) ∧ (∀ (_ : 0 < k) (h : k - 1 < cs.length), lt = cs[k - 1].t ∧ lk = cs[k - 1].k)) ∧ Fr [] w wr

set_option maxRecDepth 100000 in
set_option maxHeartbeats 1000000 in
theorem rfRecord_any (r : Rec) (A : Option Addr) (cap : Nat) (w : World) (hx : ChgsAt w A r.cs) (hlen : r.cs.length ≤ maxLen) :
    Calls Try.prog 26 #[.agg #[.int .i64 r.p, .slice A r.cs.length cap]] w fun e w' => e = .returned (.bool (Rw.valid r)) ∧ Fr [] w w' := by
  obtain ⟨p, cs⟩ := r
  have HR : Hid (Rw.valid ⟨p, cs⟩ = (Rw.inI 1 10000 p && Rw.inI 1 8 cs.length && Rw.chgs (-1) 0 cs)) := Lib.hid rfl
  have HC := Lib.hid rfWithin_any
  dsimp only at hx hlen ⊢
  unfold maxLen at hlen
  have F0 : Fr [] w (w.alloc (.cells #[.int .i64 p, .slice A cs.length cap] 38)) := (Fr.refl _ _).alloc _
  have hB0 := Blk.new w 38 #[.int .i64 p, .slice A cs.length cap]
  go_enter Try.func26, Try.ntmps26
  go_wp2_with fail
  refine (HC.out p 1 10000 _).mono ?_
  rintro e w1 ⟨rfl, rfl⟩
  cases hp : Rw.inI 1 10000 p
  · have HF : Hid (Rw.valid ⟨p, cs⟩ = false) := Lib.hid (by rw [HR.out, hp]; rfl)
    clear hp
    go_wp2_with fail
    go_ret
    exact ⟨by rw [HF.out]; rfl, F0⟩
  have Hp := Lib.hid hp
  clear hp
  go_wp2_with fail
  refine (HC.out cs.length 1 8 _).mono ?_
  rintro e w1 ⟨rfl, rfl⟩
  cases hn : Rw.inI 1 8 cs.length
  · have HF : Hid (Rw.valid ⟨p, cs⟩ = false) := Lib.hid (by rw [HR.out, Hp.out, hn]; rfl)
    clear hn
    go_wp2_with fail
    go_ret
    exact ⟨by rw [HF.out]; rfl, F0⟩
  have Hn := Lib.hid hn
  have hn8 : 1 ≤ cs.length ∧ cs.length ≤ 8 := by
    have := hn
    unfold Rw.inI at this
    simp at this
    omega
  clear hn
  generalize w.alloc (.cells #[.int .i64 p, .slice A cs.length cap] 38) = W0 at *
  obtain ⟨b, off, hA, hb, hc⟩ := (hx.fr F0 (by simp)) (by omega)
  subst hA
  have HV : Hid (Rw.valid ⟨p, cs⟩ = Rw.chgs (-1) 0 cs) := Lib.hid (by rw [HR.out, Hp.out, Hn.out]; simp)
  clear HR Hp Hn hx
  have Hc := Lib.hid hc
  clear hc
  have R0 : RfValidRel w cs 0 W0 := ⟨Nat.zero_le _, ⟨-1, 0, rfl, fun _ => ⟨rfl, rfl⟩, fun h => by omega⟩, F0⟩
  have hcc : Hid (∀ wr, Fr [] W0 wr → ∀ i (h : i < cs.length) j, j < 10 → wr.cell? ⟨b, off + i * 10 + j, none⟩ = cs[i].cells[j]?) := Lib.hid fun wr hf i h j hj => by
    rw [hf.cell hb (by simp)]; exact Hc.out i h j hj
  have hf0 : Fr [] W0 W0 := Fr.refl _ _
  go_wp2_with fail
  clear F0
  go_loopw [3] (fun i wr => ∃ k : Nat, i = .int .i64 k ∧ RfValidRel w cs k wr ∧ Fr [] W0 wr) (fun i _ => cs.length - (intOf i).toNat)
  case atStart => exact ⟨0, rfl, R0, hf0⟩
  case round =>
    clear R0 hf0
    obtain ⟨k, rfl, ⟨hk, ⟨lt, lk, hch, hz, hpos⟩, hfr⟩, hf2⟩ := hrel
    have hrb := hB0.fr hf2 (by simp)
    have r1 := hrb.cell 1
    have hrl := hrb.lt
    by_cases hlt : k < cs.length
    · have hck := Lib.hid (hcc.out wr hf2 k hlt)
      have hch' : Rw.chgs (-1) 0 cs = (Rw.chg cs[k] && Rw.behind lt lk cs[k] && Rw.chgs cs[k].t cs[k].k (cs.drop (k + 1))) := by
        rw [hch, List.drop_eq_getElem_cons hlt]; rfl
      have HCH := Lib.hid hch'
      clear hch hch'
      have hnext : Hid (∀ wq, Fr [] w wq → Rw.chgs (-1) 0 cs = Rw.chgs cs[k].t cs[k].k (cs.drop (k + 1)) → RfValidRel w cs (k + 1) wq) := Lib.hid fun wq h1 h2 => ⟨hlt, ⟨_, _, h2, fun h => by omega, fun _ _ => ⟨rfl, rfl⟩⟩, h1⟩
      generalize cs[k] = c at hck HCH hnext
      obtain ⟨t, kk, had, o0, o1, o2, has, n0, n1, n2⟩ := c
      have c0 : wr.cell? ⟨b, off + k * 10, none⟩ = some (.int .i64 t) := hck.out 0 (by decide)
      have c1 : wr.cell? ⟨b, off + k * 10 + 1, none⟩ = some (.int .i64 kk) := hck.out 1 (by decide)
      have c2 : wr.cell? ⟨b, off + k * 10 + 2, none⟩ = some (.bool had) := hck.out 2 (by decide)
      have c3 : wr.cell? ⟨b, off + k * 10 + 3, none⟩ = some (.int .i64 o0) := hck.out 3 (by decide)
      have c4 : wr.cell? ⟨b, off + k * 10 + 4, none⟩ = some (.int .i64 o1) := hck.out 4 (by decide)
      have c5 : wr.cell? ⟨b, off + k * 10 + 5, none⟩ = some (.int .i64 o2) := hck.out 5 (by decide)
      have c6 : wr.cell? ⟨b, off + k * 10 + 6, none⟩ = some (.bool has) := hck.out 6 (by decide)
      have c7 : wr.cell? ⟨b, off + k * 10 + 7, none⟩ = some (.int .i64 n0) := hck.out 7 (by decide)
      have c8 : wr.cell? ⟨b, off + k * 10 + 8, none⟩ = some (.int .i64 n1) := hck.out 8 (by decide)
      have c9 : wr.cell? ⟨b, off + k * 10 + 9, none⟩ = some (.int .i64 n2) := hck.out 9 (by decide)
      clear hck
      have hN0 := Blk.new wr 35 #[.int .i64 t, .int .i64 kk, .bool had, .int .i64 o0, .int .i64 o1, .int .i64 o2, .bool has, .int .i64 n0, .int .i64 n1, .int .i64 n2]
      go_wp2_with fail
      refine (rfChange_any ⟨t, kk, had, o0, o1, o2, has, n0, n1, n2⟩ _).mono ?_
      rintro e w3 ⟨rfl, f3⟩
      have fa : Fr [] wr w3 := ((Fr.refl _ _).alloc _).trans f3
      have hfr3 : Fr [] w w3 := hfr.trans fa
      have hf23 : Fr [] W0 w3 := hf2.trans fa
      have hN := hN0.fr f3 (by simp)
      have hr3 := hrb.fr fa (by simp)
      clear c0 c1 c2 c3 c4 c5 c6 c7 c8 c9 f3 hfr hf2 r1 hrl hrb hN0
      cases hv : Rw.chg ⟨t, kk, had, o0, o1, o2, has, n0, n1, n2⟩
      · have HF : Hid (Rw.valid ⟨p, cs⟩ = false) := Lib.hid (by rw [HV.out, HCH.out, hv]; rfl)
        clear hv
        go_wp2_with fail
        go_ret
        exact ⟨by rw [HF.out]; rfl, hfr3⟩
      have Hv := Lib.hid hv
      have hbd := Rw.chg_bounds hv
      dsimp only at hbd
      clear hv
      have r1 := hr3.cell 1
      have x0 := hN.cell 0
      have x1 := hN.cell 1
      have hlN := hN.lt
      have hlR := hr3.lt
      rcases Nat.eq_zero_or_pos k with h0 | h0
      · subst h0
        obtain ⟨rfl, rfl⟩ := hz rfl
        have hbh : Rw.behind (-1) 0 ⟨t, kk, had, o0, o1, o2, has, n0, n1, n2⟩ = true := by
          simp only [Rw.behind, decide_eq_true_eq]
          omega
        have HCC := Lib.hid (hnext.out _ hfr3 (by rw [HCH.out, Hv.out, hbh]; simp))
        clear hbh
        go_wp2_with fail
        go_roundw
        case rel => exact ⟨1, by go_num, HCC.out, hf23⟩
        case measure => simp [intOf]; omega
      · have hkl : k - 1 < cs.length := by omega
        obtain ⟨e1, e2⟩ := hpos h0 hkl
        have hcq := Lib.hid (fun j hj => hcc.out w3 hf23 (k - 1) hkl j hj)
        clear hz hpos
        generalize cs[k - 1] = q at hcq e1 e2
        obtain ⟨qt, qk, qhad, q0, q1, q2, qhas, m0, m1, m2⟩ := q
        dsimp only at e1 e2
        subst e1 e2
        have q0c : w3.cell? ⟨b, off + (k - 1) * 10, none⟩ = some (.int .i64 lt) := hcq.out 0 (by decide)
        have q1c : w3.cell? ⟨b, off + (k - 1) * 10 + 1, none⟩ = some (.int .i64 lk) := hcq.out 1 (by decide)
        have q2c : w3.cell? ⟨b, off + (k - 1) * 10 + 2, none⟩ = some (.bool qhad) := hcq.out 2 (by decide)
        have q3c : w3.cell? ⟨b, off + (k - 1) * 10 + 3, none⟩ = some (.int .i64 q0) := hcq.out 3 (by decide)
        have q4c : w3.cell? ⟨b, off + (k - 1) * 10 + 4, none⟩ = some (.int .i64 q1) := hcq.out 4 (by decide)
        have q5c : w3.cell? ⟨b, off + (k - 1) * 10 + 5, none⟩ = some (.int .i64 q2) := hcq.out 5 (by decide)
        have q6c : w3.cell? ⟨b, off + (k - 1) * 10 + 6, none⟩ = some (.bool qhas) := hcq.out 6 (by decide)
        have q7c : w3.cell? ⟨b, off + (k - 1) * 10 + 7, none⟩ = some (.int .i64 m0) := hcq.out 7 (by decide)
        have q8c : w3.cell? ⟨b, off + (k - 1) * 10 + 8, none⟩ = some (.int .i64 m1) := hcq.out 8 (by decide)
        have q9c : w3.cell? ⟨b, off + (k - 1) * 10 + 9, none⟩ = some (.int .i64 m2) := hcq.out 9 (by decide)
        clear hcq
        have ek : (k : Int) - 1 = ((k - 1 : Nat) : Int) := by omega
        by_cases hbh : Rw.behind lt lk ⟨t, kk, had, o0, o1, o2, has, n0, n1, n2⟩ = true
        · have HCC := Lib.hid (hnext.out _ (hfr3.alloc (.cells #[.int .i64 lt, .int .i64 lk, .bool qhad, .int .i64 q0, .int .i64 q1, .int .i64 q2, .bool qhas, .int .i64 m0, .int .i64 m1, .int .i64 m2] 35)) (by rw [HCH.out, Hv.out, hbh]; simp))
          simp only [Rw.behind, decide_eq_true_eq] at hbh
          rcases hbh with hbh | ⟨h1, h2⟩
          · have d1 : ¬ t < lt := by omega
            have d2 : (lt == t) = false := by simp; omega
            clear hbh
            go_wp2_with fail
            go_roundw
            case rel => exact ⟨k + 1, by go_num, HCC.out, hf23.alloc _⟩
            case measure => simp [intOf]; omega
          · have d1 : ¬ t < lt := by omega
            have d2 : (lt == t) = true := by simp; omega
            have d3 : ¬ kk ≤ lk := by omega
            clear h1 h2
            go_wp2_with fail
            go_roundw
            case rel => exact ⟨k + 1, by go_num, HCC.out, hf23.alloc _⟩
            case measure => simp [intOf]; omega
        · have HF : Hid (Rw.valid ⟨p, cs⟩ = false) := Lib.hid (by rw [HV.out, HCH.out]; simp [hbh])
          simp only [Rw.behind, decide_eq_true_eq] at hbh
          by_cases h1 : t < lt
          · clear hbh
            go_wp2_with fail
            go_ret
            exact ⟨by rw [HF.out]; rfl, hfr3.alloc _⟩
          · have d2 : (lt == t) = true := by simp; omega
            have d3 : kk ≤ lk := by omega
            clear hbh
            go_wp2_with fail
            go_ret
            exact ⟨by rw [HF.out]; rfl, hfr3.alloc _⟩
    · have HF : Hid (Rw.valid ⟨p, cs⟩ = true) := Lib.hid (by
        rw [HV.out, hch, List.drop_of_length_le (by omega)]
        rfl)
      clear hch
      go_wp2_with fail
      go_ret
      exact ⟨by rw [HF.out]; rfl, hfr⟩
end Go.Proofs.Ythiaaminkfkjpaa

/-
  MatchRows: the walk of the law.
-/
import Derived.Test.YtciaallekkdnhaaGreatMuF
import Derived.Test.YtciaallekkdnhaaGreatMuB
import Derived.Test.YtciaallekkdnhaaGreatJs
import Derived.Deep.DeepCutAuto
import Derived.Deep.CutBlock
import Derived.StillTailTactics
namespace Go.Proofs.YtciaallekkdnhaaGreat
open Go.RowKit

namespace Mm
def rq (t k : Int) : Qry := ⟨1, t, 0, k, k, 0, 0⟩
theorem rq_valid {t k : Int} (ht : 0 ≤ t ∧ t ≤ 3) (hk : 1 ≤ k ∧ k ≤ 12) : Em.valid (rq t k) = true := by
  unfold Em.valid Em.base Em.within rq
  simp
  omega
theorem touch_row {t k : Int} (ht : 0 ≤ t ∧ t ≤ 3) (hk : 1 ≤ k ∧ k ≤ 12) (c : Chg) : Pm.touches (rq t k) c = (Rw.chg c && (decide (c.t = t) && decide (c.k = k))) := by
  have key : Rw.chg c = true → Pm.tk (rq t k) c = (decide (c.t = t) && decide (c.k = k)) := by
    intro h
    have h2 : c.had = true ∨ c.has = true := by
      unfold Rw.chg Rw.turns at h
      cases h1 : c.had
      · cases h3 : c.has
        · rw [h1, h3] at h
          simp at h
        · exact .inr rfl
      · exact .inl rfl
    unfold Pm.tk rq
    simp only
    rw [if_neg (by decide), if_neg (by decide), if_neg (by decide), if_neg (by decide)]
    have e : ∀ a b d : Int, Pm.inq ⟨1, t, 0, k, k, 0, 0⟩ ⟨c.t, c.k, a, b, d⟩ = (decide (c.t = t) && decide (c.k = k)) := by
      intro a b d
      unfold Pm.inq RowV.value
      simp only [if_true]
      rw [Bool.eq_iff_iff]
      simp only [Bool.and_eq_true, decide_eq_true_eq]
      omega
    unfold Pm.anyE Pm.B Pm.A Pm.sc Pm.bef Pm.aft
    cases h1 : c.had <;> cases h3 : c.has
    · rw [h1, h3] at h2
      simp at h2
    · simp [Option.filter, e]
      by_cases p : c.t = t <;> by_cases r : c.k = k <;> simp [p, r]
    · simp [Option.filter, e]
      by_cases p : c.t = t <;> by_cases r : c.k = k <;> simp [p, r]
    · simp [Option.filter, e]
      by_cases p : c.t = t <;> by_cases r : c.k = k <;> simp [p, r]
  unfold Pm.touches
  rw [rq_valid ht hk, Bool.true_and]
  cases h : Rw.chg c with
  | false => rfl
  | true => rw [key h]
theorem row_hit {q : Qry} {cs : List Chg} {L : List Int} (h : Hit [(-7, q)] cs L) : (cs.any (Pm.touches q) = true → L = [-7]) ∧ (cs.any (Pm.touches q) = false → L = []) := by
  have hm : ∀ {id : Int} {x : Qry}, mget ([(-7, q)] : Ix) id = some x → id = -7 ∧ x = q := fun {id x} hx => by
    by_cases e : -7 = id
    · subst e
      simp [mget] at hx
      exact ⟨rfl, hx.symm⟩
    · simp [mget, e] at hx
  refine ⟨fun ht => h.uniq ⟨by simp, fun id => ⟨fun hi => ?_, fun ⟨x, hx, hxt⟩ => ?_⟩⟩, fun ht => h.uniq ⟨.nil, fun id => ⟨fun hi => absurd hi (by simp), fun ⟨x, hx, hxt⟩ => ?_⟩⟩⟩
  · obtain rfl : id = -7 := by simpa using hi
    exact ⟨q, by simp [mget], ht⟩
  · rw [(hm hx).1]
    simp
  · rw [(hm hx).2, ht] at hxt
    cases hxt
theorem add_one (q : Qry) (h : Em.valid q = true) : code [] (-7) q = 0 ∧ add [] (-7) q = [(-7, q)] := by
  have h1 : code [] (-7) q = 0 := code_zero.2 ⟨rfl, h, by decide⟩
  refine ⟨h1, ?_⟩
  unfold add
  rw [if_pos h1]
  rfl
end Mm
theorem ChgFit.rows {c : Chg} (h : ChgFit c) : okI c.t ∧ ∀ r ∈ Mm.rows c, ∀ k, okI (r.value k) := ⟨h.t, rows_okI h.k h.o0 h.o1 h.o2 h.n0 h.n1 h.n2⟩
set_option maxRecDepth 100000 in
set_option maxHeartbeats 8000000 in
theorem rows_walk (A : Option Addr) (n cap : Nat) (cs : List Chg) (t0 k0 : Int) (w : World) (hn : n ≤ cap) (hcap : cap ≤ maxLen) (hl : cs.length = n) (hc : ChgsAt w A cs) (hf : ∀ c ∈ cs, ChgFit c) (ht0 : okI t0) (hk0 : okI k0) :
    Calls Tryz.prog 6 #[.slice A n cap, .int .i64 t0, .int .i64 k0] w fun e w' => e = .returned (.bool true) ∧ Below w.heap.size w w' := by
  have hb63 : cap < 9223372036854775808 := by simp only [maxLen] at hcap; omega
  have HT := Lib.hid (Mm.pick_lt t0 (n := 4) (by decide))
  have HK := Lib.hid (Mm.pick_lt k0 (n := 12) (by decide))
  have PT := Lib.hid (fun W => mpick_any t0 4 W ht0 (by decide) (by decide))
  have PK := Lib.hid (fun W => mpick_any k0 12 W hk0 (by decide) (by decide))
  obtain ⟨t, EQT⟩ : ∃ t, Hid (Mm.pick t0 4 = t) := ⟨_, Lib.hid rfl⟩
  obtain ⟨k, EQK⟩ : ∃ t, Hid (Mm.pick k0 12 = t) := ⟨_, Lib.hid rfl⟩
  rw [EQT.out] at HT PT
  rw [EQK.out] at HK PK
  have HL := Lib.hid hl
  have HC := Lib.hid hc
  have HF := Lib.hid hf
  clear hl hc hf ht0 hk0
  go_enter Tryz.func6, Tryz.ntmps6
  go_wp2_with fail
  refine (msane_any _).mono ?_
  rintro e wa ⟨rfl, fa⟩
  have FA := Lib.hid fa
  clear fa
  go_wp2_with fail
  refine (mnew_any _).mono ?_
  rintro e w1 ⟨rfl, hix, f1⟩
  have HIX := Lib.hid hix
  have F1 := Lib.hid (FA.out.trans f1)
  have HBM : Hid (w.heap.size ≤ wa.heap.size + 1 ∧ w.heap.size ≤ wa.heap.size) := Lib.hid (by have := FA.out.size; omega)
  clear hix f1
  generalize wa.heap.size + 1 = b at *
  generalize wa.heap.size = m at *
  have hbk : 0 ≤ k ∧ k < 12 := HK.out
  go_wp2_with (first
    | (go_at_call 13; first | ((with_reducible refine (PT.out _).mono ?_); rintro e w' ⟨rfl, rfl⟩) | ((with_reducible refine (PK.out _).mono ?_); rintro e w' ⟨rfl, rfl⟩)))
  obtain ⟨kk, hkk⟩ : ∃ x : Int, 1 + k = x := ⟨_, rfl⟩
  have HKK : Hid (1 ≤ kk ∧ kk ≤ 12) := Lib.hid (by omega)
  have HTB : Hid (0 ≤ t ∧ t ≤ 3) := Lib.hid (by have := HT.out; omega)
  rw [hkk]
  clear hkk hbk
  have FU : Hid (FuAt w (w1.alloc (.cells #[.int .i64 1, .int .i64 t, .int .i64 0, .int .i64 kk, .int .i64 kk, .int .i64 0, .int .i64 0] 35)) b m w1.heap.size [] (Mm.rq t kk)) := Lib.hid ⟨HIX.out.fr0 ((Fr.refl [] w1).alloc _), QAt.new w1 (Mm.rq t kk), F1.out.alloc _, HBM.out⟩
  obtain ⟨a1, a2⟩ := Mm.add_one (Mm.rq t kk) (Mm.rq_valid HTB.out HKK.out)
  refine (FU.out.add (-7) (okI_mk (by decide) (by decide)) (Mm.rq t kk) a1 a2).mono ?_
  rintro e w2 ⟨rfl, hfu⟩
  have FU2 := Lib.hid hfu
  clear hfu FU a1 a2 HIX F1 PT PK
  generalize w1.heap.size = g at *
  go_upto_region 6 with (fail)
  obtain ⟨mN, hmN⟩ : ∃ m : Nat, (min (n : Int) 8).toNat = m := ⟨_, rfl⟩
  have hm1 : mN ≤ 8 ∧ mN ≤ n := by omega
  rw [hmN]
  clear hmN
  obtain ⟨c8, hc8⟩ : ∃ c8, c8 = cs.take mN := ⟨_, rfl⟩
  have HN8 : Hid (mN = c8.length) := Lib.hid (by rw [hc8, List.length_take, HL.out]; omega)
  have HCF : Hid (∀ c ∈ c8, ChgFit c) := Lib.hid (fun c hc => HF.out c (by rw [hc8] at hc; exact (List.take_sublist _ _).subset hc))
  have HC8 : Hid (ChgsAt w A c8) := Lib.hid (fun hl => by
    obtain ⟨b3, off3, h1, h2, h3⟩ := HC.out (by rw [HL.out]; rw [← HN8.out] at hl; omega)
    refine ⟨b3, off3, h1, h2, fun i hi j hj => ?_⟩
    have hi2 : i < cs.length := by rw [HL.out]; rw [← HN8.out] at hi; omega
    rw [h3 i hi2 j hj]
    simp only [hc8, List.getElem_take])
  have hm8 : mN ≤ 8 := hm1.1
  have HR := Lib.hid (Blk.new w2 26 #[.int .i64 0, .slice A mN cap])
  replace FU2 := Lib.hid (FU2.out.fr0 ((Fr.refl [] w2).alloc (.cells #[.int .i64 0, .slice A mN cap] 26)))
  clear hm1 hc8 HC HF HL FA
  generalize w2.alloc (.cells #[.int .i64 0, .slice A mN cap] 26) = w3 at *
  generalize w2.heap.size = gr at *
  go_wp2_with fail
  go_loopw [12, 13] (fun x i wr => ∃ (z : Nat) (tb : Bool), x = .bool tb ∧ i = .int .i64 z ∧ z ≤ mN ∧ Hid (tb = (c8.take z).any (Pm.touches (Mm.rq t kk))) ∧ Hid (Fr [] w3 wr)) (fun _ i _ => mN - (intOf i).toNat)
  case atStart => exact ⟨0, false, rfl, rfl, Nat.zero_le _, Lib.hid (by simp), Lib.hid (Fr.refl _ _)⟩
  case round =>
    obtain ⟨i, tb, rfl, rfl, hi, HTA, FI⟩ := hrel
    have hr1 : wr.cell? ⟨gr, 1, none⟩ = some (.slice A mN cap) := (HR.out.fr FI.out (by simp)).cell 1
    by_cases hlt : i < mN
    · have hil : i < c8.length := by rw [← HN8.out]; exact hlt
      obtain ⟨b3, off3, hA3, hb3, hc3⟩ := (ChgsAt.fr HC8.out (FU2.out.fr.trans FI.out) (by simp)) (by omega)
      subst hA3
      have HAN := Lib.hid (any_succ8 (Pm.touches (Mm.rq t kk)) hil)
      rw [← HTA.out, Mm.touch_row HTB.out HKK.out] at HAN
      obtain ⟨c, hc⟩ : ∃ c, c = c8[i] := ⟨_, rfl⟩
      rw [← hc] at HAN
      have y0 : wr.cell? ⟨b3, off3 + i * 10, none⟩ = some (.int .i64 c.t) := by rw [hc]; exact hc3 i hil 0 (by decide)
      have y1 : wr.cell? ⟨b3, off3 + i * 10 + 1, none⟩ = some (.int .i64 c.k) := by rw [hc]; exact hc3 i hil 1 (by decide)
      have y2 : wr.cell? ⟨b3, off3 + i * 10 + 2, none⟩ = some (.bool c.had) := by rw [hc]; exact hc3 i hil 2 (by decide)
      have y3 : wr.cell? ⟨b3, off3 + i * 10 + 3, none⟩ = some (.int .i64 c.o0) := by rw [hc]; exact hc3 i hil 3 (by decide)
      have y4 : wr.cell? ⟨b3, off3 + i * 10 + 4, none⟩ = some (.int .i64 c.o1) := by rw [hc]; exact hc3 i hil 4 (by decide)
      have y5 : wr.cell? ⟨b3, off3 + i * 10 + 5, none⟩ = some (.int .i64 c.o2) := by rw [hc]; exact hc3 i hil 5 (by decide)
      have y6 : wr.cell? ⟨b3, off3 + i * 10 + 6, none⟩ = some (.bool c.has) := by rw [hc]; exact hc3 i hil 6 (by decide)
      have y7 : wr.cell? ⟨b3, off3 + i * 10 + 7, none⟩ = some (.int .i64 c.n0) := by rw [hc]; exact hc3 i hil 7 (by decide)
      have y8 : wr.cell? ⟨b3, off3 + i * 10 + 8, none⟩ = some (.int .i64 c.n1) := by rw [hc]; exact hc3 i hil 8 (by decide)
      have y9 : wr.cell? ⟨b3, off3 + i * 10 + 9, none⟩ = some (.int .i64 c.n2) := by rw [hc]; exact hc3 i hil 9 (by decide)
      have HVC := Lib.hid (fun W => validChange_any c W)
      obtain ⟨vc, HVB⟩ : ∃ x, Hid (Rw.chg c = x) := ⟨_, Lib.hid rfl⟩
      rw [HVB.out] at HVC HAN
      have FX : Fr [] wr (wr.alloc (.cells #[.int .i64 c.t, .int .i64 c.k, .bool c.had, .int .i64 c.o0, .int .i64 c.o1, .int .i64 c.o2, .bool c.has, .int .i64 c.n0, .int .i64 c.n1, .int .i64 c.n2] 59)) := (Fr.refl _ _).alloc _
      have BX := Lib.hid (Blk.new wr 59 #[.int .i64 c.t, .int .i64 c.k, .bool c.had, .int .i64 c.o0, .int .i64 c.o1, .int .i64 c.o2, .bool c.has, .int .i64 c.n0, .int .i64 c.n1, .int .i64 c.n2])
      have FI2 := Lib.hid (FI.out.trans FX)
      clear hc3 hc FX
      go_upto_region 11 with (fail)
      clear y0 y1 y2 y3 y4 y5 y6 y7 y8 y9 hr1
      generalize wr.alloc (.cells #[.int .i64 c.t, .int .i64 c.k, .bool c.had, .int .i64 c.o0, .int .i64 c.o1, .int .i64 c.o2, .bool c.has, .int .i64 c.n0, .int .i64 c.n1, .int .i64 c.n2] 59) = w4 at *
      generalize wr.heap.size = gx at *
      cases tb
      · have bx := BX.out
        have x0 := bx.cell 0
        have x1 := bx.cell 1
        have x2 := bx.cell 2
        have x3 := bx.cell 3
        have x4 := bx.cell 4
        have x5 := bx.cell 5
        have x6 := bx.cell 6
        have x7 := bx.cell 7
        have x8 := bx.cell 8
        have x9 := bx.cell 9
        simp only [List.getElem?_toArray, List.getElem?_cons_zero, List.getElem?_cons_succ] at x0 x1 x2 x3 x4 x5 x6 x7 x8 x9
        clear bx
        go_wp2_with fail
        refine (HVC.out _).mono ?_
        rintro e w5 ⟨rfl, f5⟩
        have bx := BX.out.fr f5 (by simp)
        have z0 := bx.cell 0
        have z1 := bx.cell 1
        have FI5 := Lib.hid (FI2.out.trans f5)
        have h5 := FU2.out.fr0 FI5.out
        have q1 := h5.box.c1
        have q3 := h5.box.c3
        simp only [List.getElem?_toArray, List.getElem?_cons_zero, List.getElem?_cons_succ] at z0 z1
        dsimp only [Mm.rq] at q1 q3
        clear bx f5 h5 x0 x1 x2 x3 x4 x5 x6 x7 x8 x9
        cases vc
        · go_wp2_with fail
          go_roundw
          case rel => exact ⟨i + 1, false, rfl, by go_num, by omega, Lib.hid (by rw [HAN.out]; rfl), FI5⟩
          case measure => simp [intOf]; omega
        · by_cases ht : c.t = t
          · by_cases hk : c.k = kk
            · rw [decide_eq_true ht, decide_eq_true hk] at HAN
              have ht' : (c.t == t) = true := by simpa using ht
              have hk' : (c.k == kk) = true := by simpa using hk
              clear ht hk
              go_wp2_with fail
              go_roundw
              case rel => exact ⟨i + 1, true, rfl, by go_num, by omega, Lib.hid (by rw [HAN.out]; rfl), FI5⟩
              case measure => simp [intOf]; omega
            · rw [decide_eq_false hk] at HAN
              have ht' : (c.t == t) = true := by simpa using ht
              have hk' : (c.k == kk) = false := by simpa using hk
              clear ht hk
              go_wp2_with fail
              go_roundw
              case rel => exact ⟨i + 1, false, rfl, by go_num, by omega, Lib.hid (by rw [HAN.out]; simp), FI5⟩
              case measure => simp [intOf]; omega
          · rw [decide_eq_false ht] at HAN
            have ht' : (c.t == t) = false := by simpa using ht
            clear ht
            go_wp2_with fail
            go_roundw
            case rel => exact ⟨i + 1, false, rfl, by go_num, by omega, Lib.hid (by rw [HAN.out]; simp), FI5⟩
            case measure => simp [intOf]; omega
      · go_wp2_with fail
        go_roundw
        case rel => exact ⟨i + 1, true, rfl, by go_num, by omega, Lib.hid (by rw [HAN.out]; rfl), FI2⟩
        case measure => simp [intOf]; omega
    · obtain rfl : i = mN := by omega
      have hci : c8.take i = c8 := List.take_of_length_le (by rw [← HN8.out]; exact Nat.le_refl _)
      rw [hci] at HTA
      clear hci
      have FU3 := Lib.hid (FU2.out.fr0 FI.out)
      have hr0 : wr.cell? ⟨gr, 0, none⟩ = some (.int .i64 0) := (HR.out.fr FI.out (by simp)).cell 0
      have HM := Lib.hid (mmatch_far b m _ [b, m] 0 A i cap c8 wr FU3.out.ix (fun x hx => by
        have h1 := FU3.out.ix.lt
        simp only [List.mem_cons, List.not_mem_nil, or_false] at hx
        omega) ⟨ChgsAt.fr HC8.out FU3.out.fr (by simp), fun hl ad e hm => by
        obtain ⟨b3, off3, h1, h2, -⟩ := HC8.out hl
        rw [h1] at e
        injection e with e
        subst e
        have h4 := FU3.out.new.1
        have h5 : b3 = b := by simpa using hm
        omega⟩ HN8.out (by omega) (fun c hc => (HCF.out c hc).rows))
      go_wp2_with fail
      refine HM.out.mono ?_
      rintro e w6 ⟨v, L, rfl, hol, hhit, D', hi', hf6, -⟩
      have HHIT := Lib.hid (Mm.row_hit hhit)
      obtain ⟨Ao, no, co, hv⟩ : ∃ A n c, v = .slice A n c := (match hol.val with | ⟨_, _, hv⟩ => ⟨_, _, _, hv⟩)
      subst hv
      have HOL := Lib.hid (hol.at1 encJ_len)
      have HBX : Hid (QAt w6 g (Mm.rq t kk)) := Lib.hid (FU3.out.box.fr hf6 (by
        obtain ⟨lp, hb, -⟩ := FU3.out.ix.blk
        have e1 : g ≠ b := Blk.ne FU3.out.box hb (by decide)
        simpa using e1))
      have F6 : Hid (Fr [] w w6) := Lib.hid (FU3.out.fr.trans' hf6 (fun x hx => .inr (by
        obtain rfl : x = b := by simpa using hx
        exact FU3.out.new.1)))
      have q0 := HBX.out.c0
      have q1 := HBX.out.c1
      have q2 := HBX.out.c2
      have q3 := HBX.out.c3
      have q4 := HBX.out.c4
      have q5 := HBX.out.c5
      have q6 := HBX.out.c6
      dsimp only [Mm.rq] at q0 q1 q2 q3 q4 q5 q6
      have HQV := Lib.hid (fun W => qvalid_any (Mm.rq t kk) W)
      rw [Mm.rq_valid HTB.out HKK.out] at HQV
      clear HM hol hhit hr0 hr1 hi' hf6
      cases tb
      · have hL := HHIT.out.2 HTA.out.symm
        have h2 := HOL.out.2
        rw [hL] at h2
        obtain rfl : no = 0 := h2
        clear hL
        go_wp2_with fail
        refine (HQV.out _).mono ?_
        rintro e w7 ⟨rfl, f7⟩
        have F7 := Lib.hid (F6.out.trans f7)
        clear f7
        go_wp2_with fail
        go_ret
        exact ⟨rfl, F7.out.below⟩
      · have hL := HHIT.out.1 HTA.out.symm
        have h2 := HOL.out.2
        rw [hL] at h2
        obtain rfl : no = 1 := h2
        obtain ⟨bo, oo, hAo, -, hco⟩ := HOL.out.1.int (i := 0) (by rw [hL]; decide)
        subst hAo
        have hL0 : L[0]'(by rw [hL]; decide) = -7 := by simp only [hL, List.getElem_cons_zero]
        rw [hL0] at hco
        simp only [Nat.add_zero] at hco
        clear hL0 hL
        go_wp2_with fail
        refine (HQV.out _).mono ?_
        rintro e w7 ⟨rfl, f7⟩
        have F7 := Lib.hid (F6.out.trans f7)
        clear f7
        go_wp2_with fail
        go_ret
        exact ⟨rfl, F7.out.below⟩
end Go.Proofs.YtciaallekkdnhaaGreat

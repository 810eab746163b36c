/-
  The reference's Of.
-/
import Derived.Test.YtjiikpmkedkbkaaHg
import Derived.Test.YtjiikpmkedkbkaaHd
import Derived.Test.YtjiikpmkedkbkaaHc
namespace Go.Proofs.Ytjiikpmkedkbkaa
open Go.RowKit

set_option maxRecDepth 100000 in
set_option maxHeartbeats 8000000 in
theorem rfrom_any (q : Qry) (A : Option Addr) (n cap : Nat) (rows : List RowV) (B : Option Addr) (m capB : Nat) (others : List RowV) (w : World) (hx : RowsAt w A rows) (hn : n = rows.length) (hl : n ≤ 4000) (hy : RowsAt w B others) (hm : m = others.length) (hlm : m ≤ 4000)
    (hb : Em.valid q = true → 4 ≤ q.kind → ∀ r ∈ rows, -1000000000000 ≤ r.value q.by_ ∧ r.value q.by_ ≤ 1000000000000) :
    Calls Try.prog 40 #[q.val, .slice A n cap, .slice B m capB] w fun e w' => ∃ v, e = .returned (.agg #[v, .int .i64 (Em.res q rows others).value, .bool (Em.res q rows others).found]) ∧ ResO w w' v (Em.res q rows others).rows := by
  have HX := Lib.hid hx
  have HN := Lib.hid hn
  have HY := Lib.hid hy
  have HM := Lib.hid hm
  have HB := Lib.hid hb
  clear hx hn hy hm hb
  have R0 := Lib.hid (RefFr.start w q)
  obtain ⟨qk, qt, qc, ql, qh, qb, qo⟩ := q
  unfold Qry.val
  dsimp only at *
  obtain ⟨i0, TR⟩ := etRow
  go_enter Try.func40, Try.ntmps40
  go_upto_region 2 with (fail)
  generalize ((w.alloc (.cells #[.int .i64 qk, .int .i64 qt, .int .i64 qc, .int .i64 ql, .int .i64 qh, .int .i64 qb, .int .i64 qo] 24)).alloc (.cells #[.slice none 0 0, .int .i64 0, .bool false] 27)).alloc (.cells #[.slice none 0 0, .int .i64 0, .bool false] 27) = w2 at *
  have c0 : w2.cell? ⟨w.heap.size, 0, none⟩ = some (.int .i64 qk) := R0.out.box.c0
  have c1 : w2.cell? ⟨w.heap.size, 1, none⟩ = some (.int .i64 qt) := R0.out.box.c1
  have c2 : w2.cell? ⟨w.heap.size, 2, none⟩ = some (.int .i64 qc) := R0.out.box.c2
  have c3 : w2.cell? ⟨w.heap.size, 3, none⟩ = some (.int .i64 ql) := R0.out.box.c3
  have c4 : w2.cell? ⟨w.heap.size, 4, none⟩ = some (.int .i64 qh) := R0.out.box.c4
  have c5 : w2.cell? ⟨w.heap.size, 5, none⟩ = some (.int .i64 qb) := R0.out.box.c5
  have c6 : w2.cell? ⟨w.heap.size, 6, none⟩ = some (.int .i64 qo) := R0.out.box.c6
  have HQV := Lib.hid (rvalid_any ⟨qk, qt, qc, ql, qh, qb, qo⟩ w2)
  cases hv : Em.valid ⟨qk, qt, qc, ql, qh, qb, qo⟩
  · rw [hv] at HQV
    go_upto_region 3 with (go_at_call 25; refine HQV.out.mono ?_; rintro e w3 ⟨rfl, f3⟩; have R3 := Lib.hid (R0.out.fr0 f3); clear f3)
    clear HQV R0 c0 c1 c2 c3 c4 c5 c6
    have z0 := R3.out.res.z 0
    have z1 := R3.out.res.z 1
    have z2 := R3.out.res.z 2
    have y0 := R3.out.res.c0
    have y1 := R3.out.res.c1
    have y2 := R3.out.res.c2
    have x0 : w3.cell? ⟨w.heap.size + 1 + 1, 0, none⟩ = some (.slice none 0 0) := R3.out.out.c0
    have x1 : w3.cell? ⟨w.heap.size + 1 + 1, 1, none⟩ = some (.int .i64 0) := R3.out.out.c1
    have x2 : w3.cell? ⟨w.heap.size + 1 + 1, 2, none⟩ = some (.bool false) := R3.out.out.c2
    go_wp2_with fail
    obtain ⟨w4, e4, q0, q1, q2, hro⟩ := R3.out.fin
    unfold Em.zero at e4 q1 q2 hro
    dsimp only at e4 q1 q2 hro
    rw [e4]
    exact bodyPost_ret (v := .agg #[.slice none 0 0, .int .i64 0, .bool false]) (by simp [results, Try.results40, go_sem, q0, q1, q2]) rfl ⟨_, by rw [Em.res_bad hv], by rw [Em.res_bad hv]; exact hro⟩
  rw [hv] at HQV
  have HVV := Lib.hid hv
  have HRS := Lib.hid (Em.rstep_res hv rows others)
  have hkk : 1 ≤ qk ∧ qk ≤ 7 := by
    by_cases h : 1 ≤ qk ∧ qk ≤ 7
    · exact h
    · exfalso
      unfold Em.valid at hv
      dsimp only at hv
      rw [if_neg (by omega), if_neg (by omega), if_neg (by omega), if_neg (by omega)] at hv
      cases hv
  clear hv
  go_upto_region 4 with (go_at_call 25; refine HQV.out.mono ?_; rintro e w3 ⟨rfl, f3⟩; have R3 := Lib.hid (R0.out.fr0 f3); clear f3)
  clear HQV R0 c0 c1 c2 c3 c4 c5 c6
  go_wp2_with fail
  go_loopw [8] (fun i wr => ∃ (k : Nat) (A1 : Option Addr) (n1 k1 : Nat) (rr : List RowV) (v : Int) (f : Bool), k ≤ n ∧ i = .int .i64 k ∧ (-(1000000000000 * ((k : Int) + 1)) ≤ v ∧ v ≤ 1000000000000 * ((k : Int) + 1)) ∧ Hid (rr.length ≤ 2 * k) ∧ Hid ((rows.take k).foldl (Em.rstep ⟨qk, qt, qc, ql, qh, qb, qo⟩ others) Em.zero = ⟨rr, v, f⟩) ∧ Hid (RefFr w wr ⟨qk, qt, qc, ql, qh, qb, qo⟩ A1 n1 k1 ⟨rr, v, f⟩)) (fun i _ => n - (intOf i).toNat)
  case atStart => exact ⟨0, none, 0, 0, [], 0, false, Nat.zero_le _, rfl, ⟨by omega, by omega⟩, Lib.hid (Nat.le_refl _), Lib.hid rfl, R3⟩
  case round =>
    clear R3
    obtain ⟨k, A1, n1, k1, rr, v, f, hk, rfl, hvb, HRL, HF, R⟩ := hrel
    by_cases hlt : k < n
    · obtain ⟨ba, oa, hA, hbl, hca⟩ := (HX.out.fr R.out.fr (by simp)) (by rw [← HN.out]; omega)
      subst hA
      have hkR : k < rows.length := by rw [← HN.out]; exact hlt
      have HS : Hid ((rows.take (k + 1)).foldl (Em.rstep ⟨qk, qt, qc, ql, qh, qb, qo⟩ others) Em.zero = Em.rstep ⟨qk, qt, qc, ql, qh, qb, qo⟩ others ⟨rr, v, f⟩ rows[k]) := Lib.hid (by rw [List.take_succ_eq_append_getElem hkR, List.foldl_append, HF.out]; rfl)
      have hyb := fun (h4 : 4 ≤ qk) => HB.out HVV.out h4 _ (List.getElem_mem hkR)
      have hr0 := hca k hkR 0 (by decide)
      have hr1 := hca k hkR 1 (by decide)
      have hr2 := hca k hkR 2 (by decide)
      have hr3 := hca k hkR 3 (by decide)
      have hr4 := hca k hkR 4 (by decide)
      generalize rows[k] = r at *
      obtain ⟨rt, rk, rx, ry, rz⟩ := r
      obtain ⟨y, hy⟩ : ∃ y, RowV.value ⟨rt, rk, rx, ry, rz⟩ qb = y := ⟨_, rfl⟩
      have HV := Lib.hid (fun W => rfValue_any ⟨rt, rk, rx, ry, rz⟩ qb W)
      rw [hy] at HV hyb
      have HYY := Lib.hid hy
      have HYB := Lib.hid hyb
      have l1 : ∀ p : Later wr, p.w.cell? ⟨ba, oa + k * 5, none⟩ = some (.int .i64 rt) := fun p => p.cell hbl hr0
      have l2 : ∀ p : Later wr, p.w.cell? ⟨ba, oa + k * 5 + 1, none⟩ = some (.int .i64 rk) := fun p => p.cell hbl hr1
      have l3 : ∀ p : Later wr, p.w.cell? ⟨ba, oa + k * 5 + 2, none⟩ = some (.int .i64 rx) := fun p => p.cell hbl hr2
      have l4 : ∀ p : Later wr, p.w.cell? ⟨ba, oa + k * 5 + 3, none⟩ = some (.int .i64 ry) := fun p => p.cell hbl hr3
      have l5 : ∀ p : Later wr, p.w.cell? ⟨ba, oa + k * 5 + 4, none⟩ = some (.int .i64 rz) := fun p => p.cell hbl hr4
      have l6 : ∀ p : Later wr, p.w.cell? ⟨w.heap.size, 5, none⟩ = some (.int .i64 qb) := fun p => p.cell (Blk.lt R.out.box) R.out.box.c5
      have HR0 := Lib.hid (And.intro hr0 (And.intro hr1 (And.intro hr2 (And.intro hr3 hr4))))
      have HBL := Lib.hid hbl
      clear hr0 hr1 hr2 hr3 hr4 hca hbl hy hyb
      go_upto_region 7 with (fail)
      refine wp_region_later (by kernel_rfl) (by kernel_rfl) ?_
      repeat (go_big_quiet_step (exact Later.calls (HV.out _)))
      refine wpQuiet_nil ?_
      rintro wq ⟨p, hp⟩
      have fq : Fr [] wr wq := hp ▸ p.fr
      clear hp p l1 l2 l3 l4 l5 l6
      have RQ := Lib.hid (R.out.fr0 fq)
      have d0 : wq.cell? ⟨ba, oa + k * 5, none⟩ = some (.int .i64 rt) := (fq.rules.1 ba _ HBL.out).trans HR0.out.1
      have d1 : wq.cell? ⟨ba, oa + k * 5 + 1, none⟩ = some (.int .i64 rk) := (fq.rules.1 ba _ HBL.out).trans HR0.out.2.1
      have d2 : wq.cell? ⟨ba, oa + k * 5 + 2, none⟩ = some (.int .i64 rx) := (fq.rules.1 ba _ HBL.out).trans HR0.out.2.2.1
      have d3 : wq.cell? ⟨ba, oa + k * 5 + 3, none⟩ = some (.int .i64 ry) := (fq.rules.1 ba _ HBL.out).trans HR0.out.2.2.2.1
      have d4 : wq.cell? ⟨ba, oa + k * 5 + 4, none⟩ = some (.int .i64 rz) := (fq.rules.1 ba _ HBL.out).trans HR0.out.2.2.2.2
      have HBQ := Lib.hid (Nat.lt_of_lt_of_le HBL.out fq.size)
      have HYQ := Lib.hid (HY.out.fr (R.out.fr.trans fq) (by simp))
      clear fq R HV HR0 HBL HF
      have c0 : wq.cell? ⟨w.heap.size, 0, none⟩ = some (.int .i64 qk) := RQ.out.box.c0
      have c6 : wq.cell? ⟨w.heap.size, 6, none⟩ = some (.int .i64 qo) := RQ.out.box.c6
      have y0 : wq.cell? ⟨w.heap.size + 1 + 1, 0, none⟩ = some (.slice A1 n1 k1) := RQ.out.out.c0
      have y1 : wq.cell? ⟨w.heap.size + 1 + 1, 1, none⟩ = some (.int .i64 v) := RQ.out.out.c1
      have y2 : wq.cell? ⟨w.heap.size + 1 + 1, 2, none⟩ = some (.bool f) := RQ.out.out.c2
      have z0 := RQ.out.out.z 0
      have z1 := RQ.out.out.z 1
      have z2 := RQ.out.out.z 2
      by_cases h3 : qk = 3
      · subst h3
        have HE : Hid (Em.rstep ⟨3, qt, qc, ql, qh, qb, qo⟩ others ⟨rr, v, f⟩ ⟨rt, rk, rx, ry, rz⟩ = ⟨rr, v + 1, f⟩) := Lib.hid rfl
        have RE := Lib.hid (RQ.out.setv (v + 1))
        go_wp2_with fail
        go_roundw
        case rel => exact ⟨k + 1, A1, n1, k1, rr, v + 1, f, by omega, by go_num, ⟨by omega, by omega⟩, Lib.hid (by have := HRL.out; omega), Lib.hid (by rw [HS.out, HE.out]), RE⟩
        case measure => simp [intOf]; omega
      by_cases h4 : qk = 4
      · subst h4
        have hyb := HYB.out (by omega)
        have HE : Hid (Em.rstep ⟨4, qt, qc, ql, qh, qb, qo⟩ others ⟨rr, v, f⟩ ⟨rt, rk, rx, ry, rz⟩ = ⟨rr, v + y, f⟩) := Lib.hid (by rw [← HYY.out]; rfl)
        have RE := Lib.hid (RQ.out.setv (v + y))
        go_wp2_with fail
        go_roundw
        case rel => exact ⟨k + 1, A1, n1, k1, rr, v + y, f, by omega, by go_num, ⟨by omega, by omega⟩, Lib.hid (by have := HRL.out; omega), Lib.hid (by rw [HS.out, HE.out]), RE⟩
        case measure => simp [intOf]; omega

      by_cases h5 : qk = 5
      · subst h5
        have hyb := HYB.out (by omega)
        cases hf : f
        · subst hf
          have HE : Hid (Em.rstep ⟨5, qt, qc, ql, qh, qb, qo⟩ others ⟨rr, v, false⟩ ⟨rt, rk, rx, ry, rz⟩ = ⟨rr, y, true⟩) := Lib.hid (by rw [← HYY.out]; rfl)
          have RE := Lib.hid ((RQ.out.setv y).setf true)
          go_wp2_with fail
          go_roundw
          case rel => exact ⟨k + 1, A1, n1, k1, rr, y, true, by omega, by go_num, ⟨by omega, by omega⟩, Lib.hid (by have := HRL.out; omega), Lib.hid (by rw [HS.out, HE.out]), RE⟩
          case measure => simp [intOf]; omega
        · subst hf
          by_cases hlv : y < v
          · have elv : decide (y < v) = true := by simp [hlv]
            have HE : Hid (Em.rstep ⟨5, qt, qc, ql, qh, qb, qo⟩ others ⟨rr, v, true⟩ ⟨rt, rk, rx, ry, rz⟩ = ⟨rr, y, true⟩) := Lib.hid (by
              unfold Em.rstep
              dsimp only
              rw [HYY.out]
              simp [Em.least, Em.most, hlv])
            have RE := Lib.hid ((RQ.out.setv y).setf true)
            go_wp2_with fail
            go_roundw
            case rel => exact ⟨k + 1, A1, n1, k1, rr, y, true, by omega, by go_num, ⟨by omega, by omega⟩, Lib.hid (by have := HRL.out; omega), Lib.hid (by rw [HS.out, HE.out]), RE⟩
            case measure => simp [intOf]; omega
          · have elv : decide (y < v) = false := by simp [hlv]
            have HE : Hid (Em.rstep ⟨5, qt, qc, ql, qh, qb, qo⟩ others ⟨rr, v, true⟩ ⟨rt, rk, rx, ry, rz⟩ = ⟨rr, v, true⟩) := Lib.hid (by
              unfold Em.rstep
              dsimp only
              rw [HYY.out]
              simp [Em.least, Em.most, hlv])
            have RE := Lib.hid (RQ.out.setf true)
            go_wp2_with fail
            go_roundw
            case rel => exact ⟨k + 1, A1, n1, k1, rr, v, true, by omega, by go_num, ⟨by omega, by omega⟩, Lib.hid (by have := HRL.out; omega), Lib.hid (by rw [HS.out, HE.out]), RE⟩
            case measure => simp [intOf]; omega

      by_cases h6 : qk = 6
      · subst h6
        have hyb := HYB.out (by omega)
        cases hf : f
        · subst hf
          have HE : Hid (Em.rstep ⟨6, qt, qc, ql, qh, qb, qo⟩ others ⟨rr, v, false⟩ ⟨rt, rk, rx, ry, rz⟩ = ⟨rr, y, true⟩) := Lib.hid (by rw [← HYY.out]; rfl)
          have RE := Lib.hid ((RQ.out.setv y).setf true)
          go_wp2_with fail
          go_roundw
          case rel => exact ⟨k + 1, A1, n1, k1, rr, y, true, by omega, by go_num, ⟨by omega, by omega⟩, Lib.hid (by have := HRL.out; omega), Lib.hid (by rw [HS.out, HE.out]), RE⟩
          case measure => simp [intOf]; omega
        · subst hf
          by_cases hlv : v < y
          · have elv : decide (v < y) = true := by simp [hlv]
            have HE : Hid (Em.rstep ⟨6, qt, qc, ql, qh, qb, qo⟩ others ⟨rr, v, true⟩ ⟨rt, rk, rx, ry, rz⟩ = ⟨rr, y, true⟩) := Lib.hid (by
              unfold Em.rstep
              dsimp only
              rw [HYY.out]
              simp [Em.least, Em.most, hlv])
            have RE := Lib.hid ((RQ.out.setv y).setf true)
            go_wp2_with fail
            go_roundw
            case rel => exact ⟨k + 1, A1, n1, k1, rr, y, true, by omega, by go_num, ⟨by omega, by omega⟩, Lib.hid (by have := HRL.out; omega), Lib.hid (by rw [HS.out, HE.out]), RE⟩
            case measure => simp [intOf]; omega
          · have elv : decide (v < y) = false := by simp [hlv]
            have HE : Hid (Em.rstep ⟨6, qt, qc, ql, qh, qb, qo⟩ others ⟨rr, v, true⟩ ⟨rt, rk, rx, ry, rz⟩ = ⟨rr, v, true⟩) := Lib.hid (by
              unfold Em.rstep
              dsimp only
              rw [HYY.out]
              simp [Em.least, Em.most, hlv])
            have RE := Lib.hid (RQ.out.setf true)
            go_wp2_with fail
            go_roundw
            case rel => exact ⟨k + 1, A1, n1, k1, rr, v, true, by omega, by go_num, ⟨by omega, by omega⟩, Lib.hid (by have := HRL.out; omega), Lib.hid (by rw [HS.out, HE.out]), RE⟩
            case measure => simp [intOf]; omega

      by_cases h7 : qk = 7
      · subst h7
        have HPA := Lib.hid (rpartner_any B m capB others qo y wq HYQ.out HM.out hlm)
        cases hpa : Em.partner others qo y with
        | none =>
          rw [hpa] at HPA
          have HP : Hid (Em.rstep ⟨7, qt, qc, ql, qh, qb, qo⟩ others ⟨rr, v, f⟩ ⟨rt, rk, rx, ry, rz⟩ = ⟨rr, v, f⟩) := Lib.hid (by
            unfold Em.rstep Em.pair
            dsimp only
            rw [HYY.out, hpa]
            simp)
          clear hpa
          go_wp2_with (go_at_call 69; refine HPA.out.mono ?_; rintro e wp ⟨rfl, fp⟩; have RX := Lib.hid ((RQ.out.fr0 fp).fr0 ((Fr.refl [] wp).alloc (.cells #[.int .i64 0, .int .i64 0, .int .i64 0, .int .i64 0, .int .i64 0] 57))); clear fp)
          go_roundw
          case rel => exact ⟨k + 1, A1, n1, k1, rr, v, f, by omega, by go_num, ⟨by omega, by omega⟩, Lib.hid (by have := HRL.out; omega), Lib.hid (by rw [HS.out, HP.out]), RX⟩
          case measure => simp [intOf]; omega
        | some x =>
          obtain ⟨xt, xk, xx, xy, xz⟩ := x
          rw [hpa] at HPA
          have HP : Hid (Em.rstep ⟨7, qt, qc, ql, qh, qb, qo⟩ others ⟨rr, v, f⟩ ⟨rt, rk, rx, ry, rz⟩ = ⟨rr ++ [⟨rt, rk, rx, ry, rz⟩, ⟨xt, xk, xx, xy, xz⟩], v, f⟩) := Lib.hid (by
            unfold Em.rstep Em.pair
            dsimp only
            rw [HYY.out, hpa]
            rfl)
          clear hpa
          have HD := Lib.hid (And.intro d0 (And.intro d1 (And.intro d2 (And.intro d3 d4))))
          clear d0 d1 d2 d3 d4
          go_upto_region 26 with (go_at_call 69; refine HPA.out.mono ?_; rintro e wp ⟨rfl, fp⟩; have FP := Lib.hid fp; clear fp)
          have FX := FP.out.alloc (.cells #[.int .i64 xt, .int .i64 xk, .int .i64 xx, .int .i64 xy, .int .i64 xz] 57)
          have RX := Lib.hid (RQ.out.fr0 FX)
          have BX := Blk.new wp 57 #[.int .i64 xt, .int .i64 xk, .int .i64 xx, .int .i64 xy, .int .i64 xz]
          generalize hwx : wp.alloc (.cells #[.int .i64 xt, .int .i64 xk, .int .i64 xx, .int .i64 xy, .int .i64 xz] 57) = wx at *
          clear hwx c0 c6 y0 y1 y2 z0 z1 z2
          generalize wp.heap.size = gx at *
          have d0 : wx.cell? ⟨ba, oa + k * 5, none⟩ = some (.int .i64 rt) := (FX.rules.1 ba _ HBQ.out).trans HD.out.1
          have d1 : wx.cell? ⟨ba, oa + k * 5 + 1, none⟩ = some (.int .i64 rk) := (FX.rules.1 ba _ HBQ.out).trans HD.out.2.1
          have d2 : wx.cell? ⟨ba, oa + k * 5 + 2, none⟩ = some (.int .i64 rx) := (FX.rules.1 ba _ HBQ.out).trans HD.out.2.2.1
          have d3 : wx.cell? ⟨ba, oa + k * 5 + 3, none⟩ = some (.int .i64 ry) := (FX.rules.1 ba _ HBQ.out).trans HD.out.2.2.2.1
          have d4 : wx.cell? ⟨ba, oa + k * 5 + 4, none⟩ = some (.int .i64 rz) := (FX.rules.1 ba _ HBQ.out).trans HD.out.2.2.2.2
          have e0 : wx.cell? ⟨gx, 0, none⟩ = some (.int .i64 xt) := BX.cell 0
          have e1 : wx.cell? ⟨gx, 1, none⟩ = some (.int .i64 xk) := BX.cell 1
          have e2 : wx.cell? ⟨gx, 2, none⟩ = some (.int .i64 xx) := BX.cell 2
          have e3 : wx.cell? ⟨gx, 3, none⟩ = some (.int .i64 xy) := BX.cell 3
          have e4 : wx.cell? ⟨gx, 4, none⟩ = some (.int .i64 xz) := BX.cell 4
          have y0 : wx.cell? ⟨w.heap.size + 1 + 1, 0, none⟩ = some (.slice A1 n1 k1) := RX.out.out.c0
          have hlx := BX.lt
          have hla := Nat.lt_of_lt_of_le HBQ.out FX.size
          clear FX BX HD
          go_upto_region 27 with (fail)
          have RN := Lib.hid (RX.out.fr0 ((Fr.refl [] wx).alloc (.cells #[.int .i64 rt, .int .i64 rk, .int .i64 rx, .int .i64 ry, .int .i64 rz, .int .i64 xt, .int .i64 xk, .int .i64 xx, .int .i64 xy, .int .i64 xz] 57)).drew)
          have hbn := Blk.new wx 57 #[.int .i64 rt, .int .i64 rk, .int .i64 rx, .int .i64 ry, .int .i64 rz, .int .i64 xt, .int .i64 xk, .int .i64 xx, .int .i64 xy, .int .i64 xz]
          have HRD := Lib.hid ((reads_of_rows (AtL.of_blk (L := [(⟨rt, rk, rx, ry, rz⟩ : RowV), ⟨xt, xk, xx, xy, xz⟩]) RowV.cells_len hbn rfl)).drew)
          have hl1 : Hid (rr.length + [(⟨rt, rk, rx, ry, rz⟩ : RowV), ⟨xt, xk, xx, xy, xz⟩].length ≤ 100000) := Lib.hid (by have := HRL.out; simp only [List.length_cons, List.length_nil]; omega)
          have hmx : Hid ((100000 : Nat) ≤ maxLen) := Lib.hid (by decide)
          clear hbn
          have hlt1 := Blk.lt RX.out.out
          go_region_law (refine step_appendL rfl _ _ rfl TR RowV.cells_len RowV.cells_one rfl RN.out.own _ _ _ _ [(⟨rt, rk, rx, ry, rz⟩ : RowV), ⟨xt, xk, xx, xy, xz⟩] rfl rfl HRD.out (Nat.le_trans hl1.out hmx.out) (Nat.le_trans (Nat.mul_le_mul_right 40 hl1.out) (by decide)) ?_; intro v5 w5 hown5 hg5 hat5; obtain ⟨A5, n5, c5, hv5⟩ : ∃ A n c, v5 = .slice A n c := (match hown5.val with | ⟨_, _, hv⟩ => ⟨_, _, _, hv⟩); subst hv5; have RM := Lib.hid (RN.out.grown hown5 hg5 hat5); have y0 := RM.out.out.c0; have z0 := RM.out.out.z 0; clear hown5 hg5 hat5)
          all_goals
            have RE := Lib.hid RM.out.done
            go_wp2_with fail
            go_roundw
            case rel => exact ⟨k + 1, A5, n5, c5, _, v, f, by omega, by go_num, ⟨by omega, by omega⟩, Lib.hid (by have := HRL.out; simp only [List.length_append, List.length_cons, List.length_nil]; omega), Lib.hid (by rw [HS.out, HP.out]), RE⟩
            case measure => simp [intOf]; omega
      · have k3 : (qk == 3) = false := by simp [h3]
        have k4 : (qk == 4) = false := by simp [h4]
        have k5 : (qk == 5) = false := by simp [h5]
        have k6 : (qk == 6) = false := by simp [h6]
        have k7 : (qk == 7) = false := by simp [h7]
        have HP : Hid (Em.rstep ⟨qk, qt, qc, ql, qh, qb, qo⟩ others ⟨rr, v, f⟩ ⟨rt, rk, rx, ry, rz⟩ = ⟨rr ++ [⟨rt, rk, rx, ry, rz⟩], v, f⟩) := Lib.hid (by
          unfold Em.rstep
          dsimp only
          rw [if_neg h3, if_neg h4, if_neg h5, if_neg h6, if_neg h7])
        have RX := RQ
        have hk12 : qk = 1 ∨ qk = 2 := by omega
        have hla := HBQ.out
        rcases hk12 with rfl | rfl
        all_goals
          go_upto_region 11 with (fail)
          have RN := Lib.hid (RX.out.fr0 ((Fr.refl [] wq).alloc (.cells #[.int .i64 rt, .int .i64 rk, .int .i64 rx, .int .i64 ry, .int .i64 rz] 57)).drew)
          have hbn := Blk.new wq 57 #[.int .i64 rt, .int .i64 rk, .int .i64 rx, .int .i64 ry, .int .i64 rz]
          have HRD := Lib.hid ((reads_of_rows (AtL.of_blk (L := [(⟨rt, rk, rx, ry, rz⟩ : RowV)]) RowV.cells_len hbn rfl)).drew)
          have hl1 : Hid (rr.length + [(⟨rt, rk, rx, ry, rz⟩ : RowV)].length ≤ 100000) := Lib.hid (by have := HRL.out; simp only [List.length_cons, List.length_nil]; omega)
          have hmx : Hid ((100000 : Nat) ≤ maxLen) := Lib.hid (by decide)
          clear hbn
          have hlt1 := Blk.lt RX.out.out
          go_region_law (refine step_appendL rfl _ _ rfl TR RowV.cells_len RowV.cells_one rfl RN.out.own _ _ _ _ [(⟨rt, rk, rx, ry, rz⟩ : RowV)] rfl rfl HRD.out (Nat.le_trans hl1.out hmx.out) (Nat.le_trans (Nat.mul_le_mul_right 40 hl1.out) (by decide)) ?_; intro v5 w5 hown5 hg5 hat5; obtain ⟨A5, n5, c5, hv5⟩ : ∃ A n c, v5 = .slice A n c := (match hown5.val with | ⟨_, _, hv⟩ => ⟨_, _, _, hv⟩); subst hv5; have RM := Lib.hid (RN.out.grown hown5 hg5 hat5); have y0 := RM.out.out.c0; have z0 := RM.out.out.z 0; clear hown5 hg5 hat5)
          all_goals
            have RE := Lib.hid RM.out.done
            go_wp2_with fail
            go_roundw
            case rel => exact ⟨k + 1, A5, n5, c5, _, v, f, by omega, by go_num, ⟨by omega, by omega⟩, Lib.hid (by have := HRL.out; simp only [List.length_append, List.length_cons, List.length_nil]; omega), Lib.hid (by rw [HS.out, HP.out]), RE⟩
            case measure => simp [intOf]; omega
    · obtain rfl : k = n := by omega
      have hfin : Em.res ⟨qk, qt, qc, ql, qh, qb, qo⟩ rows others = ⟨rr, v, f⟩ := by
        have h := HF.out
        rw [HN.out, List.take_length, HRS.out] at h
        exact h
      have HFIN := Lib.hid hfin
      clear hfin
      have z0 := R.out.res.z 0
      have z1 := R.out.res.z 1
      have z2 := R.out.res.z 2
      have y0 := R.out.res.c0
      have y1 := R.out.res.c1
      have y2 := R.out.res.c2
      have x0 : wr.cell? ⟨w.heap.size + 1 + 1, 0, none⟩ = some (.slice A1 n1 k1) := R.out.out.c0
      have x1 : wr.cell? ⟨w.heap.size + 1 + 1, 1, none⟩ = some (.int .i64 v) := R.out.out.c1
      have x2 : wr.cell? ⟨w.heap.size + 1 + 1, 2, none⟩ = some (.bool f) := R.out.out.c2
      go_wp2_with fail
      obtain ⟨w4, e4, q0, q1, q2, hro⟩ := R.out.fin
      dsimp only at e4 q1 q2 hro
      rw [e4]
      exact bodyPost_ret (v := .agg #[.slice A1 n1 k1, .int .i64 v, .bool f]) (by simp [results, Try.results40, go_sem, q0, q1, q2]) rfl ⟨_, by rw [HFIN.out], by rw [HFIN.out]; exact hro⟩
end Go.Proofs.Ytjiikpmkedkbkaa
namespace Go.Proofs.Ytjiikpmkedkbkaa
open Go.RowKit

set_option maxRecDepth 100000 in
set_option maxHeartbeats 4000000 in
theorem rof_any (bs : Nat) (vl : Value) (LL : List RowV) (s : Sm.Sta) (q : Qry) (w : World) (h : RfAt w bs vl LL s) (hs : Sm.Sound s) :
    Calls Try.prog 17 #[.pointer (some ⟨bs, 0, none⟩), q.val] w fun e w' => ∃ v, e = .returned (.tuple #[.agg #[v, .int .i64 (Em.of s q).value, .bool (Em.of s q).found], .int .i64 (Em.code q)]) ∧ ResO w w' v (Em.of s q).rows := by
  have H := Lib.hid h
  have HSN := Lib.hid hs
  clear h hs
  have R0 := Lib.hid (FrRel.new w q)
  obtain ⟨k, t, c, lo, hi, b, o⟩ := q
  unfold Qry.val
  dsimp only at *
  go_enter Try.func17, Try.ntmps17
  go_upto_region 1 with (fail)
  generalize (w.alloc (.cells #[.int .i64 k, .int .i64 t, .int .i64 c, .int .i64 lo, .int .i64 hi, .int .i64 b, .int .i64 o] 24)).alloc (.cells #[.slice none 0 0, .int .i64 0, .bool false] 27) = w2 at *
  have c0 : w2.cell? ⟨w.heap.size, 0, none⟩ = some (.int .i64 k) := R0.out.box.c0
  have c1 : w2.cell? ⟨w.heap.size, 1, none⟩ = some (.int .i64 t) := R0.out.box.c1
  have c2 : w2.cell? ⟨w.heap.size, 2, none⟩ = some (.int .i64 c) := R0.out.box.c2
  have c3 : w2.cell? ⟨w.heap.size, 3, none⟩ = some (.int .i64 lo) := R0.out.box.c3
  have c4 : w2.cell? ⟨w.heap.size, 4, none⟩ = some (.int .i64 hi) := R0.out.box.c4
  have c5 : w2.cell? ⟨w.heap.size, 5, none⟩ = some (.int .i64 b) := R0.out.box.c5
  have c6 : w2.cell? ⟨w.heap.size, 6, none⟩ = some (.int .i64 o) := R0.out.box.c6
  have HQV := Lib.hid (rvalid_any ⟨k, t, c, lo, hi, b, o⟩ w2)
  cases hv : Em.valid ⟨k, t, c, lo, hi, b, o⟩
  · rw [hv] at HQV
    go_upto_region 2 with (go_at_call 25; refine HQV.out.mono ?_; rintro e w3 ⟨rfl, f3⟩; have R3 := Lib.hid (R0.out.fr0 f3); clear f3)
    have z0 := R3.out.res.z 0
    have z1 := R3.out.res.z 1
    have z2 := R3.out.res.z 2
    have y0 := R3.out.res.c0
    have y1 := R3.out.res.c1
    have y2 := R3.out.res.c2
    clear HQV R0 c0 c1 c2 c3 c4 c5 c6
    go_wp2_with fail
    obtain ⟨w4, e4, q0, q1, q2, f4, -⟩ := R3.out.fin (.slice none 0 0) 0 false
    rw [e4]
    have e1 : Em.of s ⟨k, t, c, lo, hi, b, o⟩ = ⟨[], 0, false⟩ := Em.res_bad hv
    have e2 : Em.code ⟨k, t, c, lo, hi, b, o⟩ = 50 := by unfold Em.code; rw [hv]; rfl
    exact bodyPost_ret (v := .tuple #[.agg #[.slice none 0 0, .int .i64 0, .bool false], .int .i64 50]) (by simp [results, Try.results17, go_sem, q0, q1, q2]) rfl ⟨_, by rw [e1, e2], by rw [e1]; exact ⟨OwnL.nil, f4, by simp [Value.ownBlock]⟩⟩
  rw [hv] at HQV
  have HVV := Lib.hid hv
  have hvb := Em.valid_base' hv
  dsimp only at hvb
  have HB := Lib.hid hvb
  clear hv hvb
  go_upto_region 3 with (go_at_call 25; refine HQV.out.mono ?_; rintro e w3 ⟨rfl, f3⟩; have R3 := Lib.hid (R0.out.fr0 f3); clear f3)
  clear HQV R0 c0 c1 c2 c3 c4 c5 c6
  have Rd := Lib.hid (R3.out.fr0 (Fr.refl [] w3).drew)
  have c0 : w3.cell? ⟨w.heap.size, 0, none⟩ = some (.int .i64 k) := R3.out.box.c0
  have c1 : w3.cell? ⟨w.heap.size, 1, none⟩ = some (.int .i64 t) := R3.out.box.c1
  have c2 : w3.cell? ⟨w.heap.size, 2, none⟩ = some (.int .i64 c) := R3.out.box.c2
  have c3 : w3.cell? ⟨w.heap.size, 3, none⟩ = some (.int .i64 lo) := R3.out.box.c3
  have c4 : w3.cell? ⟨w.heap.size, 4, none⟩ = some (.int .i64 hi) := R3.out.box.c4
  have c5 : w3.cell? ⟨w.heap.size, 5, none⟩ = some (.int .i64 b) := R3.out.box.c5
  have c6 : w3.cell? ⟨w.heap.size, 6, none⟩ = some (.int .i64 o) := R3.out.box.c6
  obtain ⟨⟨vr, vn, vf⟩, HRES⟩ : ∃ r, Hid (Em.of s ⟨k, t, c, lo, hi, b, o⟩ = r) := ⟨_, Lib.hid rfl⟩
  go_region_held3 (fun w' => w'.cell? ⟨w.heap.size, 0, none⟩ = some (.int .i64 k) ∧ w'.cell? ⟨w.heap.size, 1, none⟩ = some (.int .i64 t) ∧ w'.cell? ⟨w.heap.size, 2, none⟩ = some (.int .i64 c) ∧ w'.cell? ⟨w.heap.size, 3, none⟩ = some (.int .i64 lo) ∧ w'.cell? ⟨w.heap.size, 4, none⟩ = some (.int .i64 hi) ∧ w'.cell? ⟨w.heap.size, 5, none⟩ = some (.int .i64 b) ∧ w'.cell? ⟨w.heap.size, 6, none⟩ = some (.int .i64 o))
    (first | exact ⟨Rd.out.box.c0, Rd.out.box.c1, Rd.out.box.c2, Rd.out.box.c3, Rd.out.box.c4, Rd.out.box.c5, Rd.out.box.c6⟩ | exact ⟨R5.out.box.c0, R5.out.box.c1, R5.out.box.c2, R5.out.box.c3, R5.out.box.c4, R5.out.box.c5, R5.out.box.c6⟩ | exact ⟨R6.out.box.c0, R6.out.box.c1, R6.out.box.c2, R6.out.box.c3, R6.out.box.c4, R6.out.box.c5, R6.out.box.c6⟩ | exact ⟨R7.out.box.c0, R7.out.box.c1, R7.out.box.c2, R7.out.box.c3, R7.out.box.c4, R7.out.box.c5, R7.out.box.c6⟩ | exact ⟨S8.out.c0, S8.out.c1, S8.out.c2, S8.out.c3, S8.out.c4, S8.out.c5, S8.out.c6⟩)
    (first
      | (go_at_call 41; refine (rfrange_any bs vl LL s t c lo hi _ (H.out.fr0 Rd.out.fr) HB.out.2.1.1 (by have := HB.out.2.1.2; omega)).mono ?_; rintro e w5 ⟨v5, L5, rfl, ho5, hp5, f5, -⟩; obtain ⟨A5, n5, k5, hv5⟩ : ∃ A n c, v5 = .slice A n c := (match ho5.val with | ⟨_, _, hv⟩ => ⟨_, _, _, hv⟩); subst hv5; have R5 := Lib.hid (Rd.out.fr0 f5); have O5 := Lib.hid (OwnL.rowsAt ho5); have P5 := Lib.hid hp5; clear ho5 hp5 f5)
      | (go_at_call 42; refine (rfrows_any bs vl LL s o _ (H.out.fr0 R5.out.fr)).mono ?_; rintro e w6 ⟨v6, rfl, ho6, f6, -⟩; have hp6 := picked_filter H.out.sim o; obtain ⟨L6, hL6⟩ : ∃ l, LL.filter (inTab o) = l := ⟨_, rfl⟩; rw [hL6] at ho6 hp6; clear hL6; obtain ⟨A6, n6, k6, hv6⟩ : ∃ A n c, v6 = .slice A n c := (match ho6.val with | ⟨_, _, hv⟩ => ⟨_, _, _, hv⟩); subst hv6; have R6 := Lib.hid (R5.out.fr0 f6); have O6 := Lib.hid (OwnL.rowsAt ho6); have P6 := Lib.hid hp6; have X6 := Lib.hid (O5.out.1.fr f6 (by simp)); clear ho6 hp6 f6)
      | (go_at_call 40; refine (rfrom_any ⟨k, t, c, lo, hi, b, o⟩ A5 n5 k5 L5 A6 n6 k6 L6 w6 X6.out O5.out.2 (by rw [O5.out.2]; have := P5.out.len H.out.ok; omega) O6.out.1 O6.out.2 (by rw [O6.out.2]; have := P6.out.len H.out.ok; omega) (fun _ _ r hr => by have := RowV.value_bounds (P5.out.vals HSN.out hr) b; dsimp only; omega)).mono ?_; rintro e w7 ⟨v7, rfl, hres⟩; have HEQ : Em.res ⟨k, t, c, lo, hi, b, o⟩ L5 L6 = ⟨vr, vn, vf⟩ := (by rw [← HRES.out]; unfold Em.of Em.scan Em.tab; rw [P5.out.uniq (Em.sel_picked s c (inRng t c lo hi)) H.out.ok inRng_t, P6.out.uniq (Em.sel_picked s 0 (inTab o)) H.out.ok inTab_t]); rw [HEQ] at hres ⊢; dsimp only at hres; dsimp only; obtain ⟨A7, n7, k7, hv7⟩ : ∃ A n c, v7 = .slice A n c := (match hres.own.val with | ⟨_, _, hv⟩ => ⟨_, _, _, hv⟩); subst hv7; have R7 := Lib.hid (R6.out.fr0 hres.fr); have HR7 := Lib.hid hres; have hs6 := R6.out.res; have HL6 := Lib.hid (Blk.lt hs6); clear hs6 hres HEQ; have z0 := R7.out.res.z 0; have z1 := R7.out.res.z 1; have z2 := R7.out.res.z 2; have y0 := R7.out.res.c0; have y1 := R7.out.res.c1; have y2 := R7.out.res.c2; obtain ⟨w8, e8, q0, q1, q2, f8, g8⟩ := R7.out.fin (.slice A7 n7 k7) vn vf; have B8 := R7.out.box.fr g8 (by simp); rw [← e8] at B8; have S8 := Lib.hid B8; clear B8; have E8 := Lib.hid e8; have Q8 := Lib.hid (And.intro q0 (And.intro q1 q2)); have F8 := Lib.hid f8; have G8 := Lib.hid g8; clear e8 q0 q1 q2 f8 g8))
  go_wp2_with fail
  have q0 := Q8.out.1
  have q1 := Q8.out.2.1
  have q2 := Q8.out.2.2
  rw [E8.out]
  have e2 : Em.code ⟨k, t, c, lo, hi, b, o⟩ = 0 := by unfold Em.code; rw [HVV.out]; rfl
  exact bodyPost_ret (v := .tuple #[.agg #[.slice A7 n7 k7, .int .i64 vn, .bool vf], .int .i64 0]) (by simp [results, Try.results17, go_sem, q0, q1, q2]) rfl ⟨_, by rw [HRES.out, e2], by
    rw [HRES.out]
    have h6 := R6.out.fr.size
    have hl := HL6.out
    refine ⟨HR7.out.own.fr G8.out (fun g hg => ?_), F8.out, fun g hg => Nat.le_trans h6 (HR7.out.new g hg)⟩
    have h7 := HR7.out.new g hg
    simp only [List.mem_singleton]
    omega⟩
end Go.Proofs.Ytjiikpmkedkbkaa

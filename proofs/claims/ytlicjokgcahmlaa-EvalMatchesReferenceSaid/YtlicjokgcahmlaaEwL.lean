/-
  row.Before; law 06's in; a change that concerns no row of a range.
-/
import Derived.Test.YtlicjokgcahmlaaEwI
import Derived.BigQuiet
namespace Go.Proofs.Ytlicjokgcahmlaa
open Go.RowKit

set_option maxRecDepth 100000 in
theorem before_no (c : Chg) (h : c.had = false) (w : World) : Calls Try.prog 31 #[c.val] w fun e w' =>
    e = .returned (.tuple #[rowVal 0 0 0 0 0, .bool false]) ∧ Fr [] w w' := by
  obtain ⟨t, k, had, o0, o1, o2, has, n0, n1, n2⟩ := c
  dsimp only at h
  subst h
  have F0 : Fr [] w ((w.alloc (.cells #[.int .i64 t, .int .i64 k, .bool false, .int .i64 o0, .int .i64 o1, .int .i64 o2, .bool has, .int .i64 n0, .int .i64 n1, .int .i64 n2] 62)).alloc (.cells #[.int .i64 0, .int .i64 0, .int .i64 0, .int .i64 0, .int .i64 0] 31)) := ((Fr.refl _ _).alloc _).alloc _
  have hB := Blk.new (w.alloc (.cells #[.int .i64 t, .int .i64 k, .bool false, .int .i64 o0, .int .i64 o1, .int .i64 o2, .bool has, .int .i64 n0, .int .i64 n1, .int .i64 n2] 62)) 31 #[.int .i64 0, .int .i64 0, .int .i64 0, .int .i64 0, .int .i64 0]
  rw [World.size_alloc] at hB
  have hh := half_no ⟨t, k, false, o0, o1, o2, has, n0, n1, n2⟩ o0 o1 o2
  unfold Chg.val rowVal at *
  go_enter Try.func31, Try.ntmps31
  go_wp2_with fail
  refine (hh _).mono ?_
  rintro e w1 ⟨rfl, f1⟩
  have F1 := F0.trans f1
  have hB1 := hB.fr f1 (by simp)
  have h0 := hB1.cell 0
  have h1 := hB1.cell 1
  have h2 := hB1.cell 2
  have h3 := hB1.cell 3
  have h4 := hB1.cell 4
  have z0 := hB1.frozen 0
  have z1 := hB1.frozen 1
  have z2 := hB1.frozen 2
  have z3 := hB1.frozen 3
  have z4 := hB1.frozen 4
  go_wp2_with fail
  refine bodyPost_ret (v := .tuple #[.agg #[.int .i64 0, .int .i64 0, .int .i64 0, .int .i64 0, .int .i64 0], .bool false]) (by simp [results, Try.results31, go_sem, h0, h1, h2, h3, h4]) rfl ⟨rfl, ?_⟩
  repeat first | exact F1 | refine Fr.setCell ?_ (.inr (by simp)) _
set_option maxRecDepth 100000 in
theorem before_yes (c : Chg) (h : c.had = true) (w : World) : Calls Try.prog 31 #[c.val] w fun e w' =>
    e = .returned (.tuple #[rowVal c.t c.k c.o0 c.o1 c.o2, .bool true]) ∧ Fr [] w w' := by
  obtain ⟨t, k, had, o0, o1, o2, has, n0, n1, n2⟩ := c
  dsimp only at h
  subst h
  have F0 : Fr [] w ((w.alloc (.cells #[.int .i64 t, .int .i64 k, .bool true, .int .i64 o0, .int .i64 o1, .int .i64 o2, .bool has, .int .i64 n0, .int .i64 n1, .int .i64 n2] 62)).alloc (.cells #[.int .i64 0, .int .i64 0, .int .i64 0, .int .i64 0, .int .i64 0] 31)) := ((Fr.refl _ _).alloc _).alloc _
  have hB := Blk.new (w.alloc (.cells #[.int .i64 t, .int .i64 k, .bool true, .int .i64 o0, .int .i64 o1, .int .i64 o2, .bool has, .int .i64 n0, .int .i64 n1, .int .i64 n2] 62)) 31 #[.int .i64 0, .int .i64 0, .int .i64 0, .int .i64 0, .int .i64 0]
  rw [World.size_alloc] at hB
  have hh := half_yes ⟨t, k, true, o0, o1, o2, has, n0, n1, n2⟩ o0 o1 o2
  unfold Chg.val rowVal at *
  go_enter Try.func31, Try.ntmps31
  go_wp2_with fail
  refine (hh _).mono ?_
  rintro e w1 ⟨rfl, f1⟩
  have F1 := F0.trans f1
  have hB1 := hB.fr f1 (by simp)
  have h0 := hB1.cell 0
  have h1 := hB1.cell 1
  have h2 := hB1.cell 2
  have h3 := hB1.cell 3
  have h4 := hB1.cell 4
  have z0 := hB1.frozen 0
  have z1 := hB1.frozen 1
  have z2 := hB1.frozen 2
  have z3 := hB1.frozen 3
  have z4 := hB1.frozen 4
  go_wp2_with fail
  refine bodyPost_ret (v := .tuple #[.agg #[.int .i64 t, .int .i64 k, .int .i64 o0, .int .i64 o1, .int .i64 o2], .bool true]) (by simp [results, Try.results31, go_sem, h0, h1, h2, h3, h4]) rfl ⟨rfl, ?_⟩
  repeat first | exact F1 | refine Fr.setCell ?_ (.inr (by simp)) _

theorem before_any (c : Chg) (w : World) : Calls Try.prog 31 #[c.val] w fun e w' => ∃ t k x y z, e = .returned (.tuple #[.agg #[.int .i64 t, .int .i64 k, .int .i64 x, .int .i64 y, .int .i64 z], .bool c.had]) ∧ Fr [] w w' ∧ (c.had = true → t = c.t ∧ k = c.k ∧ x = c.o0 ∧ y = c.o1 ∧ z = c.o2) := by
  cases h : c.had with
  | false => exact (before_no c h w).mono fun e w' hh => ⟨_, _, _, _, _, hh.1, hh.2, fun h => by cases h⟩
  | true => exact (before_yes c h w).mono fun e w' hh => ⟨_, _, _, _, _, hh.1, hh.2, fun _ => ⟨rfl, rfl, rfl, rfl, rfl⟩⟩
theorem after_any (c : Chg) (w : World) : Calls Try.prog 32 #[c.val] w fun e w' => ∃ t k x y z, e = .returned (.tuple #[.agg #[.int .i64 t, .int .i64 k, .int .i64 x, .int .i64 y, .int .i64 z], .bool c.has]) ∧ Fr [] w w' ∧ (c.has = true → t = c.t ∧ k = c.k ∧ x = c.n0 ∧ y = c.n1 ∧ z = c.n2) := by
  cases h : c.has with
  | false => exact (after_no c h w).mono fun e w' hh => ⟨_, _, _, _, _, hh.1, hh.2, fun h => by cases h⟩
  | true => exact (after_yes c h w).mono fun e w' hh => ⟨_, _, _, _, _, hh.1, hh.2, fun _ => ⟨rfl, rfl, rfl, rfl, rfl⟩⟩
set_option maxRecDepth 100000 in
set_option maxHeartbeats 4000000 in
theorem in6_any (q : Qry) (t k x y z : Int) (th : Bool) (w : World) :
    Calls Try.prog 33 #[q.val, .agg #[.int .i64 t, .int .i64 k, .int .i64 x, .int .i64 y, .int .i64 z], .bool th] w fun e w' => e = .returned (.bool (th && inRng q.table q.column q.low q.high ⟨t, k, x, y, z⟩)) ∧ Fr [] w w' := by
  obtain ⟨qk, qt, qc, ql, qh, qb, qo⟩ := q
  obtain ⟨v, HV⟩ : ∃ v, Hid (RowV.value ⟨t, k, x, y, z⟩ qc = v) := ⟨_, Lib.hid rfl⟩
  have HR : Hid ((th && inRng qt qc ql qh ⟨t, k, x, y, z⟩) = (th && (decide (t = qt) && (decide (ql ≤ v) && decide (v ≤ qh))))) := Lib.hid (by unfold inRng; rw [HV.out])
  have HC := Lib.hid (fun W => value5 t k x y z qc W)
  rw [HV.out] at HC
  obtain ⟨res, HRS⟩ : ∃ r, Hid ((th && inRng qt qc ql qh ⟨t, k, x, y, z⟩) = r) := ⟨_, Lib.hid rfl⟩
  have HRES : Hid (∀ b : Bool, (th && (decide (t = qt) && (decide (ql ≤ v) && decide (v ≤ qh)))) = b → res = b) := Lib.hid (fun b hb => by rw [← hb, ← HR.out, HRS.out])
  unfold Qry.val
  dsimp only
  rw [HRS.out]
  have hq := (QAt.new w ⟨qk, qt, qc, ql, qh, qb, qo⟩).fr ((Fr.refl [] _).alloc (.cells #[.int .i64 t, .int .i64 k, .int .i64 x, .int .i64 y, .int .i64 z] 31)) (by simp)
  have hr := Blk.new (w.alloc (.cells #[.int .i64 qk, .int .i64 qt, .int .i64 qc, .int .i64 ql, .int .i64 qh, .int .i64 qb, .int .i64 qo] 23)) 31 #[.int .i64 t, .int .i64 k, .int .i64 x, .int .i64 y, .int .i64 z]
  rw [World.size_alloc] at hr
  have F0 := Lib.hid (((Fr.refl [] w).alloc (.cells #[.int .i64 qk, .int .i64 qt, .int .i64 qc, .int .i64 ql, .int .i64 qh, .int .i64 qb, .int .i64 qo] 23)).alloc (.cells #[.int .i64 t, .int .i64 k, .int .i64 x, .int .i64 y, .int .i64 z] 31))
  go_enter Try.func33, Try.ntmps33
  go_upto_region 1 with (fail)
  generalize hw2 : (w.alloc (.cells #[.int .i64 qk, .int .i64 qt, .int .i64 qc, .int .i64 ql, .int .i64 qh, .int .i64 qb, .int .i64 qo] 23)).alloc (.cells #[.int .i64 t, .int .i64 k, .int .i64 x, .int .i64 y, .int .i64 z] 31) = w2 at *
  clear hw2
  have hlq := Blk.lt hq
  have hlr := hr.lt
  have q1 : ∀ p : Later w2, p.w.cell? ⟨w.heap.size, 1, none⟩ = some (.int .i64 qt) := fun p => p.cell hlq hq.c1
  have q2 : ∀ p : Later w2, p.w.cell? ⟨w.heap.size, 2, none⟩ = some (.int .i64 qc) := fun p => p.cell hlq hq.c2
  have q3 : ∀ p : Later w2, p.w.cell? ⟨w.heap.size, 3, none⟩ = some (.int .i64 ql) := fun p => p.cell hlq hq.c3
  have q4 : ∀ p : Later w2, p.w.cell? ⟨w.heap.size, 4, none⟩ = some (.int .i64 qh) := fun p => p.cell hlq hq.c4
  have r0 : ∀ p : Later w2, p.w.cell? ⟨w.heap.size + 1, 0, none⟩ = some (.int .i64 t) := fun p => p.cell hlr (hr.cell 0)
  have r1 : ∀ p : Later w2, p.w.cell? ⟨w.heap.size + 1, 1, none⟩ = some (.int .i64 k) := fun p => p.cell hlr (hr.cell 1)
  have r2 : ∀ p : Later w2, p.w.cell? ⟨w.heap.size + 1, 2, none⟩ = some (.int .i64 x) := fun p => p.cell hlr (hr.cell 2)
  have r3 : ∀ p : Later w2, p.w.cell? ⟨w.heap.size + 1, 3, none⟩ = some (.int .i64 y) := fun p => p.cell hlr (hr.cell 3)
  have r4 : ∀ p : Later w2, p.w.cell? ⟨w.heap.size + 1, 4, none⟩ = some (.int .i64 z) := fun p => p.cell hlr (hr.cell 4)
  clear hq hr hlq hlr HR HV
  cases hth : th
  · subst hth
    refine wp_region_later (by kernel_rfl) (by kernel_rfl) ?_
    repeat (go_big_quiet_step (exact Later.calls ((HC.out _).mono fun e w' h => ⟨h.1, h.2 ▸ (Fr.refl _ _).alloc _⟩)))
    refine wpQuiet_nil ?_
    rintro wq ⟨p, hp⟩
    have fq : Fr [] w2 wq := hp ▸ p.fr
    clear hp p
    have FQ := Lib.hid (F0.out.trans fq)
    go_wp2_with fail
    go_ret
    exact ⟨by rw [HRES.out _ rfl]; simp [] <;> omega, FQ.out⟩
  · subst hth
    by_cases h1 : t = qt
    · have e1 : (t == qt) = true := by simp [h1]
      have H1 := Lib.hid h1
      clear h1
      by_cases h2 : ql ≤ v
      · by_cases h3 : v ≤ qh
        · have e3 : decide (v ≤ qh) = true := by simp [h3]
          have e2 : decide (ql ≤ v) = true := by simp [h2]
          refine wp_region_later (by kernel_rfl) (by kernel_rfl) ?_
          repeat (go_big_quiet_step (exact Later.calls ((HC.out _).mono fun e w' h => ⟨h.1, h.2 ▸ (Fr.refl _ _).alloc _⟩)))
          refine wpQuiet_nil ?_
          rintro wq ⟨p, hp⟩
          have fq : Fr [] w2 wq := hp ▸ p.fr
          clear hp p
          have FQ := Lib.hid (F0.out.trans fq)
          go_wp2_with fail
          go_ret
          exact ⟨by rw [HRES.out _ rfl]; simp [H1.out, h2, h3] <;> omega, FQ.out⟩
        · have e3 : decide (v ≤ qh) = false := by simp [h3]
          have e2 : decide (ql ≤ v) = true := by simp [h2]
          refine wp_region_later (by kernel_rfl) (by kernel_rfl) ?_
          repeat (go_big_quiet_step (exact Later.calls ((HC.out _).mono fun e w' h => ⟨h.1, h.2 ▸ (Fr.refl _ _).alloc _⟩)))
          refine wpQuiet_nil ?_
          rintro wq ⟨p, hp⟩
          have fq : Fr [] w2 wq := hp ▸ p.fr
          clear hp p
          have FQ := Lib.hid (F0.out.trans fq)
          go_wp2_with fail
          go_ret
          exact ⟨by rw [HRES.out _ rfl]; simp [H1.out, h2, h3] <;> omega, FQ.out⟩
      · have e2 : decide (ql ≤ v) = false := by simp [h2]
        refine wp_region_later (by kernel_rfl) (by kernel_rfl) ?_
        repeat (go_big_quiet_step (exact Later.calls ((HC.out _).mono fun e w' h => ⟨h.1, h.2 ▸ (Fr.refl _ _).alloc _⟩)))
        refine wpQuiet_nil ?_
        rintro wq ⟨p, hp⟩
        have fq : Fr [] w2 wq := hp ▸ p.fr
        clear hp p
        have FQ := Lib.hid (F0.out.trans fq)
        go_wp2_with fail
        go_ret
        exact ⟨by rw [HRES.out _ rfl]; simp [H1.out, h2] <;> omega, FQ.out⟩
    · have e1 : (t == qt) = false := by simp [h1]
      have H1 := Lib.hid h1
      clear h1
      refine wp_region_later (by kernel_rfl) (by kernel_rfl) ?_
      repeat (go_big_quiet_step (exact Later.calls ((HC.out _).mono fun e w' h => ⟨h.1, h.2 ▸ (Fr.refl _ _).alloc _⟩)))
      refine wpQuiet_nil ?_
      rintro wq ⟨p, hp⟩
      have fq : Fr [] w2 wq := hp ▸ p.fr
      clear hp p
      have FQ := Lib.hid (F0.out.trans fq)
      go_wp2_with fail
      go_ret
      exact ⟨by rw [HRES.out _ rfl]; simp [H1.out] <;> omega, FQ.out⟩

namespace Em
def beforeR (c : Chg) : RowV := ⟨c.t, c.k, c.o0, c.o1, c.o2⟩
theorem filter_put1 {M : List (IdK × RowV)} (hn : Nd M) (hk : Sm.KeyOk M) {c : Chg} (hid : (idOf c.t c.k).1 = (c.t, c.k)) (hm : Sm.meets M c = true) {p : RowV → Bool} (h1 : c.had = true → p (beforeR c) = false) (h2 : c.has = true → p (Sm.after c) = false) :
    ((Sm.put1 M c).map (·.2)).filter p = (M.map (·.2)).filter p := by
  have hdel : ((mdel M (idOf c.t c.k)).map (·.2)).filter p = (M.map (·.2)).filter p := by
    unfold mdel
    have hp : ∀ e ∈ M, e.1 = idOf c.t c.k → p e.2 = false := by
      intro e he hee
      have hg : mget M (idOf c.t c.k) = some e.2 := (mget_iff hn).2 (by rw [← hee]; exact he)
      unfold Sm.meets at hm
      rw [hg] at hm
      simp only [Bool.and_eq_true, decide_eq_true_eq] at hm
      have hke := hk e he
      rw [hee, hid] at hke
      injection hke with e1 e2
      have : e.2 = beforeR c := by
        unfold beforeR
        rw [e1, e2, ← hm.2.1, ← hm.2.2.1, ← hm.2.2.2]
      rw [this]
      exact h1 hm.1
    clear hm hn hk
    induction M with
    | nil => rfl
    | cons e M ih =>
      have ih' := ih (fun e' he' => hp e' (by simp [he']))
      by_cases hee : e.1 = idOf c.t c.k
      · rw [List.filter_cons_of_neg (by simp [hee]), ih', List.map_cons, List.filter_cons_of_neg (by simp [hp e (by simp) hee])]
      · rw [List.filter_cons_of_pos (by simp [hee]), List.map_cons, List.map_cons]
        simp only [List.filter_cons]
        split <;> rw [ih']
  unfold Sm.put1
  split
  · rename_i hh
    unfold mput
    rw [List.map_cons, List.filter_cons_of_neg (by simp [h2 hh])]
    exact hdel
  · exact hdel
theorem res_indep {q : Qry} {rows o1 o2 : List RowV} (h : q.kind ≠ 7) : res q rows o1 = res q rows o2 := by
  unfold res
  split
  · repeat (first | rw [if_neg h] | (split; rfl))
    rfl
  · rfl
theorem sel_put1 {s s' : Sm.Sta} (ho : Sm.Ok s) {c : Chg} (hM : s'.M = Sm.put1 s.M c) (hid : (idOf c.t c.k).1 = (c.t, c.k)) (hm : Sm.meets s.M c = true) {p : RowV → Bool} (h1 : c.had = true → p (beforeR c) = false) (h2 : c.has = true → p (Sm.after c) = false) (col : Int) :
    sel s' col p = sel s col p := by
  unfold sel
  rw [hM, filter_put1 ho.nd ho.key hid hm h1 h2]
theorem of_local {s s' : Sm.Sta} (ho : Sm.Ok s) {c : Chg} {q : Qry} (hM : s'.M = Sm.put1 s.M c) (hid : (idOf c.t c.k).1 = (c.t, c.k)) (hm : Sm.meets s.M c = true) (h1 : c.had = true → inRng q.table q.column q.low q.high (beforeR c) = false) (h2 : c.has = true → inRng q.table q.column q.low q.high (Sm.after c) = false)
    (h3 : q.kind = 7 → c.t ≠ q.other) : of s' q = of s q := by
  have hsc : scan s' q = scan s q := sel_put1 ho hM hid hm h1 h2 _
  unfold of
  rw [hsc]
  by_cases h7 : q.kind = 7
  · have ht : tab s' q.other = tab s q.other := sel_put1 ho hM hid hm (fun _ => decide_eq_false (h3 h7)) (fun _ => decide_eq_false (h3 h7)) _
    rw [ht]
  · exact res_indep h7
end Em
theorem RecsAt.fr0 {w w' : World} {A : Option Addr} {l : List Rec} (h : RecsAt w A l) (hf : Fr [] w w') : RecsAt w' A l := by
  obtain ⟨us, h1, h2, h3⟩ := h
  exact ⟨us, h1.fr0 hf, h2, fun u hu => ⟨(h3 u hu).1.fr hf NoC.nil, (h3 u hu).2⟩⟩
theorem CgOk.last {l : List Rec} (h : CgOk l) {n : Nat} (hn : l.length = n + 1) : ∃ p c, ∃ hi : n < l.length, l[n] = ⟨p, [c]⟩ ∧ CgC c ∧ Rw.chg c = true ∧ (idOf c.t c.k).1 = (c.t, c.k) ∧ Sm.meets (Lg.run (l.take n)).M c = true ∧ (Lg.run (l.take (n + 1))).M = Sm.put1 (Lg.run (l.take n)).M c := by
  have hi : n < l.length := by omega
  obtain ⟨c, hc, hcc⟩ := h.one _ (List.getElem_mem hi)
  have hf := h.fits n hi
  have hap := (Lg.fits_pos hf).2
  rw [← Lg.run_succ l hi] at hap
  have hf2 := hf
  simp only [Sm.fits, Bool.and_eq_true, decide_eq_true_eq] at hf2
  have hch := (Rw.valid_all hf2.1.1).1 c (by rw [hc]; simp)
  have hms := Sm.fitsGo_meets _ _ _ hf2.2 c (by rw [hc]; simp)
  refine ⟨l[n].p, c, hi, ?_, hcc, hch, Rw.chg_id hch, hms, ?_⟩
  · rw [← hc]
  · rw [hap, hc]
    rfl
end Go.Proofs.Ytlicjokgcahmlaa

/-
  Law 07's sane: the fixed examples, in plain Lean.
-/
import Derived.Test.YtciaallekkdnhaaGreatJv
import Derived.Test.YtciaallekkdnhaaGreatJl
namespace Go.Proofs.YtciaallekkdnhaaGreat
open Go.RowKit

namespace Pm
/-- How far a value may move. -/
def Near (r r' : Res) : Prop := (r'.value = r.value ∨ (-1000000000 ≤ r'.value ∧ r'.value ≤ 1000000000)) ∨ (r.value - 2000000000 ≤ r'.value ∧ r'.value ≤ r.value + 2000000000)
theorem patch_bound {q : Qry} {r r' : Res} {c : Chg} (h : patch q r c = some r') : Near r r' := by
  unfold patch at h
  split at h
  case isFalse => injection h with h; subst h; exact .inl (.inl rfl)
  case isTrue ht =>
    have hc : Rw.chg c = true := by
      simp only [touches, Bool.and_eq_true] at ht
      exact ht.2.1
    have b1 := old_bound q hc
    have b2 := now_bound q hc
    unfold pk at h
    split at h
    · injection h with h
      subst h
      dsimp only [Near]
      split <;> (right; omega)
    · split at h
      · injection h with h
        subst h
        dsimp only [Near]
        right
        omega
      · split at h
        · unfold ext at h
          split at h
          · split at h
            · injection h with h
              subst h
              exact .inl (.inr b2)
            · cases h
          · split at h
            · injection h with h
              subst h
              dsimp only [Near]
              split
              · exact .inl (.inr b2)
              · exact .inl (.inl rfl)
            · injection h with h
              subst h
              exact .inl (.inl rfl)
        · split at h
          · split at h
            · cases h
            · cases hj : join q (pairs r.rows) c with
              | none => rw [hj] at h; cases h
              | some l => rw [hj] at h; injection h with h; subst h; exact .inl (.inl rfl)
          · injection h with h
            subst h
            exact .inl (.inl rfl)
theorem grow_le {r r' : Res} {B : Int} (h : Near r r') (h1 : -(1000000000000000000 + B) ≤ r.value) (h2 : r.value ≤ 1000000000000000000 + B) : (0 ≤ B → -(1000000000000000000 + B + 2000000000) ≤ r'.value ∧ r'.value ≤ 1000000000000000000 + B + 2000000000) := by
  intro hB
  unfold Near at h
  omega
end Pm
/-- What Apply leaves. -/
def PA (w w' : World) (J : Option (Res × Bool)) (A : Option Addr) (n : Nat) (m : Int) (f t k : Bool) (b : Nat) : Prop :=
  (k = true → ∃ L', J = some (⟨L', m, f⟩, t) ∧ AtL RowV.cells 5 w' A L' ∧ n = L'.length ∧ n ≤ b) ∧ (k = false → J = none ∧ t = true ∧ A = none ∧ n = 0 ∧ m = 0 ∧ f = false) ∧ Fr [] w w'
set_option maxRecDepth 100000 in
set_option maxHeartbeats 8000000 in
theorem apply_any (q : Qry) (hok : okI q.kind) (X : Option Addr) (n cap : Nat) (m : Int) (f : Bool) (L : List RowV) (p : Int) (AC : Option Addr) (nc cc : Nat) (cs : List Chg) (w : World) (hx : AtL RowV.cells 5 w X L) (hn : n = L.length) (hl : n + 2 * nc ≤ 40000) (hm1 : -1000000000000000000 ≤ m) (hm2 : m ≤ 1000000000000000000) (hcs : AtL Chg.cells 10 w AC cs) (hnc : nc = cs.length) :
    Calls Tryz.prog 33 #[q.val, .agg #[.slice X n cap, .int .i64 m, .bool f], .agg #[.int .i64 p, .slice AC nc cc]] w fun e w' => ∃ A' n' c' m' f' t k, e = .returned (.tuple #[.agg #[.slice A' n' c', .int .i64 m', .bool f'], .bool t, .bool k]) ∧ PA w w' (Pm.apply q ⟨L, m, f⟩ cs) A' n' m' f' t k (n + 2 * nc) := by
  have F0 : Hid (Fr [] w ((((w.alloc (.cells #[.int .i64 q.kind, .int .i64 q.table, .int .i64 q.column, .int .i64 q.low, .int .i64 q.high, .int .i64 q.by_, .int .i64 q.other] 35)).alloc (.cells #[.slice X n cap, .int .i64 m, .bool f] 71)).alloc (.cells #[.int .i64 p, .slice AC nc cc] 26)).alloc (.cells #[.slice none 0 0, .int .i64 0, .bool false] 71))) := Lib.hid (((((Fr.refl _ _).alloc _).alloc _).alloc _).alloc _)
  have HQ : Hid (QAt ((((w.alloc (.cells #[.int .i64 q.kind, .int .i64 q.table, .int .i64 q.column, .int .i64 q.low, .int .i64 q.high, .int .i64 q.by_, .int .i64 q.other] 35)).alloc (.cells #[.slice X n cap, .int .i64 m, .bool f] 71)).alloc (.cells #[.int .i64 p, .slice AC nc cc] 26)).alloc (.cells #[.slice none 0 0, .int .i64 0, .bool false] 71)) w.heap.size q) := Lib.hid (Blk.alloc (Blk.alloc (Blk.alloc (QAt.new w q) _) _) _)
  have hr := Blk.new (w.alloc (.cells #[.int .i64 q.kind, .int .i64 q.table, .int .i64 q.column, .int .i64 q.low, .int .i64 q.high, .int .i64 q.by_, .int .i64 q.other] 35)) 71 #[.slice X n cap, .int .i64 m, .bool f]
  rw [World.size_alloc] at hr
  have HR : Hid (Blk ((((w.alloc (.cells #[.int .i64 q.kind, .int .i64 q.table, .int .i64 q.column, .int .i64 q.low, .int .i64 q.high, .int .i64 q.by_, .int .i64 q.other] 35)).alloc (.cells #[.slice X n cap, .int .i64 m, .bool f] 71)).alloc (.cells #[.int .i64 p, .slice AC nc cc] 26)).alloc (.cells #[.slice none 0 0, .int .i64 0, .bool false] 71)) (w.heap.size + 1) 71 #[.slice X n cap, .int .i64 m, .bool f]) := Lib.hid ((hr.alloc _).alloc _)
  have hc := Blk.new ((w.alloc (.cells #[.int .i64 q.kind, .int .i64 q.table, .int .i64 q.column, .int .i64 q.low, .int .i64 q.high, .int .i64 q.by_, .int .i64 q.other] 35)).alloc (.cells #[.slice X n cap, .int .i64 m, .bool f] 71)) 26 #[.int .i64 p, .slice AC nc cc]
  rw [World.size_alloc, World.size_alloc] at hc
  have HC : Hid (Blk ((((w.alloc (.cells #[.int .i64 q.kind, .int .i64 q.table, .int .i64 q.column, .int .i64 q.low, .int .i64 q.high, .int .i64 q.by_, .int .i64 q.other] 35)).alloc (.cells #[.slice X n cap, .int .i64 m, .bool f] 71)).alloc (.cells #[.int .i64 p, .slice AC nc cc] 26)).alloc (.cells #[.slice none 0 0, .int .i64 0, .bool false] 71)) (w.heap.size + 1 + 1) 26 #[.int .i64 p, .slice AC nc cc]) := Lib.hid (hc.alloc _)
  have hz := Blk.new (((w.alloc (.cells #[.int .i64 q.kind, .int .i64 q.table, .int .i64 q.column, .int .i64 q.low, .int .i64 q.high, .int .i64 q.by_, .int .i64 q.other] 35)).alloc (.cells #[.slice X n cap, .int .i64 m, .bool f] 71)).alloc (.cells #[.int .i64 p, .slice AC nc cc] 26)) 71 #[.slice none 0 0, .int .i64 0, .bool false]
  rw [World.size_alloc, World.size_alloc, World.size_alloc] at hz
  have HZ := Lib.hid hz
  have HX := Lib.hid (hx.fr0 F0.out)
  have HN := Lib.hid hn
  have HNB : Hid (n + 2 * nc ≤ 40000) := Lib.hid hl
  have HM : Hid (-1000000000000000000 ≤ m ∧ m ≤ 1000000000000000000) := Lib.hid ⟨hm1, hm2⟩
  have HOK := Lib.hid hok
  have HCS := Lib.hid hcs
  have HNC := Lib.hid hnc
  have hnc4 : nc ≤ 20000 := by omega
  clear hr hc hz hx hn hm1 hm2 hok hl hcs hnc
  obtain ⟨JJ, HJJ⟩ : ∃ l, Hid (Pm.apply q ⟨L, m, f⟩ cs = l) := ⟨_, Lib.hid rfl⟩
  rw [HJJ.out]
  go_enter Tryz.func33, Tryz.ntmps33
  go_upto_region 1 with (fail)
  generalize ((((w.alloc (.cells #[.int .i64 q.kind, .int .i64 q.table, .int .i64 q.column, .int .i64 q.low, .int .i64 q.high, .int .i64 q.by_, .int .i64 q.other] 35)).alloc (.cells #[.slice X n cap, .int .i64 m, .bool f] 71)).alloc (.cells #[.int .i64 p, .slice AC nc cc] 26)).alloc (.cells #[.slice none 0 0, .int .i64 0, .bool false] 71)) = w1 at *
  have c0 : w1.cell? ⟨w.heap.size + 1, 0, none⟩ = some (.slice X n cap) := HR.out.cell 0
  have HCL := Lib.hid (rowClone_any X n cap L w1 HX.out HN.out (by have := HNB.out; omega))
  have HB1 : Hid (w.heap.size + 4 ≤ w1.heap.size) := Lib.hid (by have := HZ.out.lt; omega)
  go_upto_region 3 with (go_at_call 55; refine HCL.out.mono ?_; rintro e w2 ⟨v, rfl, ho, hf, hg⟩; obtain ⟨A1, n1, c1, hv, hn1⟩ := own_val ho; subst hv; have HO2 := Lib.hid ho; have F2 := Lib.hid hf; have HG2 : Hid (∀ ad, A1 = some ad → w.heap.size + 4 ≤ ad.block) := Lib.hid (fun ad ha => Nat.le_trans HB1.out (hg _ (sliceB_own ho ha))); have HN1 := Lib.hid hn1; have z0 := (HR.out.fr hf (by simp)).frozen 0; have d0 := (HR.out.fr hf (by simp)).cell 0; clear ho hf hg hn1)
  clear z0 d0 c0 HCL
  have hfs : Fr [w.heap.size + 1] w2 (w2.setCell ⟨w.heap.size + 1, 0, none⟩ (.slice A1 n1 c1)) := (Fr.refl _ _).setCell (.inl (by simp)) _
  have HR5 : Hid (Blk (w2.setCell ⟨w.heap.size + 1, 0, none⟩ (.slice A1 n1 c1)) (w.heap.size + 1) 71 #[.slice A1 n1 c1, .int .i64 m, .bool f]) := Lib.hid ((HR.out.fr F2.out (by simp)).set_ 0 _)
  have HQ5 := Lib.hid ((HQ.out.fr F2.out (by simp)).fr hfs (by rw [List.mem_singleton]; omega))
  have HC5 := Lib.hid ((HC.out.fr F2.out (by simp)).fr hfs (by rw [List.mem_singleton]; omega))
  have HZ5 := Lib.hid ((HZ.out.fr F2.out (by simp)).fr hfs (by rw [List.mem_singleton]; omega))
  have HO5 := Lib.hid (HO2.out.fr hfs (fun g hg => by obtain ⟨ad, h1, h2⟩ := mem_sliceB.1 (own_sliceB hg); have := HG2.out ad h1; simp; omega))
  have FA := Lib.hid ((F0.out.trans F2.out).trans' hfs (by simp))
  clear hfs HR HZ HC HQ HO2 F0 F2 HX HB1
  generalize w2.setCell ⟨w.heap.size + 1, 0, none⟩ (.slice A1 n1 c1) = w5 at *
  have HAT : Hid (AtL RowV.cells 5 w5 A1 L ∧ n1 = L.length) := Lib.hid (HO5.out.at1 RowV.cells_len)
  have c1x : w5.cell? ⟨w.heap.size + 1 + 1, 1, none⟩ = some (.slice AC nc cc) := HC5.out.cell 1
  go_wp2_with fail
  clear c1x
  go_loopw [9, 20] (fun i9 i20 wr => ∃ (j : Nat) (A3 : Option Addr) (n3 c3 : Nat) (m3 : Int) (f3 : Bool) (L3 : List RowV) (tb : Bool), i20 = .int .i64 j ∧ j ≤ nc ∧ i9 = .bool tb ∧ Hid (Blk wr (w.heap.size + 1) 71 #[.slice A3 n3 c3, .int .i64 m3, .bool f3]) ∧ Hid (Blk wr (w.heap.size + 1 + 1 + 1) 71 #[.slice none 0 0, .int .i64 0, .bool false]) ∧ Hid (QAt wr w.heap.size q) ∧ Hid (AtL RowV.cells 5 wr A3 L3 ∧ n3 = L3.length ∧ n3 ≤ n + 2 * j) ∧ Hid (-(1000000000000000000 + 2000000000 * (j : Int)) ≤ m3 ∧ m3 ≤ 1000000000000000000 + 2000000000 * (j : Int)) ∧ Hid (JJ = Pm.go q (cs.drop j) ⟨L3, m3, f3⟩ tb) ∧ Hid (Fr [] w wr)) (fun i9 i20 _ => nc - (intOf i20).toNat)
  case atStart => exact ⟨0, A1, n1, c1, m, f, L, false, rfl, Nat.zero_le _, rfl, HR5, HZ5, HQ5, Lib.hid ⟨HAT.out.1, HAT.out.2, by rw [HAT.out.2, HN.out]; omega⟩, Lib.hid (by have := HM.out; omega), Lib.hid (by rw [← HJJ.out]; rfl), FA⟩
  case round =>
    clear HR5 HZ5 HQ5 HAT FA HO5 HC5 HG2 HM
    obtain ⟨j, A3, n3, c3, m3, f3, L3, tb, rfl, hj, rfl, HRR, HZR, HQR, HAR, HMB, HGO, FR⟩ := hrel
    by_cases hlt : j < nc
    · have hjc : j < cs.length := by rw [← HNC.out]; exact hlt
      obtain ⟨b, off, rfl, hb, hcc⟩ := (HCS.out.fr0 FR.out) (by omega)
      have hck := Lib.hid (fun i (hi : i < 10) => hcc j hjc i hi)
      have HDR : Hid (cs.drop j = cs[j] :: cs.drop (j + 1)) := Lib.hid (List.drop_eq_getElem_cons hjc)
      clear hb hcc
      generalize cs[j] = cx at *
      clear hjc
      obtain ⟨x0, x1, x2, x3, x4, x5, x6, x7, x8, x9⟩ := cx
      have a0 : wr.cell? ⟨b, off + j * 10, none⟩ = some (.int .i64 x0) := hck.out 0 (by decide)
      have a1 : wr.cell? ⟨b, off + j * 10 + 1, none⟩ = some (.int .i64 x1) := hck.out 1 (by decide)
      have a2 : wr.cell? ⟨b, off + j * 10 + 2, none⟩ = some (.bool x2) := hck.out 2 (by decide)
      have a3 : wr.cell? ⟨b, off + j * 10 + 3, none⟩ = some (.int .i64 x3) := hck.out 3 (by decide)
      have a4 : wr.cell? ⟨b, off + j * 10 + 4, none⟩ = some (.int .i64 x4) := hck.out 4 (by decide)
      have a5 : wr.cell? ⟨b, off + j * 10 + 5, none⟩ = some (.int .i64 x5) := hck.out 5 (by decide)
      have a6 : wr.cell? ⟨b, off + j * 10 + 6, none⟩ = some (.bool x6) := hck.out 6 (by decide)
      have a7 : wr.cell? ⟨b, off + j * 10 + 7, none⟩ = some (.int .i64 x7) := hck.out 7 (by decide)
      have a8 : wr.cell? ⟨b, off + j * 10 + 8, none⟩ = some (.int .i64 x8) := hck.out 8 (by decide)
      have a9 : wr.cell? ⟨b, off + j * 10 + 9, none⟩ = some (.int .i64 x9) := hck.out 9 (by decide)
      have HCP : Hid (Blk (wr.alloc (.cells #[.int .i64 x0, .int .i64 x1, .bool x2, .int .i64 x3, .int .i64 x4, .int .i64 x5, .bool x6, .int .i64 x7, .int .i64 x8, .int .i64 x9] 59)) wr.heap.size 59 #[.int .i64 x0, .int .i64 x1, .bool x2, .int .i64 x3, .int .i64 x4, .int .i64 x5, .bool x6, .int .i64 x7, .int .i64 x8, .int .i64 x9]) := Lib.hid (Blk.new _ _ _)
      have FQ : Hid (Fr [] wr (wr.alloc (.cells #[.int .i64 x0, .int .i64 x1, .bool x2, .int .i64 x3, .int .i64 x4, .int .i64 x5, .bool x6, .int .i64 x7, .int .i64 x8, .int .i64 x9] 59))) := Lib.hid ((Fr.refl _ _).alloc _)
      go_upto_region 6 with (fail)
      clear a0 a1 a2 a3 a4 a5 a6 a7 a8 a9 hck
      generalize wr.alloc (.cells #[.int .i64 x0, .int .i64 x1, .bool x2, .int .i64 x3, .int .i64 x4, .int .i64 x5, .bool x6, .int .i64 x7, .int .i64 x8, .int .i64 x9] 59) = wp at *
      have HQP := Lib.hid (HQR.out.fr FQ.out (by simp))
      have HRP := Lib.hid (HRR.out.fr FQ.out (by simp))
      have HZP := Lib.hid (HZR.out.fr FQ.out (by simp))
      have HAP : Hid (AtL RowV.cells 5 wp A3 L3 ∧ n3 = L3.length ∧ n3 ≤ n + 2 * j) := Lib.hid ⟨HAR.out.1.fr0 FQ.out, HAR.out.2⟩
      have FP := Lib.hid (FR.out.trans FQ.out)
      clear HQR HRR HZR HAR FR FQ
      cases tb with
      | true =>
        go_upto_region 8 with (fail)
        obtain ⟨wt, hwt⟩ : ∃ x, x = wp := ⟨_, rfl⟩
        subst hwt
        have HQT := Lib.hid (HQP.out.fr (Fr.refl [] wt) (by simp))
        have HRT := Lib.hid (HRP.out.fr (Fr.refl [] wt) (by simp))
        have HCT := Lib.hid (HCP.out.fr (Fr.refl [] wt) (by simp))
        have HZT := Lib.hid (HZP.out.fr (Fr.refl [] wt) (by simp))
        have HAT3 : Hid (AtL RowV.cells 5 wt A3 L3 ∧ n3 = L3.length ∧ n3 ≤ n + 2 * j) := Lib.hid ⟨HAP.out.1.fr0 (Fr.refl [] wt), HAP.out.2⟩
        have FTT := Lib.hid (FP.out.trans (Fr.refl [] wt))
        clear HQP HRP HCP HZP HAP
        have HQ8 : Blk wt w.heap.size 35 #[.int .i64 q.kind, .int .i64 q.table, .int .i64 q.column, .int .i64 q.low, .int .i64 q.high, .int .i64 q.by_, .int .i64 q.other] := HQT.out
        have HR8 := HRT.out
        have HC8 := HCT.out
        have HPT := Lib.hid (patch_any q ⟨x0, x1, x2, x3, x4, x5, x6, x7, x8, x9⟩ HOK.out A3 n3 c3 m3 f3 L3 wt HAT3.out.1 HAT3.out.2.1 (by have := HAT3.out.2.2; have := HNB.out; omega) (by have := HMB.out; have := HNB.out; omega) (by have := HMB.out; have := HNB.out; omega))
        cases hpj : Pm.patch q ⟨L3, m3, f3⟩ ⟨x0, x1, x2, x3, x4, x5, x6, x7, x8, x9⟩ with
        | none =>
          have HPJ := Lib.hid hpj
          clear hpj
          have HGN : Hid (JJ = none) := Lib.hid (by rw [HGO.out, HDR.out, Pm.go, HPJ.out])
          go_upto_region 9 with (first
            | (refine wpList_load_row rfl _ _ rfl w.heap.size rfl 35 _ (0, 0) _ HQ8 Tryz.underlying35 rfl (by kernel_rfl) ?_)
            | (refine wpList_load_row rfl _ _ rfl (w.heap.size + 1) rfl 71 _ (0, 0) _ HR8 Tryz.underlying71 rfl (by kernel_rfl) ?_)
            | (refine wpList_load_row rfl _ _ rfl wr.heap.size rfl 59 _ (0, 0) _ HC8 Tryz.underlying59 rfl (by kernel_rfl) ?_)
            | (go_at_call 56; refine HPT.out.mono ?_; rintro e w8 ⟨A4, n4, c4, m4, f4, k4, rfl, hpp⟩; rw [HPJ.out] at hpp; obtain ⟨hk1, hk2, f8⟩ := hpp; have HK4 : k4 = false := (match k4, hk1 with | false, _ => rfl | true, h => absurd (h rfl).choose_spec.1 (by simp)); subst HK4; obtain ⟨-, rfl, rfl, rfl, rfl⟩ := hk2 rfl; have F8 := Lib.hid f8; have HRS := HRT.out.fr f8 (by simp); clear hk1 f8)
            | (refine wpList_store_blk rfl _ _ _ rfl (w.heap.size + 1) #[.slice none 0 c4, .int .i64 0, .bool false] rfl rfl 71 _ HRS (by kernel_rfl) rfl rfl ?_; intro wu hbu hfu; have HBU := Lib.hid hbu; have HFU := Lib.hid hfu; clear hbu hfu))
          clear HQ8 HR8 HC8 HPT
          have HZF := ((HZT.out.fr F8.out (by simp)).fr HFU.out (by rw [List.mem_singleton]; omega))
          have FU : Hid (Fr [] w wu) := Lib.hid ((FTT.out.trans F8.out).trans' HFU.out (fun i hi => .inr (by rw [List.mem_singleton] at hi; omega)))
          go_wp2_with (first
            | (refine wpList_build_is rfl _ _ rfl #[.slice none 0 0, .int .i64 0, .bool false] (by kernel_rfl) ?_)
            | (refine wpList_store_blk rfl _ _ _ rfl (w.heap.size + 1 + 1 + 1) #[.slice none 0 0, .int .i64 0, .bool false] rfl rfl 71 _ HZF (by kernel_rfl) rfl rfl ?_; intro w9 hb9 hf9; have HB9 := Lib.hid hb9; have HF9 := Lib.hid hf9; clear hb9 hf9))
          have q0 := HB9.out.cell 0
          have q1 := HB9.out.cell 1
          have q2 := HB9.out.cell 2
          refine bodyPost_ret (v := .tuple #[.agg #[.slice none 0 0, .int .i64 0, .bool false], .bool true, .bool false]) (by simp [results, Tryz.results33, go_sem, q0, q1, q2]) rfl ⟨_, _, _, _, _, _, _, rfl, fun h => (by cases h), fun _ => ⟨HGN.out, rfl, rfl, rfl, rfl, rfl⟩, FU.out.trans' HF9.out (fun i hi => .inr (by rw [List.mem_singleton] at hi; omega))⟩
        | some r4 =>
          obtain ⟨L4, mm, ff⟩ := r4
          have HPJ := Lib.hid hpj
          clear hpj
          have HGS : Hid (JJ = Pm.go q (cs.drop (j + 1)) ⟨L4, mm, ff⟩ true) := Lib.hid (by rw [HGO.out, HDR.out, Pm.go, HPJ.out]; simp)
          have HBD := Lib.hid (Pm.patch_bound HPJ.out)
          go_upto_region 9 with (first
            | (refine wpList_load_row rfl _ _ rfl w.heap.size rfl 35 _ (0, 0) _ HQ8 Tryz.underlying35 rfl (by kernel_rfl) ?_)
            | (refine wpList_load_row rfl _ _ rfl (w.heap.size + 1) rfl 71 _ (0, 0) _ HR8 Tryz.underlying71 rfl (by kernel_rfl) ?_)
            | (refine wpList_load_row rfl _ _ rfl wr.heap.size rfl 59 _ (0, 0) _ HC8 Tryz.underlying59 rfl (by kernel_rfl) ?_)
            | (go_at_call 56; refine HPT.out.mono ?_; rintro e w8 ⟨A4, n4, c4, m4, f4, k4, rfl, hpp⟩; rw [HPJ.out] at hpp; obtain ⟨hk1, hk2, f8⟩ := hpp; have HK4 : k4 = true := (match k4, hk2 with | true, _ => rfl | false, h => absurd (h rfl).1 (by simp)); subst HK4; have hk3 := hk1 rfl; obtain ⟨L5, h51, h52, h53, h54⟩ := hk3; injection h51 with h51; injection h51 with e1 e2 e3; subst e1 e2 e3; have F8 := Lib.hid f8; have HRS := HRT.out.fr f8 (by simp); have HA5 := Lib.hid h52; have HN5 := Lib.hid (And.intro h53 h54); clear hk1 hk2 f8 h52 h53 h54)
            | (refine wpList_store_blk rfl _ _ _ rfl (w.heap.size + 1) #[.slice A4 n4 c4, .int .i64 mm, .bool ff] rfl rfl 71 _ HRS (by kernel_rfl) rfl rfl ?_; intro wu hbu hfu; have HBU := Lib.hid hbu; have HFU := Lib.hid hfu; clear hbu hfu))
          clear HQ8 HR8 HC8 HPT
          have HZU := Lib.hid ((HZT.out.fr F8.out (by simp)).fr HFU.out (by rw [List.mem_singleton]; omega))
          have HQU := Lib.hid ((HQT.out.fr F8.out (by simp)).fr HFU.out (by rw [List.mem_singleton]; omega))
          have FU : Hid (Fr [] w wu) := Lib.hid ((FTT.out.trans F8.out).trans' HFU.out (fun i hi => .inr (by rw [List.mem_singleton] at hi; omega)))
          have HAU := Lib.hid (HA5.out.ne_small HRS (by simp) HFU.out)
          clear HRS
          go_wp2_with fail
          go_roundw
          case rel => exact ⟨j + 1, A4, n4, c4, mm, ff, L4, _, by go_num, by omega, rfl, HBU, HZU, HQU, Lib.hid ⟨HAU.out, HN5.out.1, by have := HN5.out.2; have := HAT3.out.2.2; omega⟩, Lib.hid (by have h1 := HBD.out; have h2 := HMB.out; have h3 := Pm.grow_le h1 h2.1 h2.2; dsimp only at h1 h3; omega), HGS, FU⟩
          case measure => simp [intOf]; omega
      | false =>
        have g0 : wp.cell? ⟨w.heap.size, 0, none⟩ = some (.int .i64 q.kind) := HQP.out.c0
        have g1 : wp.cell? ⟨w.heap.size, 1, none⟩ = some (.int .i64 q.table) := HQP.out.c1
        have g2 : wp.cell? ⟨w.heap.size, 2, none⟩ = some (.int .i64 q.column) := HQP.out.c2
        have g3 : wp.cell? ⟨w.heap.size, 3, none⟩ = some (.int .i64 q.low) := HQP.out.c3
        have g4 : wp.cell? ⟨w.heap.size, 4, none⟩ = some (.int .i64 q.high) := HQP.out.c4
        have g5 : wp.cell? ⟨w.heap.size, 5, none⟩ = some (.int .i64 q.by_) := HQP.out.c5
        have g6 : wp.cell? ⟨w.heap.size, 6, none⟩ = some (.int .i64 q.other) := HQP.out.c6
        have y0 : wp.cell? ⟨wr.heap.size, 0, none⟩ = some (.int .i64 x0) := HCP.out.cell 0
        have y1 : wp.cell? ⟨wr.heap.size, 1, none⟩ = some (.int .i64 x1) := HCP.out.cell 1
        have y2 : wp.cell? ⟨wr.heap.size, 2, none⟩ = some (.bool x2) := HCP.out.cell 2
        have y3 : wp.cell? ⟨wr.heap.size, 3, none⟩ = some (.int .i64 x3) := HCP.out.cell 3
        have y4 : wp.cell? ⟨wr.heap.size, 4, none⟩ = some (.int .i64 x4) := HCP.out.cell 4
        have y5 : wp.cell? ⟨wr.heap.size, 5, none⟩ = some (.int .i64 x5) := HCP.out.cell 5
        have y6 : wp.cell? ⟨wr.heap.size, 6, none⟩ = some (.bool x6) := HCP.out.cell 6
        have y7 : wp.cell? ⟨wr.heap.size, 7, none⟩ = some (.int .i64 x7) := HCP.out.cell 7
        have y8 : wp.cell? ⟨wr.heap.size, 8, none⟩ = some (.int .i64 x8) := HCP.out.cell 8
        have y9 : wp.cell? ⟨wr.heap.size, 9, none⟩ = some (.int .i64 x9) := HCP.out.cell 9
        obtain ⟨T, hT⟩ : ∃ t, Pm.touches q ⟨x0, x1, x2, x3, x4, x5, x6, x7, x8, x9⟩ = t := ⟨_, rfl⟩
        have HTO := Lib.hid (touches_any q ⟨x0, x1, x2, x3, x4, x5, x6, x7, x8, x9⟩ HOK.out)
        rw [hT] at HTO
        have HTT := Lib.hid hT
        clear hT
        go_upto_region 8 with (go_at_call 25; refine (HTO.out _).mono ?_; rintro e wt ⟨rfl, ft⟩; have FT := Lib.hid ft; clear ft)
        clear g0 g1 g2 g3 g4 g5 g6 y0 y1 y2 y3 y4 y5 y6 y7 y8 y9 HTO
        have HQT := Lib.hid (HQP.out.fr FT.out (by simp))
        have HRT := Lib.hid (HRP.out.fr FT.out (by simp))
        have HCT := Lib.hid (HCP.out.fr FT.out (by simp))
        have HZT := Lib.hid (HZP.out.fr FT.out (by simp))
        have HAT3 : Hid (AtL RowV.cells 5 wt A3 L3 ∧ n3 = L3.length ∧ n3 ≤ n + 2 * j) := Lib.hid ⟨HAP.out.1.fr0 FT.out, HAP.out.2⟩
        have FTT := Lib.hid (FP.out.trans FT.out)
        clear HQP HRP HCP HZP HAP
        have HQ8 : Blk wt w.heap.size 35 #[.int .i64 q.kind, .int .i64 q.table, .int .i64 q.column, .int .i64 q.low, .int .i64 q.high, .int .i64 q.by_, .int .i64 q.other] := HQT.out
        have HR8 := HRT.out
        have HC8 := HCT.out
        have HPT := Lib.hid (patch_any q ⟨x0, x1, x2, x3, x4, x5, x6, x7, x8, x9⟩ HOK.out A3 n3 c3 m3 f3 L3 wt HAT3.out.1 HAT3.out.2.1 (by have := HAT3.out.2.2; have := HNB.out; omega) (by have := HMB.out; have := HNB.out; omega) (by have := HMB.out; have := HNB.out; omega))
        cases hpj : Pm.patch q ⟨L3, m3, f3⟩ ⟨x0, x1, x2, x3, x4, x5, x6, x7, x8, x9⟩ with
        | none =>
          have HPJ := Lib.hid hpj
          clear hpj
          have HGN : Hid (JJ = none) := Lib.hid (by rw [HGO.out, HDR.out, Pm.go, HPJ.out])
          go_upto_region 9 with (first
            | (refine wpList_load_row rfl _ _ rfl w.heap.size rfl 35 _ (0, 0) _ HQ8 Tryz.underlying35 rfl (by kernel_rfl) ?_)
            | (refine wpList_load_row rfl _ _ rfl (w.heap.size + 1) rfl 71 _ (0, 0) _ HR8 Tryz.underlying71 rfl (by kernel_rfl) ?_)
            | (refine wpList_load_row rfl _ _ rfl wr.heap.size rfl 59 _ (0, 0) _ HC8 Tryz.underlying59 rfl (by kernel_rfl) ?_)
            | (go_at_call 56; refine HPT.out.mono ?_; rintro e w8 ⟨A4, n4, c4, m4, f4, k4, rfl, hpp⟩; rw [HPJ.out] at hpp; obtain ⟨hk1, hk2, f8⟩ := hpp; have HK4 : k4 = false := (match k4, hk1 with | false, _ => rfl | true, h => absurd (h rfl).choose_spec.1 (by simp)); subst HK4; obtain ⟨-, rfl, rfl, rfl, rfl⟩ := hk2 rfl; have F8 := Lib.hid f8; have HRS := HRT.out.fr f8 (by simp); clear hk1 f8)
            | (refine wpList_store_blk rfl _ _ _ rfl (w.heap.size + 1) #[.slice none 0 c4, .int .i64 0, .bool false] rfl rfl 71 _ HRS (by kernel_rfl) rfl rfl ?_; intro wu hbu hfu; have HBU := Lib.hid hbu; have HFU := Lib.hid hfu; clear hbu hfu))
          clear HQ8 HR8 HC8 HPT
          have HZF := ((HZT.out.fr F8.out (by simp)).fr HFU.out (by rw [List.mem_singleton]; omega))
          have FU : Hid (Fr [] w wu) := Lib.hid ((FTT.out.trans F8.out).trans' HFU.out (fun i hi => .inr (by rw [List.mem_singleton] at hi; omega)))
          go_wp2_with (first
            | (refine wpList_build_is rfl _ _ rfl #[.slice none 0 0, .int .i64 0, .bool false] (by kernel_rfl) ?_)
            | (refine wpList_store_blk rfl _ _ _ rfl (w.heap.size + 1 + 1 + 1) #[.slice none 0 0, .int .i64 0, .bool false] rfl rfl 71 _ HZF (by kernel_rfl) rfl rfl ?_; intro w9 hb9 hf9; have HB9 := Lib.hid hb9; have HF9 := Lib.hid hf9; clear hb9 hf9))
          have q0 := HB9.out.cell 0
          have q1 := HB9.out.cell 1
          have q2 := HB9.out.cell 2
          refine bodyPost_ret (v := .tuple #[.agg #[.slice none 0 0, .int .i64 0, .bool false], .bool true, .bool false]) (by simp [results, Tryz.results33, go_sem, q0, q1, q2]) rfl ⟨_, _, _, _, _, _, _, rfl, fun h => (by cases h), fun _ => ⟨HGN.out, rfl, rfl, rfl, rfl, rfl⟩, FU.out.trans' HF9.out (fun i hi => .inr (by rw [List.mem_singleton] at hi; omega))⟩
        | some r4 =>
          obtain ⟨L4, mm, ff⟩ := r4
          have HPJ := Lib.hid hpj
          clear hpj
          have HGS : Hid (JJ = Pm.go q (cs.drop (j + 1)) ⟨L4, mm, ff⟩ T) := Lib.hid (by rw [HGO.out, HDR.out, Pm.go, HPJ.out]; rw [HTT.out]; rfl)
          have HBD := Lib.hid (Pm.patch_bound HPJ.out)
          go_upto_region 9 with (first
            | (refine wpList_load_row rfl _ _ rfl w.heap.size rfl 35 _ (0, 0) _ HQ8 Tryz.underlying35 rfl (by kernel_rfl) ?_)
            | (refine wpList_load_row rfl _ _ rfl (w.heap.size + 1) rfl 71 _ (0, 0) _ HR8 Tryz.underlying71 rfl (by kernel_rfl) ?_)
            | (refine wpList_load_row rfl _ _ rfl wr.heap.size rfl 59 _ (0, 0) _ HC8 Tryz.underlying59 rfl (by kernel_rfl) ?_)
            | (go_at_call 56; refine HPT.out.mono ?_; rintro e w8 ⟨A4, n4, c4, m4, f4, k4, rfl, hpp⟩; rw [HPJ.out] at hpp; obtain ⟨hk1, hk2, f8⟩ := hpp; have HK4 : k4 = true := (match k4, hk2 with | true, _ => rfl | false, h => absurd (h rfl).1 (by simp)); subst HK4; have hk3 := hk1 rfl; obtain ⟨L5, h51, h52, h53, h54⟩ := hk3; injection h51 with h51; injection h51 with e1 e2 e3; subst e1 e2 e3; have F8 := Lib.hid f8; have HRS := HRT.out.fr f8 (by simp); have HA5 := Lib.hid h52; have HN5 := Lib.hid (And.intro h53 h54); clear hk1 hk2 f8 h52 h53 h54)
            | (refine wpList_store_blk rfl _ _ _ rfl (w.heap.size + 1) #[.slice A4 n4 c4, .int .i64 mm, .bool ff] rfl rfl 71 _ HRS (by kernel_rfl) rfl rfl ?_; intro wu hbu hfu; have HBU := Lib.hid hbu; have HFU := Lib.hid hfu; clear hbu hfu))
          clear HQ8 HR8 HC8 HPT
          have HZU := Lib.hid ((HZT.out.fr F8.out (by simp)).fr HFU.out (by rw [List.mem_singleton]; omega))
          have HQU := Lib.hid ((HQT.out.fr F8.out (by simp)).fr HFU.out (by rw [List.mem_singleton]; omega))
          have FU : Hid (Fr [] w wu) := Lib.hid ((FTT.out.trans F8.out).trans' HFU.out (fun i hi => .inr (by rw [List.mem_singleton] at hi; omega)))
          have HAU := Lib.hid (HA5.out.ne_small HRS (by simp) HFU.out)
          clear HRS
          go_wp2_with fail
          go_roundw
          case rel => exact ⟨j + 1, A4, n4, c4, mm, ff, L4, _, by go_num, by omega, rfl, HBU, HZU, HQU, Lib.hid ⟨HAU.out, HN5.out.1, by have := HN5.out.2; have := HAT3.out.2.2; omega⟩, Lib.hid (by have h1 := HBD.out; have h2 := HMB.out; have h3 := Pm.grow_le h1 h2.1 h2.2; dsimp only at h1 h3; omega), HGS, FU⟩
          case measure => simp [intOf]; omega
    · obtain rfl : j = nc := by omega
      have HGE : Hid (JJ = some (⟨L3, m3, f3⟩, tb)) := Lib.hid (by rw [HGO.out, List.drop_eq_nil_of_le (by have := HNC.out; omega)]; rfl)
      have HRE := HRR.out
      have HZF := HZR.out
      go_wp2_with (first
        | (refine wpList_load_row rfl _ _ rfl (w.heap.size + 1) rfl 71 _ (0, 0) _ HRE Tryz.underlying71 rfl (by kernel_rfl) ?_)
        | (refine wpList_store_blk rfl _ _ _ rfl (w.heap.size + 1 + 1 + 1) #[.slice A3 n3 c3, .int .i64 m3, .bool f3] rfl rfl 71 _ HZF (by kernel_rfl) rfl rfl ?_; intro w9 hb9 hf9; have HB9 := Lib.hid hb9; have HF9 := Lib.hid hf9; clear hb9 hf9))
      have q0 := HB9.out.cell 0
      have q1 := HB9.out.cell 1
      have q2 := HB9.out.cell 2
      refine bodyPost_ret (v := .tuple #[.agg #[.slice A3 n3 c3, .int .i64 m3, .bool f3], .bool tb, .bool true]) (by simp [results, Tryz.results33, go_sem, q0, q1, q2]) rfl ⟨_, _, _, _, _, _, _, rfl, fun _ => ⟨L3, HGE.out, ?_, HAR.out.2.1, HAR.out.2.2⟩, fun h => (by cases h), FR.out.trans' HF9.out (fun i hi => .inr (by rw [List.mem_singleton] at hi; omega))⟩
      exact HAR.out.1.ne_small HZR.out (by simp) HF9.out
end Go.Proofs.YtciaallekkdnhaaGreat
namespace Go.Proofs.YtciaallekkdnhaaGreat
open Go.RowKit

/-- A result in a block of its own. -/
def R7At (w : World) (g : Nat) (v : Value) (n : Int) (f : Bool) : Prop := Blk w g 71 #[v, .int .i64 n, .bool f]
section
variable {w w' : World} {g : Nat} {v : Value} {n : Int} {f : Bool}
theorem R7At.c0 (h : R7At w g v n f) : w.cell? ⟨g, 0, none⟩ = some v := Blk.cell h 0
theorem R7At.c1 (h : R7At w g v n f) : w.cell? ⟨g, 1, none⟩ = some (.int .i64 n) := Blk.cell h 1
theorem R7At.c2 (h : R7At w g v n f) : w.cell? ⟨g, 2, none⟩ = some (.bool f) := Blk.cell h 2
theorem R7At.z (h : R7At w g v n f) (k : Nat) : w.frozen? ⟨g, k, none⟩ = false := Blk.frozen h k
theorem R7At.new (w : World) (v : Value) (n : Int) (f : Bool) : R7At (w.alloc (.cells #[v, .int .i64 n, .bool f] 71)) w.heap.size v n f := Blk.new _ _ _
theorem R7At.fr {S : List Nat} (h : R7At w g v n f) (hf : Fr S w w') (hs : g ∉ S) : R7At w' g v n f := Blk.fr h hf hs
end

end Go.Proofs.YtciaallekkdnhaaGreat
namespace Go.Proofs.YtciaallekkdnhaaGreat
open Go.RowKit

/-- near's two blocks. -/
structure NearAt (w wn : World) (v : Value) (x : Int) (f : Bool) : Prop where
  r : R7At wn w.heap.size v x f
  z : R7At wn (w.heap.size + 1) (.slice none 0 0) 0 false
  fr : Fr [] w wn

theorem NearAt.row {w wn : World} {v : Value} {x : Int} {f : Bool} (h : NearAt w wn v x f) (v' : Value) : NearAt w (wn.setCell ⟨w.heap.size, 0, none⟩ v') v' x f :=
  ⟨Blk.set_ h.r 0 v', h.z.fr ((Fr.refl [w.heap.size] wn).setCell (.inl (by simp)) _) (by simp), h.fr.trans' ((Fr.refl [w.heap.size] wn).setCell (.inl (by simp)) _) (fun i hi => .inr (by rw [List.mem_singleton] at hi; omega))⟩
theorem NearAt.val {w wn : World} {v : Value} {x : Int} {f : Bool} (h : NearAt w wn v x f) (x' : Int) : NearAt w (wn.setCell ⟨w.heap.size, 1, none⟩ (.int .i64 x')) v x' f :=
  ⟨Blk.set_ h.r 1 (.int .i64 x'), h.z.fr ((Fr.refl [w.heap.size] wn).setCell (.inl (by simp)) _) (by simp), h.fr.trans' ((Fr.refl [w.heap.size] wn).setCell (.inl (by simp)) _) (fun i hi => .inr (by rw [List.mem_singleton] at hi; omega))⟩

end Go.Proofs.YtciaallekkdnhaaGreat
namespace Go.Proofs.YtciaallekkdnhaaGreat
open Go.RowKit

namespace Sane7
def q : Qry := ⟨5, 0, 1, 10, 19, 2, 0⟩
def qc : Qry := ⟨3, 0, 1, 10, 19, 0, 0⟩
def qr : Qry := ⟨1, 0, 0, 5, 5, 0, 0⟩
def add : Chg := ⟨0, 5, false, 0, 0, 0, true, 12, 3, 0⟩
def far : Chg := ⟨0, 5, false, 0, 0, 0, true, 25, 3, 0⟩
def gone : Chg := ⟨0, 6, true, 12, 7, 0, false, 0, 0, 0⟩
def less : Chg := ⟨0, 6, true, 12, 7, 0, true, 12, 5, 0⟩
def moved : Chg := ⟨0, 6, true, 12, 9, 1, true, 13, 9, 1⟩
theorem one : (Pm.patch q ⟨[], 7, true⟩ add).map (fun r => r.value) = some 3 := by decide
theorem two : (Pm.patch q ⟨[], 7, true⟩ far).map (fun r => r.value) = some 7 := by decide
theorem three : Pm.patch q ⟨[], 7, true⟩ gone = none := by decide
theorem four : (Pm.patch q ⟨[], 7, true⟩ less).map (fun r => r.value) = some 5 := by decide
theorem five : (Pm.apply qc ⟨[], 4, false⟩ [add, gone]).map (fun x => (x.1.value, x.2)) = some (4, true) := by decide
theorem six : (Pm.apply qr ⟨[], 0, false⟩ [add]).map (fun x => (x.1.rows, x.2)) = some ([⟨0, 5, 12, 3, 0⟩], true) := by decide
theorem t1 : Pm.touches q add = true := by decide
theorem t2 : Pm.touches q far = false := by decide
theorem t3 : Pm.touches q gone = true := by decide
theorem t4 : Pm.touches q moved = false := by decide
end Sane7
end Go.Proofs.YtciaallekkdnhaaGreat

/-
  A state in memory: Get, and the closures that chosen takes.
-/
import Derived.Test.YtjiikpmkedkbkaaGreatMk
import Derived.Test.YtjiikpmkedkbkaaGreatMe
import Derived.Test.YtjiikpmkedkbkaaGreatMc
import Derived.Test.YtjiikpmkedkbkaaGreatMb
import Derived.StillTailTactics
namespace Go.Proofs.YtjiikpmkedkbkaaGreat
open Go.RowKit

namespace Pm
/-- How far a value may move. -/
def Near (r r' : Res) : Prop := (r'.value = r.value ∨ (-1000000000 ≤ r'.value ∧ r'.value ≤ 1000000000)) ∨ (r.value - 2000000000 ≤ r'.value ∧ r'.value ≤ r.value + 2000000000)
theorem patch_bound {q : Qry} {r r' : Res} {c : Chg} (h : patch q r c = some r') : Near r r' := by
  unfold patch at h
  split at h
  case isFalse => injection h with h; subst h; exact .inl (.inl rfl)
  case isTrue ht =>
    have hc : Rw.chg c = true := by
      simp only [touches, Bool.and_eq_true] at ht
      exact ht.2.1
    have b1 := old_bound q hc
    have b2 := now_bound q hc
    unfold pk at h
    split at h
    · injection h with h
      subst h
      dsimp only [Near]
      split <;> (right; omega)
    · split at h
      · injection h with h
        subst h
        dsimp only [Near]
        right
        omega
      · split at h
        · unfold ext at h
          split at h
          · split at h
            · injection h with h
              subst h
              exact .inl (.inr b2)
            · cases h
          · split at h
            · injection h with h
              subst h
              dsimp only [Near]
              split
              · exact .inl (.inr b2)
              · exact .inl (.inl rfl)
            · injection h with h
              subst h
              exact .inl (.inl rfl)
        · split at h
          · split at h
            · cases h
            · cases hj : join q (pairs r.rows) c with
              | none => rw [hj] at h; cases h
              | some l => rw [hj] at h; injection h with h; subst h; exact .inl (.inl rfl)
          · injection h with h
            subst h
            exact .inl (.inl rfl)
theorem grow_le {r r' : Res} {B : Int} (h : Near r r') (h1 : -(1000000000000000000 + B) ≤ r.value) (h2 : r.value ≤ 1000000000000000000 + B) : (0 ≤ B → -(1000000000000000000 + B + 2000000000) ≤ r'.value ∧ r'.value ≤ 1000000000000000000 + B + 2000000000) := by
  intro hB
  unfold Near at h
  omega
end Pm
/-- What Apply leaves. -/
def PA (w w' : World) (J : Option (Res × Bool)) (A : Option Addr) (n : Nat) (m : Int) (f t k : Bool) (b : Nat) : Prop :=
  (k = true → ∃ L', J = some (⟨L', m, f⟩, t) ∧ AtL RowV.cells 5 w' A L' ∧ n = L'.length ∧ n ≤ b) ∧ (k = false → J = none ∧ t = true ∧ A = none ∧ n = 0 ∧ m = 0 ∧ f = false) ∧ Fr [] w w'
set_option maxRecDepth 100000 in
set_option maxHeartbeats 8000000 in
theorem apply_any (q : Qry) (hok : okI q.kind) (X : Option Addr) (n cap : Nat) (m : Int) (f : Bool) (L : List RowV) (p : Int) (AC : Option Addr) (nc cc : Nat) (cs : List Chg) (w : World) (hx : AtL RowV.cells 5 w X L) (hn : n = L.length) (hl : n + 2 * nc ≤ 40000) (hm1 : -1000000000000000000 ≤ m) (hm2 : m ≤ 1000000000000000000) (hcs : AtL Chg.cells 10 w AC cs) (hnc : nc = cs.length) :
    Calls Tryz.prog 16 #[q.val, .agg #[.slice X n cap, .int .i64 m, .bool f], .agg #[.int .i64 p, .slice AC nc cc]] w fun e w' => ∃ A' n' c' m' f' t k, e = .returned (.tuple #[.agg #[.slice A' n' c', .int .i64 m', .bool f'], .bool t, .bool k]) ∧ PA w w' (Pm.apply q ⟨L, m, f⟩ cs) A' n' m' f' t k (n + 2 * nc) := by
  have F0 : Hid (Fr [] w ((((w.alloc (.cells #[.int .i64 q.kind, .int .i64 q.table, .int .i64 q.column, .int .i64 q.low, .int .i64 q.high, .int .i64 q.by_, .int .i64 q.other] 28)).alloc (.cells #[.slice X n cap, .int .i64 m, .bool f] 34)).alloc (.cells #[.int .i64 p, .slice AC nc cc] 41)).alloc (.cells #[.slice none 0 0, .int .i64 0, .bool false] 34))) := Lib.hid (((((Fr.refl _ _).alloc _).alloc _).alloc _).alloc _)
  have HQ : Hid (QAt ((((w.alloc (.cells #[.int .i64 q.kind, .int .i64 q.table, .int .i64 q.column, .int .i64 q.low, .int .i64 q.high, .int .i64 q.by_, .int .i64 q.other] 28)).alloc (.cells #[.slice X n cap, .int .i64 m, .bool f] 34)).alloc (.cells #[.int .i64 p, .slice AC nc cc] 41)).alloc (.cells #[.slice none 0 0, .int .i64 0, .bool false] 34)) w.heap.size q) := Lib.hid (Blk.alloc (Blk.alloc (Blk.alloc (QAt.new w q) _) _) _)
  have hr := Blk.new (w.alloc (.cells #[.int .i64 q.kind, .int .i64 q.table, .int .i64 q.column, .int .i64 q.low, .int .i64 q.high, .int .i64 q.by_, .int .i64 q.other] 28)) 34 #[.slice X n cap, .int .i64 m, .bool f]
  rw [World.size_alloc] at hr
  have HR : Hid (Blk ((((w.alloc (.cells #[.int .i64 q.kind, .int .i64 q.table, .int .i64 q.column, .int .i64 q.low, .int .i64 q.high, .int .i64 q.by_, .int .i64 q.other] 28)).alloc (.cells #[.slice X n cap, .int .i64 m, .bool f] 34)).alloc (.cells #[.int .i64 p, .slice AC nc cc] 41)).alloc (.cells #[.slice none 0 0, .int .i64 0, .bool false] 34)) (w.heap.size + 1) 34 #[.slice X n cap, .int .i64 m, .bool f]) := Lib.hid ((hr.alloc _).alloc _)
  have hc := Blk.new ((w.alloc (.cells #[.int .i64 q.kind, .int .i64 q.table, .int .i64 q.column, .int .i64 q.low, .int .i64 q.high, .int .i64 q.by_, .int .i64 q.other] 28)).alloc (.cells #[.slice X n cap, .int .i64 m, .bool f] 34)) 41 #[.int .i64 p, .slice AC nc cc]
  rw [World.size_alloc, World.size_alloc] at hc
  have HC : Hid (Blk ((((w.alloc (.cells #[.int .i64 q.kind, .int .i64 q.table, .int .i64 q.column, .int .i64 q.low, .int .i64 q.high, .int .i64 q.by_, .int .i64 q.other] 28)).alloc (.cells #[.slice X n cap, .int .i64 m, .bool f] 34)).alloc (.cells #[.int .i64 p, .slice AC nc cc] 41)).alloc (.cells #[.slice none 0 0, .int .i64 0, .bool false] 34)) (w.heap.size + 1 + 1) 41 #[.int .i64 p, .slice AC nc cc]) := Lib.hid (hc.alloc _)
  have hz := Blk.new (((w.alloc (.cells #[.int .i64 q.kind, .int .i64 q.table, .int .i64 q.column, .int .i64 q.low, .int .i64 q.high, .int .i64 q.by_, .int .i64 q.other] 28)).alloc (.cells #[.slice X n cap, .int .i64 m, .bool f] 34)).alloc (.cells #[.int .i64 p, .slice AC nc cc] 41)) 34 #[.slice none 0 0, .int .i64 0, .bool false]
  rw [World.size_alloc, World.size_alloc, World.size_alloc] at hz
  have HZ := Lib.hid hz
  have HX := Lib.hid (hx.fr0 F0.out)
  have HN := Lib.hid hn
  have HNB : Hid (n + 2 * nc ≤ 40000) := Lib.hid hl
  have HM : Hid (-1000000000000000000 ≤ m ∧ m ≤ 1000000000000000000) := Lib.hid ⟨hm1, hm2⟩
  have HOK := Lib.hid hok
  have HCS := Lib.hid hcs
  have HNC := Lib.hid hnc
  have hnc4 : nc ≤ 20000 := by omega
  clear hr hc hz hx hn hm1 hm2 hok hl hcs hnc
  obtain ⟨JJ, HJJ⟩ : ∃ l, Hid (Pm.apply q ⟨L, m, f⟩ cs = l) := ⟨_, Lib.hid rfl⟩
  rw [HJJ.out]
  go_enter Tryz.func16, Tryz.ntmps16
  go_upto_region 1 with (fail)
  generalize ((((w.alloc (.cells #[.int .i64 q.kind, .int .i64 q.table, .int .i64 q.column, .int .i64 q.low, .int .i64 q.high, .int .i64 q.by_, .int .i64 q.other] 28)).alloc (.cells #[.slice X n cap, .int .i64 m, .bool f] 34)).alloc (.cells #[.int .i64 p, .slice AC nc cc] 41)).alloc (.cells #[.slice none 0 0, .int .i64 0, .bool false] 34)) = w1 at *
  have c0 : w1.cell? ⟨w.heap.size + 1, 0, none⟩ = some (.slice X n cap) := HR.out.cell 0
  have HCL := Lib.hid (rowClone_any X n cap L w1 HX.out HN.out (by have := HNB.out; omega))
  have HB1 : Hid (w.heap.size + 4 ≤ w1.heap.size) := Lib.hid (by have := HZ.out.lt; omega)
  go_upto_region 3 with (go_at_call 37; refine HCL.out.mono ?_; rintro e w2 ⟨v, rfl, ho, hf, hg⟩; obtain ⟨A1, n1, c1, hv, hn1⟩ := own_val ho; subst hv; have HO2 := Lib.hid ho; have F2 := Lib.hid hf; have HG2 : Hid (∀ ad, A1 = some ad → w.heap.size + 4 ≤ ad.block) := Lib.hid (fun ad ha => Nat.le_trans HB1.out (hg _ (sliceB_own ho ha))); have HN1 := Lib.hid hn1; have z0 := (HR.out.fr hf (by simp)).frozen 0; have d0 := (HR.out.fr hf (by simp)).cell 0; clear ho hf hg hn1)
  clear z0 d0 c0 HCL
  have hfs : Fr [w.heap.size + 1] w2 (w2.setCell ⟨w.heap.size + 1, 0, none⟩ (.slice A1 n1 c1)) := (Fr.refl _ _).setCell (.inl (by simp)) _
  have HR5 : Hid (Blk (w2.setCell ⟨w.heap.size + 1, 0, none⟩ (.slice A1 n1 c1)) (w.heap.size + 1) 34 #[.slice A1 n1 c1, .int .i64 m, .bool f]) := Lib.hid ((HR.out.fr F2.out (by simp)).set_ 0 _)
  have HQ5 := Lib.hid ((HQ.out.fr F2.out (by simp)).fr hfs (by rw [List.mem_singleton]; omega))
  have HC5 := Lib.hid ((HC.out.fr F2.out (by simp)).fr hfs (by rw [List.mem_singleton]; omega))
  have HZ5 := Lib.hid ((HZ.out.fr F2.out (by simp)).fr hfs (by rw [List.mem_singleton]; omega))
  have HO5 := Lib.hid (HO2.out.fr hfs (fun g hg => by obtain ⟨ad, h1, h2⟩ := mem_sliceB.1 (own_sliceB hg); have := HG2.out ad h1; simp; omega))
  have FA := Lib.hid ((F0.out.trans F2.out).trans' hfs (by simp))
  clear hfs HR HZ HC HQ HO2 F0 F2 HX HB1
  generalize w2.setCell ⟨w.heap.size + 1, 0, none⟩ (.slice A1 n1 c1) = w5 at *
  have HAT : Hid (AtL RowV.cells 5 w5 A1 L ∧ n1 = L.length) := Lib.hid (HO5.out.at1 RowV.cells_len)
  have c1x : w5.cell? ⟨w.heap.size + 1 + 1, 1, none⟩ = some (.slice AC nc cc) := HC5.out.cell 1
  go_wp2_with fail
  clear c1x
  go_loopw [9, 20] (fun i9 i20 wr => ∃ (j : Nat) (A3 : Option Addr) (n3 c3 : Nat) (m3 : Int) (f3 : Bool) (L3 : List RowV) (tb : Bool), i20 = .int .i64 j ∧ j ≤ nc ∧ i9 = .bool tb ∧ Hid (Blk wr (w.heap.size + 1) 34 #[.slice A3 n3 c3, .int .i64 m3, .bool f3]) ∧ Hid (Blk wr (w.heap.size + 1 + 1 + 1) 34 #[.slice none 0 0, .int .i64 0, .bool false]) ∧ Hid (QAt wr w.heap.size q) ∧ Hid (AtL RowV.cells 5 wr A3 L3 ∧ n3 = L3.length ∧ n3 ≤ n + 2 * j) ∧ Hid (-(1000000000000000000 + 2000000000 * (j : Int)) ≤ m3 ∧ m3 ≤ 1000000000000000000 + 2000000000 * (j : Int)) ∧ Hid (JJ = Pm.go q (cs.drop j) ⟨L3, m3, f3⟩ tb) ∧ Hid (Fr [] w wr)) (fun i9 i20 _ => nc - (intOf i20).toNat)
  case atStart => exact ⟨0, A1, n1, c1, m, f, L, false, rfl, Nat.zero_le _, rfl, HR5, HZ5, HQ5, Lib.hid ⟨HAT.out.1, HAT.out.2, by rw [HAT.out.2, HN.out]; omega⟩, Lib.hid (by have := HM.out; omega), Lib.hid (by rw [← HJJ.out]; rfl), FA⟩
  case round =>
    clear HR5 HZ5 HQ5 HAT FA HO5 HC5 HG2 HM
    obtain ⟨j, A3, n3, c3, m3, f3, L3, tb, rfl, hj, rfl, HRR, HZR, HQR, HAR, HMB, HGO, FR⟩ := hrel
    by_cases hlt : j < nc
    · have hjc : j < cs.length := by rw [← HNC.out]; exact hlt
      obtain ⟨b, off, rfl, hb, hcc⟩ := (HCS.out.fr0 FR.out) (by omega)
      have hck := Lib.hid (fun i (hi : i < 10) => hcc j hjc i hi)
      have HDR : Hid (cs.drop j = cs[j] :: cs.drop (j + 1)) := Lib.hid (List.drop_eq_getElem_cons hjc)
      clear hb hcc
      generalize cs[j] = cx at *
      clear hjc
      obtain ⟨x0, x1, x2, x3, x4, x5, x6, x7, x8, x9⟩ := cx
      have a0 : wr.cell? ⟨b, off + j * 10, none⟩ = some (.int .i64 x0) := hck.out 0 (by decide)
      have a1 : wr.cell? ⟨b, off + j * 10 + 1, none⟩ = some (.int .i64 x1) := hck.out 1 (by decide)
      have a2 : wr.cell? ⟨b, off + j * 10 + 2, none⟩ = some (.bool x2) := hck.out 2 (by decide)
      have a3 : wr.cell? ⟨b, off + j * 10 + 3, none⟩ = some (.int .i64 x3) := hck.out 3 (by decide)
      have a4 : wr.cell? ⟨b, off + j * 10 + 4, none⟩ = some (.int .i64 x4) := hck.out 4 (by decide)
      have a5 : wr.cell? ⟨b, off + j * 10 + 5, none⟩ = some (.int .i64 x5) := hck.out 5 (by decide)
      have a6 : wr.cell? ⟨b, off + j * 10 + 6, none⟩ = some (.bool x6) := hck.out 6 (by decide)
      have a7 : wr.cell? ⟨b, off + j * 10 + 7, none⟩ = some (.int .i64 x7) := hck.out 7 (by decide)
      have a8 : wr.cell? ⟨b, off + j * 10 + 8, none⟩ = some (.int .i64 x8) := hck.out 8 (by decide)
      have a9 : wr.cell? ⟨b, off + j * 10 + 9, none⟩ = some (.int .i64 x9) := hck.out 9 (by decide)
      have HCP : Hid (Blk (wr.alloc (.cells #[.int .i64 x0, .int .i64 x1, .bool x2, .int .i64 x3, .int .i64 x4, .int .i64 x5, .bool x6, .int .i64 x7, .int .i64 x8, .int .i64 x9] 45)) wr.heap.size 45 #[.int .i64 x0, .int .i64 x1, .bool x2, .int .i64 x3, .int .i64 x4, .int .i64 x5, .bool x6, .int .i64 x7, .int .i64 x8, .int .i64 x9]) := Lib.hid (Blk.new _ _ _)
      have FQ : Hid (Fr [] wr (wr.alloc (.cells #[.int .i64 x0, .int .i64 x1, .bool x2, .int .i64 x3, .int .i64 x4, .int .i64 x5, .bool x6, .int .i64 x7, .int .i64 x8, .int .i64 x9] 45))) := Lib.hid ((Fr.refl _ _).alloc _)
      go_upto_region 6 with (fail)
      clear a0 a1 a2 a3 a4 a5 a6 a7 a8 a9 hck
      generalize wr.alloc (.cells #[.int .i64 x0, .int .i64 x1, .bool x2, .int .i64 x3, .int .i64 x4, .int .i64 x5, .bool x6, .int .i64 x7, .int .i64 x8, .int .i64 x9] 45) = wp at *
      have HQP := Lib.hid (HQR.out.fr FQ.out (by simp))
      have HRP := Lib.hid (HRR.out.fr FQ.out (by simp))
      have HZP := Lib.hid (HZR.out.fr FQ.out (by simp))
      have HAP : Hid (AtL RowV.cells 5 wp A3 L3 ∧ n3 = L3.length ∧ n3 ≤ n + 2 * j) := Lib.hid ⟨HAR.out.1.fr0 FQ.out, HAR.out.2⟩
      have FP := Lib.hid (FR.out.trans FQ.out)
      clear HQR HRR HZR HAR FR FQ
      cases tb with
      | true =>
        go_upto_region 8 with (fail)
        obtain ⟨wt, hwt⟩ : ∃ x, x = wp := ⟨_, rfl⟩
        subst hwt
        have HQT := Lib.hid (HQP.out.fr (Fr.refl [] wt) (by simp))
        have HRT := Lib.hid (HRP.out.fr (Fr.refl [] wt) (by simp))
        have HCT := Lib.hid (HCP.out.fr (Fr.refl [] wt) (by simp))
        have HZT := Lib.hid (HZP.out.fr (Fr.refl [] wt) (by simp))
        have HAT3 : Hid (AtL RowV.cells 5 wt A3 L3 ∧ n3 = L3.length ∧ n3 ≤ n + 2 * j) := Lib.hid ⟨HAP.out.1.fr0 (Fr.refl [] wt), HAP.out.2⟩
        have FTT := Lib.hid (FP.out.trans (Fr.refl [] wt))
        clear HQP HRP HCP HZP HAP
        have HQ8 : Blk wt w.heap.size 28 #[.int .i64 q.kind, .int .i64 q.table, .int .i64 q.column, .int .i64 q.low, .int .i64 q.high, .int .i64 q.by_, .int .i64 q.other] := HQT.out
        have HR8 := HRT.out
        have HC8 := HCT.out
        have HPT := Lib.hid (patch_any q ⟨x0, x1, x2, x3, x4, x5, x6, x7, x8, x9⟩ HOK.out A3 n3 c3 m3 f3 L3 wt HAT3.out.1 HAT3.out.2.1 (by have := HAT3.out.2.2; have := HNB.out; omega) (by have := HMB.out; have := HNB.out; omega) (by have := HMB.out; have := HNB.out; omega))
        cases hpj : Pm.patch q ⟨L3, m3, f3⟩ ⟨x0, x1, x2, x3, x4, x5, x6, x7, x8, x9⟩ with
        | none =>
          have HPJ := Lib.hid hpj
          clear hpj
          have HGN : Hid (JJ = none) := Lib.hid (by rw [HGO.out, HDR.out, Pm.go, HPJ.out])
          go_upto_region 9 with (first
            | (refine wpList_load_row rfl _ _ rfl w.heap.size rfl 28 _ (0, 0) _ HQ8 Tryz.underlying28 rfl (by kernel_rfl) ?_)
            | (refine wpList_load_row rfl _ _ rfl (w.heap.size + 1) rfl 34 _ (0, 0) _ HR8 Tryz.underlying34 rfl (by kernel_rfl) ?_)
            | (refine wpList_load_row rfl _ _ rfl wr.heap.size rfl 45 _ (0, 0) _ HC8 Tryz.underlying45 rfl (by kernel_rfl) ?_)
            | (go_at_call 17; refine HPT.out.mono ?_; rintro e w8 ⟨A4, n4, c4, m4, f4, k4, rfl, hpp⟩; rw [HPJ.out] at hpp; obtain ⟨hk1, hk2, f8⟩ := hpp; have HK4 : k4 = false := (match k4, hk1 with | false, _ => rfl | true, h => absurd (h rfl).choose_spec.1 (by simp)); subst HK4; obtain ⟨-, rfl, rfl, rfl, rfl⟩ := hk2 rfl; have F8 := Lib.hid f8; have HRS := HRT.out.fr f8 (by simp); clear hk1 f8)
            | (refine wpList_store_blk rfl _ _ _ rfl (w.heap.size + 1) #[.slice none 0 c4, .int .i64 0, .bool false] rfl rfl 34 _ HRS (by kernel_rfl) rfl rfl ?_; intro wu hbu hfu; have HBU := Lib.hid hbu; have HFU := Lib.hid hfu; clear hbu hfu))
          clear HQ8 HR8 HC8 HPT
          have HZF := ((HZT.out.fr F8.out (by simp)).fr HFU.out (by rw [List.mem_singleton]; omega))
          have FU : Hid (Fr [] w wu) := Lib.hid ((FTT.out.trans F8.out).trans' HFU.out (fun i hi => .inr (by rw [List.mem_singleton] at hi; omega)))
          go_wp2_with (first
            | (refine wpList_build_is rfl _ _ rfl #[.slice none 0 0, .int .i64 0, .bool false] (by kernel_rfl) ?_)
            | (refine wpList_store_blk rfl _ _ _ rfl (w.heap.size + 1 + 1 + 1) #[.slice none 0 0, .int .i64 0, .bool false] rfl rfl 34 _ HZF (by kernel_rfl) rfl rfl ?_; intro w9 hb9 hf9; have HB9 := Lib.hid hb9; have HF9 := Lib.hid hf9; clear hb9 hf9))
          have q0 := HB9.out.cell 0
          have q1 := HB9.out.cell 1
          have q2 := HB9.out.cell 2
          refine bodyPost_ret (v := .tuple #[.agg #[.slice none 0 0, .int .i64 0, .bool false], .bool true, .bool false]) (by simp [results, Tryz.results16, go_sem, q0, q1, q2]) rfl ⟨_, _, _, _, _, _, _, rfl, fun h => (by cases h), fun _ => ⟨HGN.out, rfl, rfl, rfl, rfl, rfl⟩, FU.out.trans' HF9.out (fun i hi => .inr (by rw [List.mem_singleton] at hi; omega))⟩
        | some r4 =>
          obtain ⟨L4, mm, ff⟩ := r4
          have HPJ := Lib.hid hpj
          clear hpj
          have HGS : Hid (JJ = Pm.go q (cs.drop (j + 1)) ⟨L4, mm, ff⟩ true) := Lib.hid (by rw [HGO.out, HDR.out, Pm.go, HPJ.out]; simp)
          have HBD := Lib.hid (Pm.patch_bound HPJ.out)
          go_upto_region 9 with (first
            | (refine wpList_load_row rfl _ _ rfl w.heap.size rfl 28 _ (0, 0) _ HQ8 Tryz.underlying28 rfl (by kernel_rfl) ?_)
            | (refine wpList_load_row rfl _ _ rfl (w.heap.size + 1) rfl 34 _ (0, 0) _ HR8 Tryz.underlying34 rfl (by kernel_rfl) ?_)
            | (refine wpList_load_row rfl _ _ rfl wr.heap.size rfl 45 _ (0, 0) _ HC8 Tryz.underlying45 rfl (by kernel_rfl) ?_)
            | (go_at_call 17; refine HPT.out.mono ?_; rintro e w8 ⟨A4, n4, c4, m4, f4, k4, rfl, hpp⟩; rw [HPJ.out] at hpp; obtain ⟨hk1, hk2, f8⟩ := hpp; have HK4 : k4 = true := (match k4, hk2 with | true, _ => rfl | false, h => absurd (h rfl).1 (by simp)); subst HK4; have hk3 := hk1 rfl; obtain ⟨L5, h51, h52, h53, h54⟩ := hk3; injection h51 with h51; injection h51 with e1 e2 e3; subst e1 e2 e3; have F8 := Lib.hid f8; have HRS := HRT.out.fr f8 (by simp); have HA5 := Lib.hid h52; have HN5 := Lib.hid (And.intro h53 h54); clear hk1 hk2 f8 h52 h53 h54)
            | (refine wpList_store_blk rfl _ _ _ rfl (w.heap.size + 1) #[.slice A4 n4 c4, .int .i64 mm, .bool ff] rfl rfl 34 _ HRS (by kernel_rfl) rfl rfl ?_; intro wu hbu hfu; have HBU := Lib.hid hbu; have HFU := Lib.hid hfu; clear hbu hfu))
          clear HQ8 HR8 HC8 HPT
          have HZU := Lib.hid ((HZT.out.fr F8.out (by simp)).fr HFU.out (by rw [List.mem_singleton]; omega))
          have HQU := Lib.hid ((HQT.out.fr F8.out (by simp)).fr HFU.out (by rw [List.mem_singleton]; omega))
          have FU : Hid (Fr [] w wu) := Lib.hid ((FTT.out.trans F8.out).trans' HFU.out (fun i hi => .inr (by rw [List.mem_singleton] at hi; omega)))
          have HAU := Lib.hid (HA5.out.ne_small HRS (by simp) HFU.out)
          clear HRS
          go_wp2_with fail
          go_roundw
          case rel => exact ⟨j + 1, A4, n4, c4, mm, ff, L4, _, by go_num, by omega, rfl, HBU, HZU, HQU, Lib.hid ⟨HAU.out, HN5.out.1, by have := HN5.out.2; have := HAT3.out.2.2; omega⟩, Lib.hid (by have h1 := HBD.out; have h2 := HMB.out; have h3 := Pm.grow_le h1 h2.1 h2.2; dsimp only at h1 h3; omega), HGS, FU⟩
          case measure => simp [intOf]; omega
      | false =>
        have g0 : wp.cell? ⟨w.heap.size, 0, none⟩ = some (.int .i64 q.kind) := HQP.out.c0
        have g1 : wp.cell? ⟨w.heap.size, 1, none⟩ = some (.int .i64 q.table) := HQP.out.c1
        have g2 : wp.cell? ⟨w.heap.size, 2, none⟩ = some (.int .i64 q.column) := HQP.out.c2
        have g3 : wp.cell? ⟨w.heap.size, 3, none⟩ = some (.int .i64 q.low) := HQP.out.c3
        have g4 : wp.cell? ⟨w.heap.size, 4, none⟩ = some (.int .i64 q.high) := HQP.out.c4
        have g5 : wp.cell? ⟨w.heap.size, 5, none⟩ = some (.int .i64 q.by_) := HQP.out.c5
        have g6 : wp.cell? ⟨w.heap.size, 6, none⟩ = some (.int .i64 q.other) := HQP.out.c6
        have y0 : wp.cell? ⟨wr.heap.size, 0, none⟩ = some (.int .i64 x0) := HCP.out.cell 0
        have y1 : wp.cell? ⟨wr.heap.size, 1, none⟩ = some (.int .i64 x1) := HCP.out.cell 1
        have y2 : wp.cell? ⟨wr.heap.size, 2, none⟩ = some (.bool x2) := HCP.out.cell 2
        have y3 : wp.cell? ⟨wr.heap.size, 3, none⟩ = some (.int .i64 x3) := HCP.out.cell 3
        have y4 : wp.cell? ⟨wr.heap.size, 4, none⟩ = some (.int .i64 x4) := HCP.out.cell 4
        have y5 : wp.cell? ⟨wr.heap.size, 5, none⟩ = some (.int .i64 x5) := HCP.out.cell 5
        have y6 : wp.cell? ⟨wr.heap.size, 6, none⟩ = some (.bool x6) := HCP.out.cell 6
        have y7 : wp.cell? ⟨wr.heap.size, 7, none⟩ = some (.int .i64 x7) := HCP.out.cell 7
        have y8 : wp.cell? ⟨wr.heap.size, 8, none⟩ = some (.int .i64 x8) := HCP.out.cell 8
        have y9 : wp.cell? ⟨wr.heap.size, 9, none⟩ = some (.int .i64 x9) := HCP.out.cell 9
        obtain ⟨T, hT⟩ : ∃ t, Pm.touches q ⟨x0, x1, x2, x3, x4, x5, x6, x7, x8, x9⟩ = t := ⟨_, rfl⟩
        have HTO := Lib.hid (touches_any q ⟨x0, x1, x2, x3, x4, x5, x6, x7, x8, x9⟩ HOK.out)
        rw [hT] at HTO
        have HTT := Lib.hid hT
        clear hT
        go_upto_region 8 with (go_at_call 14; refine (HTO.out _).mono ?_; rintro e wt ⟨rfl, ft⟩; have FT := Lib.hid ft; clear ft)
        clear g0 g1 g2 g3 g4 g5 g6 y0 y1 y2 y3 y4 y5 y6 y7 y8 y9 HTO
        have HQT := Lib.hid (HQP.out.fr FT.out (by simp))
        have HRT := Lib.hid (HRP.out.fr FT.out (by simp))
        have HCT := Lib.hid (HCP.out.fr FT.out (by simp))
        have HZT := Lib.hid (HZP.out.fr FT.out (by simp))
        have HAT3 : Hid (AtL RowV.cells 5 wt A3 L3 ∧ n3 = L3.length ∧ n3 ≤ n + 2 * j) := Lib.hid ⟨HAP.out.1.fr0 FT.out, HAP.out.2⟩
        have FTT := Lib.hid (FP.out.trans FT.out)
        clear HQP HRP HCP HZP HAP
        have HQ8 : Blk wt w.heap.size 28 #[.int .i64 q.kind, .int .i64 q.table, .int .i64 q.column, .int .i64 q.low, .int .i64 q.high, .int .i64 q.by_, .int .i64 q.other] := HQT.out
        have HR8 := HRT.out
        have HC8 := HCT.out
        have HPT := Lib.hid (patch_any q ⟨x0, x1, x2, x3, x4, x5, x6, x7, x8, x9⟩ HOK.out A3 n3 c3 m3 f3 L3 wt HAT3.out.1 HAT3.out.2.1 (by have := HAT3.out.2.2; have := HNB.out; omega) (by have := HMB.out; have := HNB.out; omega) (by have := HMB.out; have := HNB.out; omega))
        cases hpj : Pm.patch q ⟨L3, m3, f3⟩ ⟨x0, x1, x2, x3, x4, x5, x6, x7, x8, x9⟩ with
        | none =>
          have HPJ := Lib.hid hpj
          clear hpj
          have HGN : Hid (JJ = none) := Lib.hid (by rw [HGO.out, HDR.out, Pm.go, HPJ.out])
          go_upto_region 9 with (first
            | (refine wpList_load_row rfl _ _ rfl w.heap.size rfl 28 _ (0, 0) _ HQ8 Tryz.underlying28 rfl (by kernel_rfl) ?_)
            | (refine wpList_load_row rfl _ _ rfl (w.heap.size + 1) rfl 34 _ (0, 0) _ HR8 Tryz.underlying34 rfl (by kernel_rfl) ?_)
            | (refine wpList_load_row rfl _ _ rfl wr.heap.size rfl 45 _ (0, 0) _ HC8 Tryz.underlying45 rfl (by kernel_rfl) ?_)
            | (go_at_call 17; refine HPT.out.mono ?_; rintro e w8 ⟨A4, n4, c4, m4, f4, k4, rfl, hpp⟩; rw [HPJ.out] at hpp; obtain ⟨hk1, hk2, f8⟩ := hpp; have HK4 : k4 = false := (match k4, hk1 with | false, _ => rfl | true, h => absurd (h rfl).choose_spec.1 (by simp)); subst HK4; obtain ⟨-, rfl, rfl, rfl, rfl⟩ := hk2 rfl; have F8 := Lib.hid f8; have HRS := HRT.out.fr f8 (by simp); clear hk1 f8)
            | (refine wpList_store_blk rfl _ _ _ rfl (w.heap.size + 1) #[.slice none 0 c4, .int .i64 0, .bool false] rfl rfl 34 _ HRS (by kernel_rfl) rfl rfl ?_; intro wu hbu hfu; have HBU := Lib.hid hbu; have HFU := Lib.hid hfu; clear hbu hfu))
          clear HQ8 HR8 HC8 HPT
          have HZF := ((HZT.out.fr F8.out (by simp)).fr HFU.out (by rw [List.mem_singleton]; omega))
          have FU : Hid (Fr [] w wu) := Lib.hid ((FTT.out.trans F8.out).trans' HFU.out (fun i hi => .inr (by rw [List.mem_singleton] at hi; omega)))
          go_wp2_with (first
            | (refine wpList_build_is rfl _ _ rfl #[.slice none 0 0, .int .i64 0, .bool false] (by kernel_rfl) ?_)
            | (refine wpList_store_blk rfl _ _ _ rfl (w.heap.size + 1 + 1 + 1) #[.slice none 0 0, .int .i64 0, .bool false] rfl rfl 34 _ HZF (by kernel_rfl) rfl rfl ?_; intro w9 hb9 hf9; have HB9 := Lib.hid hb9; have HF9 := Lib.hid hf9; clear hb9 hf9))
          have q0 := HB9.out.cell 0
          have q1 := HB9.out.cell 1
          have q2 := HB9.out.cell 2
          refine bodyPost_ret (v := .tuple #[.agg #[.slice none 0 0, .int .i64 0, .bool false], .bool true, .bool false]) (by simp [results, Tryz.results16, go_sem, q0, q1, q2]) rfl ⟨_, _, _, _, _, _, _, rfl, fun h => (by cases h), fun _ => ⟨HGN.out, rfl, rfl, rfl, rfl, rfl⟩, FU.out.trans' HF9.out (fun i hi => .inr (by rw [List.mem_singleton] at hi; omega))⟩
        | some r4 =>
          obtain ⟨L4, mm, ff⟩ := r4
          have HPJ := Lib.hid hpj
          clear hpj
          have HGS : Hid (JJ = Pm.go q (cs.drop (j + 1)) ⟨L4, mm, ff⟩ T) := Lib.hid (by rw [HGO.out, HDR.out, Pm.go, HPJ.out]; rw [HTT.out]; rfl)
          have HBD := Lib.hid (Pm.patch_bound HPJ.out)
          go_upto_region 9 with (first
            | (refine wpList_load_row rfl _ _ rfl w.heap.size rfl 28 _ (0, 0) _ HQ8 Tryz.underlying28 rfl (by kernel_rfl) ?_)
            | (refine wpList_load_row rfl _ _ rfl (w.heap.size + 1) rfl 34 _ (0, 0) _ HR8 Tryz.underlying34 rfl (by kernel_rfl) ?_)
            | (refine wpList_load_row rfl _ _ rfl wr.heap.size rfl 45 _ (0, 0) _ HC8 Tryz.underlying45 rfl (by kernel_rfl) ?_)
            | (go_at_call 17; refine HPT.out.mono ?_; rintro e w8 ⟨A4, n4, c4, m4, f4, k4, rfl, hpp⟩; rw [HPJ.out] at hpp; obtain ⟨hk1, hk2, f8⟩ := hpp; have HK4 : k4 = true := (match k4, hk2 with | true, _ => rfl | false, h => absurd (h rfl).1 (by simp)); subst HK4; have hk3 := hk1 rfl; obtain ⟨L5, h51, h52, h53, h54⟩ := hk3; injection h51 with h51; injection h51 with e1 e2 e3; subst e1 e2 e3; have F8 := Lib.hid f8; have HRS := HRT.out.fr f8 (by simp); have HA5 := Lib.hid h52; have HN5 := Lib.hid (And.intro h53 h54); clear hk1 hk2 f8 h52 h53 h54)
            | (refine wpList_store_blk rfl _ _ _ rfl (w.heap.size + 1) #[.slice A4 n4 c4, .int .i64 mm, .bool ff] rfl rfl 34 _ HRS (by kernel_rfl) rfl rfl ?_; intro wu hbu hfu; have HBU := Lib.hid hbu; have HFU := Lib.hid hfu; clear hbu hfu))
          clear HQ8 HR8 HC8 HPT
          have HZU := Lib.hid ((HZT.out.fr F8.out (by simp)).fr HFU.out (by rw [List.mem_singleton]; omega))
          have HQU := Lib.hid ((HQT.out.fr F8.out (by simp)).fr HFU.out (by rw [List.mem_singleton]; omega))
          have FU : Hid (Fr [] w wu) := Lib.hid ((FTT.out.trans F8.out).trans' HFU.out (fun i hi => .inr (by rw [List.mem_singleton] at hi; omega)))
          have HAU := Lib.hid (HA5.out.ne_small HRS (by simp) HFU.out)
          clear HRS
          go_wp2_with fail
          go_roundw
          case rel => exact ⟨j + 1, A4, n4, c4, mm, ff, L4, _, by go_num, by omega, rfl, HBU, HZU, HQU, Lib.hid ⟨HAU.out, HN5.out.1, by have := HN5.out.2; have := HAT3.out.2.2; omega⟩, Lib.hid (by have h1 := HBD.out; have h2 := HMB.out; have h3 := Pm.grow_le h1 h2.1 h2.2; dsimp only at h1 h3; omega), HGS, FU⟩
          case measure => simp [intOf]; omega
    · obtain rfl : j = nc := by omega
      have HGE : Hid (JJ = some (⟨L3, m3, f3⟩, tb)) := Lib.hid (by rw [HGO.out, List.drop_eq_nil_of_le (by have := HNC.out; omega)]; rfl)
      have HRE := HRR.out
      have HZF := HZR.out
      go_wp2_with (first
        | (refine wpList_load_row rfl _ _ rfl (w.heap.size + 1) rfl 34 _ (0, 0) _ HRE Tryz.underlying34 rfl (by kernel_rfl) ?_)
        | (refine wpList_store_blk rfl _ _ _ rfl (w.heap.size + 1 + 1 + 1) #[.slice A3 n3 c3, .int .i64 m3, .bool f3] rfl rfl 34 _ HZF (by kernel_rfl) rfl rfl ?_; intro w9 hb9 hf9; have HB9 := Lib.hid hb9; have HF9 := Lib.hid hf9; clear hb9 hf9))
      have q0 := HB9.out.cell 0
      have q1 := HB9.out.cell 1
      have q2 := HB9.out.cell 2
      refine bodyPost_ret (v := .tuple #[.agg #[.slice A3 n3 c3, .int .i64 m3, .bool f3], .bool tb, .bool true]) (by simp [results, Tryz.results16, go_sem, q0, q1, q2]) rfl ⟨_, _, _, _, _, _, _, rfl, fun _ => ⟨L3, HGE.out, ?_, HAR.out.2.1, HAR.out.2.2⟩, fun h => (by cases h), FR.out.trans' HF9.out (fun i hi => .inr (by rw [List.mem_singleton] at hi; omega))⟩
      exact HAR.out.1.ne_small HZR.out (by simp) HF9.out
end Go.Proofs.YtjiikpmkedkbkaaGreat
namespace Go.Proofs.YtjiikpmkedkbkaaGreat
open Go.RowKit

theorem Rw.valid_chgs {r : Rec} (h : Rw.valid r = true) : ∀ c ∈ r.cs, Rw.chg c = true := by
  simp only [Rw.valid, Bool.and_eq_true] at h
  have h1 := h.2
  generalize (-1 : Int) = a at h1
  generalize (0 : Int) = b at h1
  revert h1
  generalize r.cs = cs
  clear h
  induction cs generalizing a b with
  | nil => intro _ c hc; simp at hc
  | cons x cs ih =>
    intro h c hc
    simp only [Rw.chgs, Bool.and_eq_true] at h
    rcases List.mem_cons.1 hc with rfl | hc
    · exact h.1.1
    · exact ih _ _ h.2 c hc

set_option maxRecDepth 100000 in
set_option maxHeartbeats 2000000 in
theorem fits_any (b m : Nat) (s : Sm.Sta) (r : Rec) (A : Option Addr) (cap : Nat) (w : World) (h : StaAt w b m s) (hc : ChgsAt w A r.cs) (hlen : r.cs.length ≤ maxLen) :
    Calls Tryz.prog 31 #[.pointer (some ⟨b, 0, none⟩), .agg #[.int .i64 r.p, .slice A r.cs.length cap]] w fun e w' => e = .returned (.bool (Sm.fits s r)) ∧ Fr [] w w' := by
  have HF : Hid (Sm.fits s r = (Rw.valid r && decide (r.p = s.pos + 1) && Sm.fitsGo s.M s.M.length r.cs)) := Lib.hid rfl
  cases hv : Rw.valid r
  · refine (fits_skip b m s r A cap w h hc hlen hv).mono ?_
    rintro e w' ⟨rfl, hf⟩
    exact ⟨by rw [HF.out, hv]; rfl, hf⟩
  have hvf : 1 ≤ r.p ∧ r.p ≤ 10000 ∧ 1 ≤ r.cs.length ∧ r.cs.length ≤ 8 := by
    have h1 := hv
    simp only [Rw.valid, Rw.inI, Bool.and_eq_true, decide_eq_true_eq] at h1
    omega
  have HV := Lib.hid hv
  clear hv
  have hp0 := h.ok.p0
  have hp1 := h.ok.p1
  have hml := h.ok.len
  go_enter Tryz.func31, Tryz.ntmps31
  go_wp2_with fail
  have f0 : Fr [] w (w.alloc (.cells #[.int .i64 r.p, .slice A r.cs.length cap] 41)) := (Fr.refl _ _).alloc _
  have hr0 := Blk.new w 41 #[.int .i64 r.p, .slice A r.cs.length cap]
  generalize w.alloc (.cells #[.int .i64 r.p, .slice A r.cs.length cap] 41) = W0 at *
  have h0 := h.fr0 f0
  have hc0 := hc.fr f0 (by simp)
  have hcd := hc0.fr (Fr.refl [] W0).drew (by simp)
  have b1 : W0.cell? ⟨b, 1, none⟩ = some (.int .i64 s.pos) := h0.blk.cell 1
  have r0 := hr0.cell 0
  have r1 := hr0.cell 1
  have hlb := h0.blk.lt
  have hlr := hr0.lt
  have hw1 : IntKind.i64.wrap (s.pos + 1) = s.pos + 1 := IntWalk.i64_in _ (by omega)
  go_region_held3 (fun w' => w'.cell? ⟨w.heap.size, 0, none⟩ = some (.int .i64 r.p) ∧ w'.cell? ⟨w.heap.size, 1, none⟩ = some (.slice A r.cs.length cap) ∧ w'.cell? ⟨b, 1, none⟩ = some (.int .i64 s.pos))
    (first | go_keep | exact ⟨(hcc _ _ hlr).trans r0, (hcc _ _ hlr).trans r1, (hcc _ _ hlb).trans b1⟩)
    (first
      | (go_at_call 56; refine (validRecord_any r A cap _ hcd hlen).mono ?_; rintro e w1 ⟨he, f1⟩; rw [HV.out] at he; subst he; obtain ⟨hcc, hff⟩ := f1.rules))
  have f01 : Fr [] W0 w1 := ((Fr.refl [] _).drew).trans f1
  have h1 := h0.fr0 f01
  have hc1 := hc0.fr f01 (by simp)
  have hr1 := hr0.fr f01 (by simp)
  have F1 : Fr [] w w1 := f0.trans f01
  clear f01 hcc hff f1 r0 r1 b1 hcd h0 hc0 hr0 f0 hw1
  by_cases hp : r.p = s.pos + 1
  · have hd : (r.p != s.pos + 1) = false := by simpa using hp
    have HP := Lib.hid hp
    clear hp
    obtain ⟨bb, off, hA, hbb, hcc⟩ := hc1 (by omega)
    subst hA
    have Hcc := Lib.hid hcc
    clear hcc
    have b0 : w1.cell? ⟨b, 0, none⟩ = some (.map (some m)) := h1.blk.cell 0
    have r1 : w1.cell? ⟨w.heap.size, 1, none⟩ = some (.slice (some ⟨bb, off, none⟩) r.cs.length cap) := hr1.cell 1
    have hm1 := h1.map
    have HFF : Hid (Sm.fits s r = Sm.fitsGo s.M s.M.length r.cs) := Lib.hid (by rw [HF.out, HV.out]; simp [HP.out])
    have R0 : FitsRel w b m s r.cs 0 s.M.length w1 := ⟨Nat.zero_le _, rfl, F1, by omega⟩
    have hval := Lib.hid (Rw.valid_chgs HV.out)
    have FW1 : Fr [] w1 w1 := Fr.refl _ _
    generalize r.cs = cs at *
    go_wp2_with (at_len; refine wpList_vlen _ rfl _ rfl Tryz.underlying67 m _ rfl hm1 ?_)
    clear b0 r1 hm1
    go_loopw [5, 33] (fun nv i wr => ∃ (k : Nat) (n : Int), (nv = .int .i64 n ∧ i = .int .i64 k) ∧ FitsRel w b m s cs k n wr ∧ Fr [] w1 wr) (fun _ i _ => cs.length - (intOf i).toNat)
    case atStart => exact ⟨0, _, ⟨rfl, rfl⟩, R0, FW1⟩
    case round =>
      clear R0 FW1
      obtain ⟨k, n, ⟨rfl, rfl⟩, ⟨hk, hgo, hfr, hn1, hn2⟩, hf1⟩ := hrel
      by_cases hlt : k < cs.length
      · have hck := Lib.hid (fun j hj => (hf1.cell (p := ⟨bb, off + k * 10 + j, none⟩) hbb (by simp)).trans (Hcc.out k hlt j hj))
        have hgo' : Sm.fitsGo s.M s.M.length cs = (Sm.meets s.M cs[k] && Sm.fitsGo s.M (Sm.grow n cs[k]) (cs.drop (k + 1))) := by
          rw [hgo, List.drop_eq_getElem_cons hlt]; rfl
        have HGO := Lib.hid hgo'
        have hcb := Rw.chg_bounds (hval.out _ (List.getElem_mem hlt))
        clear hgo hgo'
        generalize cs[k] = c at hck HGO hcb
        obtain ⟨t, kk, had, o0, o1, o2, has, n0, n1, n2⟩ := c
        dsimp only at hcb
        have c0 : wr.cell? ⟨bb, off + k * 10, none⟩ = some (.int .i64 t) := hck.out 0 (by decide)
        have c1 : wr.cell? ⟨bb, off + k * 10 + 1, none⟩ = some (.int .i64 kk) := hck.out 1 (by decide)
        have c2 : wr.cell? ⟨bb, off + k * 10 + 2, none⟩ = some (.bool had) := hck.out 2 (by decide)
        have c3 : wr.cell? ⟨bb, off + k * 10 + 3, none⟩ = some (.int .i64 o0) := hck.out 3 (by decide)
        have c4 : wr.cell? ⟨bb, off + k * 10 + 4, none⟩ = some (.int .i64 o1) := hck.out 4 (by decide)
        have c5 : wr.cell? ⟨bb, off + k * 10 + 5, none⟩ = some (.int .i64 o2) := hck.out 5 (by decide)
        have c6 : wr.cell? ⟨bb, off + k * 10 + 6, none⟩ = some (.bool has) := hck.out 6 (by decide)
        have c7 : wr.cell? ⟨bb, off + k * 10 + 7, none⟩ = some (.int .i64 n0) := hck.out 7 (by decide)
        have c8 : wr.cell? ⟨bb, off + k * 10 + 8, none⟩ = some (.int .i64 n1) := hck.out 8 (by decide)
        have c9 : wr.cell? ⟨bb, off + k * 10 + 9, none⟩ = some (.int .i64 n2) := hck.out 9 (by decide)
        clear hck
        have hs := hfr
        have h2 := h1.fr0 hf1
        have b0 : wr.cell? ⟨b, 0, none⟩ = some (.map (some m)) := h2.blk.cell 0
        have hlb2 := h2.blk.lt
        have hid : IdK.val (idOf t kk) = .agg #[.int .i64 t, .int .i64 kk] := by
          have := idOf_val (t := t) (k := kk) (okI_mk (by omega) (by omega)) (okI_mk (by omega) (by omega))
          unfold IdK.val
          rw [this]
        have hlk : ∀ o, (Instr.lookup 67 (.map (some m)) (.agg #[.int .i64 t, .int .i64 kk]) true).run Tryz.prog (wr.alloc o).drew = .ok (.tuple #[((mget s.M (idOf t kk)).map RowV.val).getD (.agg #[.int .i64 0, .int .i64 0, .int .i64 0, .int .i64 0, .int .i64 0]), .bool (mget s.M (idOf t kk)).isSome]) (wr.alloc o).drew := by
          intro o
          have h3 := VMap.look tyIdRow (h2.map.alloc o).drew (idOf t kk) trivial true
          rw [hid] at h3
          exact h3
        have hlk2 : ∀ o o', (Instr.lookup 67 (.map (some m)) (.agg #[.int .i64 t, .int .i64 kk]) true).run Tryz.prog ((wr.alloc o).alloc o').drew = .ok (.tuple #[((mget s.M (idOf t kk)).map RowV.val).getD (.agg #[.int .i64 0, .int .i64 0, .int .i64 0, .int .i64 0, .int .i64 0]), .bool (mget s.M (idOf t kk)).isSome]) ((wr.alloc o).alloc o').drew := by
          intro o o'
          have h3 := VMap.look tyIdRow ((h2.map.alloc o).alloc o').drew (idOf t kk) trivial true
          rw [hid] at h3
          exact h3
        clear hid
        have HM : Hid (Sm.meets s.M ⟨t, kk, had, o0, o1, o2, has, n0, n1, n2⟩ = match mget s.M (idOf t kk) with
          | some r => had && decide (r.x = o0 ∧ r.y = o1 ∧ r.z = o2)
          | none => !had) := Lib.hid rfl
        have hqn := neq_v3
        have hqg := eqGuard_v3
        cases hg : mget s.M (idOf t kk) with
        | none =>
          simp only [hg, Option.map_none, Option.getD_none, Option.isSome_none] at hlk hlk2
          have HM2 : Hid (Sm.meets s.M ⟨t, kk, had, o0, o1, o2, has, n0, n1, n2⟩ = !had) := Lib.hid (by rw [HM.out, hg])
          clear HM hg
          go_wp2_with fail
          go_region
          cases had
          · cases has
            · go_wp2_with fail
              go_roundw
              case rel => exact ⟨k + 1, n, ⟨rfl, by go_num⟩, ⟨by omega, by rw [HGO.out, HM2.out]; simp [Sm.grow], hfr.trans (((Fr.refl _ _).alloc _).alloc _).drew, by omega, by omega⟩, hf1.trans (((Fr.refl _ _).alloc _).alloc _).drew⟩
              case measure => simp [intOf]; omega
            · go_wp2_with fail
              go_roundw
              case rel => exact ⟨k + 1, n + 1, ⟨rfl, by go_num⟩, ⟨by omega, by rw [HGO.out, HM2.out]; simp [Sm.grow], hfr.trans (((Fr.refl _ _).alloc _).alloc _).drew, by omega, by omega⟩, hf1.trans (((Fr.refl _ _).alloc _).alloc _).drew⟩
              case measure => simp [intOf]; omega
          · have HFA : Hid (Sm.fits s r = false) := Lib.hid (by rw [HFF.out, HGO.out, HM2.out]; rfl)
            go_wp2_with fail
            go_ret
            exact ⟨by rw [HFA.out]; rfl, hfr.trans (((Fr.refl _ _).alloc _).alloc _).drew⟩
        | some u =>
          simp only [hg, Option.map_some, Option.getD_some, Option.isSome_some] at hlk hlk2
          have HM2 : Hid (Sm.meets s.M ⟨t, kk, had, o0, o1, o2, has, n0, n1, n2⟩ = (had && decide (u.x = o0 ∧ u.y = o1 ∧ u.z = o2))) := Lib.hid (by rw [HM.out, hg])
          clear HM hg
          cases had
          · have HFA : Hid (Sm.fits s r = false) := Lib.hid (by rw [HFF.out, HGO.out, HM2.out]; rfl)
            go_wp2_with fail
            go_region
            go_wp2_with fail
            go_ret
            exact ⟨by rw [HFA.out]; rfl, hfr.trans (((Fr.refl _ _).alloc _).alloc _).drew⟩
          · have hq := neq_v3 u.x u.y u.z o0 o1 o2
            by_cases he : u.x = o0 ∧ u.y = o1 ∧ u.z = o2
            · rw [decide_eq_true he] at hq HM2
              clear he hqn
              cases has
              · go_wp2_with fail
                go_region
                go_wp2_with fail
                go_roundw
                case rel => exact ⟨k + 1, n - 1, ⟨rfl, by go_num⟩, ⟨by omega, by rw [HGO.out, HM2.out]; simp [Sm.grow], hfr.trans (((Fr.refl _ _).alloc _).alloc _).drew, by omega, by omega⟩, hf1.trans (((Fr.refl _ _).alloc _).alloc _).drew⟩
                case measure => simp [intOf]; omega
              · go_wp2_with fail
                go_region
                go_wp2_with fail
                go_roundw
                case rel => exact ⟨k + 1, n, ⟨rfl, by go_num⟩, ⟨by omega, by rw [HGO.out, HM2.out]; simp [Sm.grow], hfr.trans (((Fr.refl _ _).alloc _).alloc _).drew, by omega, by omega⟩, hf1.trans (((Fr.refl _ _).alloc _).alloc _).drew⟩
                case measure => simp [intOf]; omega
            · rw [decide_eq_false he] at hq HM2
              have HFA : Hid (Sm.fits s r = false) := Lib.hid (by rw [HFF.out, HGO.out, HM2.out]; rfl)
              clear he hqn
              go_wp2_with fail
              go_region
              go_wp2_with fail
              go_ret
              exact ⟨by rw [HFA.out]; rfl, hfr.trans (((Fr.refl _ _).alloc _).alloc _).drew⟩
      · have HFA : Hid (Sm.fits s r = decide (n ≤ 2000)) := Lib.hid (by
          rw [HFF.out, hgo, List.drop_of_length_le (by omega)]
          rfl)
        clear hgo
        go_wp2_with fail
        go_ret
        exact ⟨by rw [HFA.out]; rfl, hfr⟩
  · have hd : (r.p != s.pos + 1) = true := by simpa using hp
    have HFF : Hid (Sm.fits s r = false) := Lib.hid (by rw [HF.out, HV.out]; simp [hp])
    clear hp
    go_wp2_with fail
    go_ret
    exact ⟨by rw [HFF.out]; rfl, F1⟩
end Go.Proofs.YtjiikpmkedkbkaaGreat
namespace Go.Proofs.YtjiikpmkedkbkaaGreat
open Go.RowKit

theorem after_no (c : Chg) (h : c.has = false) (w : World) : Calls Tryz.prog 32 #[c.val] w fun e w' =>
    e = .returned (.tuple #[rowVal 0 0 0 0 0, .bool false]) ∧ Fr [] w w' := by
  obtain ⟨t, k, had, o0, o1, o2, has, n0, n1, n2⟩ := c
  dsimp only at h
  subst h
  have F0 : Fr [] w ((w.alloc (.cells #[.int .i64 t, .int .i64 k, .bool had, .int .i64 o0, .int .i64 o1, .int .i64 o2, .bool false, .int .i64 n0, .int .i64 n1, .int .i64 n2] 45)).alloc (.cells #[.int .i64 0, .int .i64 0, .int .i64 0, .int .i64 0, .int .i64 0] 53)) := ((Fr.refl _ _).alloc _).alloc _
  have hB := Blk.new (w.alloc (.cells #[.int .i64 t, .int .i64 k, .bool had, .int .i64 o0, .int .i64 o1, .int .i64 o2, .bool false, .int .i64 n0, .int .i64 n1, .int .i64 n2] 45)) 53 #[.int .i64 0, .int .i64 0, .int .i64 0, .int .i64 0, .int .i64 0]
  rw [World.size_alloc] at hB
  have hh := half_no ⟨t, k, had, o0, o1, o2, false, n0, n1, n2⟩ n0 n1 n2
  unfold Chg.val rowVal at *
  go_enter Tryz.func32, Tryz.ntmps32
  go_wp2_with fail
  refine (hh _).mono ?_
  rintro e w1 ⟨rfl, f1⟩
  have F1 := F0.trans f1
  have hB1 := hB.fr f1 (by simp)
  have h0 := hB1.cell 0
  have h1 := hB1.cell 1
  have h2 := hB1.cell 2
  have h3 := hB1.cell 3
  have h4 := hB1.cell 4
  have z0 := hB1.frozen 0
  have z1 := hB1.frozen 1
  have z2 := hB1.frozen 2
  have z3 := hB1.frozen 3
  have z4 := hB1.frozen 4
  go_wp2_with fail
  refine bodyPost_ret (v := .tuple #[.agg #[.int .i64 0, .int .i64 0, .int .i64 0, .int .i64 0, .int .i64 0], .bool false]) (by simp [results, Tryz.results32, go_sem, h0, h1, h2, h3, h4]) rfl ⟨rfl, ?_⟩
  repeat first | exact F1 | refine Fr.setCell ?_ (.inr (by simp)) _
theorem after_yes (c : Chg) (h : c.has = true) (w : World) : Calls Tryz.prog 32 #[c.val] w fun e w' =>
    e = .returned (.tuple #[rowVal c.t c.k c.n0 c.n1 c.n2, .bool true]) ∧ Fr [] w w' := by
  obtain ⟨t, k, had, o0, o1, o2, has, n0, n1, n2⟩ := c
  dsimp only at h
  subst h
  have F0 : Fr [] w ((w.alloc (.cells #[.int .i64 t, .int .i64 k, .bool had, .int .i64 o0, .int .i64 o1, .int .i64 o2, .bool true, .int .i64 n0, .int .i64 n1, .int .i64 n2] 45)).alloc (.cells #[.int .i64 0, .int .i64 0, .int .i64 0, .int .i64 0, .int .i64 0] 53)) := ((Fr.refl _ _).alloc _).alloc _
  have hB := Blk.new (w.alloc (.cells #[.int .i64 t, .int .i64 k, .bool had, .int .i64 o0, .int .i64 o1, .int .i64 o2, .bool true, .int .i64 n0, .int .i64 n1, .int .i64 n2] 45)) 53 #[.int .i64 0, .int .i64 0, .int .i64 0, .int .i64 0, .int .i64 0]
  rw [World.size_alloc] at hB
  have hh := half_yes ⟨t, k, had, o0, o1, o2, true, n0, n1, n2⟩ n0 n1 n2
  unfold Chg.val rowVal at *
  go_enter Tryz.func32, Tryz.ntmps32
  go_wp2_with fail
  refine (hh _).mono ?_
  rintro e w1 ⟨rfl, f1⟩
  have F1 := F0.trans f1
  have hB1 := hB.fr f1 (by simp)
  have h0 := hB1.cell 0
  have h1 := hB1.cell 1
  have h2 := hB1.cell 2
  have h3 := hB1.cell 3
  have h4 := hB1.cell 4
  have z0 := hB1.frozen 0
  have z1 := hB1.frozen 1
  have z2 := hB1.frozen 2
  have z3 := hB1.frozen 3
  have z4 := hB1.frozen 4
  go_wp2_with fail
  refine bodyPost_ret (v := .tuple #[.agg #[.int .i64 t, .int .i64 k, .int .i64 n0, .int .i64 n1, .int .i64 n2], .bool true]) (by simp [results, Tryz.results32, go_sem, h0, h1, h2, h3, h4]) rfl ⟨rfl, ?_⟩
  repeat first | exact F1 | refine Fr.setCell ?_ (.inr (by simp)) _
end Go.Proofs.YtjiikpmkedkbkaaGreat
namespace Go.Proofs.YtjiikpmkedkbkaaGreat
open Go.RowKit

theorem Blk.ne {w : World} {a b ta tb : Nat} {ca cb : Array Value} (h1 : Blk w a ta ca) (h2 : Blk w b tb cb) (hne : ta ≠ tb) : a ≠ b := by
  rintro rfl
  unfold Blk at h1 h2
  rw [h1] at h2
  injection h2 with h2
  injection h2 with _ h2
  exact hne h2

/-- Changes of a record in a block of changes: nobody writes there. -/
def HoldsC (w : World) (A : Option Addr) (cs : List Chg) : Prop := ChgsAt w A cs ∧ (0 < cs.length → ∀ ad, A = some ad → ∃ arr fz, w.heap[ad.block]? = some (.cells arr 45 fz))
/-- None of the blocks in S holds changes. -/
def NoC (w : World) (S : List Nat) : Prop := ∀ s ∈ S, ∀ arr fz, w.heap[s]? ≠ some (.cells arr 45 fz)
theorem NoC.nil {w : World} : NoC w [] := fun _ h => by simp at h
theorem NoC.cons {w : World} {s : Nat} {S : List Nat} (h1 : ∀ arr fz, w.heap[s]? ≠ some (.cells arr 45 fz)) (h2 : NoC w S) : NoC w (s :: S) := fun x hx => by
  rcases List.mem_cons.1 hx with rfl | hx
  · exact h1
  · exact h2 x hx
theorem noC_blk {w : World} {s ty : Nat} {cs : Array Value} (h : Blk w s ty cs) (hne : ty ≠ 45) : ∀ arr fz, w.heap[s]? ≠ some (.cells arr 45 fz) := by
  intro arr fz e
  unfold Blk at h
  rw [h] at e
  injection e with e
  injection e with _ e
  exact hne e
theorem noC_map {K V : Type} {P : Program} {k : TypeId} {kl : K → Lit} {ev : V → Value} {w : World} {b : Nat} {M : List (K × V)} (h : VMap P k kl ev w b M) : ∀ arr fz, w.heap[b]? ≠ some (.cells arr 45 fz) := by
  intro arr fz e
  obtain ⟨es, clock, hb, _⟩ := h
  rw [hb] at e
  cases e
theorem noC_new {w : World} {s : Nat} (h : w.heap.size ≤ s) : ∀ arr fz, w.heap[s]? ≠ some (.cells arr 45 fz) := by
  intro arr fz e
  rw [Array.getElem?_eq_none h] at e
  cases e
theorem HoldsC.fr {w w' : World} {A : Option Addr} {cs : List Chg} {S : List Nat} (h : HoldsC w A cs) (hf : Fr S w w') (hs : NoC w S) : HoldsC w' A cs := by
  have hn : 0 < cs.length → ∀ ad, A = some ad → ad.block ∉ S := fun hl ad e hm => by
    obtain ⟨arr, fz, hb⟩ := h.2 hl ad e
    exact hs _ hm arr fz hb
  refine ⟨fun hl => (h.1.fr hf (hn hl)) hl, fun hl ad e => ?_⟩
  obtain ⟨arr, fz, hb⟩ := h.2 hl ad e
  exact ⟨arr, fz, (hf.block _ (Array.getElem?_eq_some_iff.1 hb).1 (hn hl ad e)).trans hb⟩
end Go.Proofs.YtjiikpmkedkbkaaGreat
namespace Go.Proofs.YtjiikpmkedkbkaaGreat
open Go.RowKit

/-- At the head of each round of Apply. -/
def ApRel (w : World) (m : Nat) (s : Sm.Sta) (cs : List Chg) (k : Nat) (wr : World) : Prop := k ≤ cs.length ∧ VMap Tryz.prog 78 klId RowV.val wr m ((cs.take k).foldl Sm.put1 s.M) ∧ Fr [m] w wr

set_option maxRecDepth 100000 in
set_option maxHeartbeats 2000000 in
theorem sapply_any (b m : Nat) (s : Sm.Sta) (r : Rec) (A : Option Addr) (cap : Nat) (w : World) (h : StaAt w b m s) (hc : HoldsC w A r.cs) (hlen : r.cs.length ≤ maxLen) :
    Calls Tryz.prog 13 #[.pointer (some ⟨b, 0, none⟩), .agg #[.int .i64 r.p, .slice A r.cs.length cap]] w fun e w' => e = .returned (.int .i64 (Sm.code s r)) ∧ StaAt w' b m (Sm.apply s r) ∧ Fr [b, m] w w' := by
  have HC : Hid (Sm.code s r = if Sm.fits s r = true then 0 else 40) := Lib.hid rfl
  have HA : Hid (Sm.apply s r = if Sm.fits s r = true then ⟨r.cs.foldl Sm.put1 s.M, r.p⟩ else s) := Lib.hid rfl
  have HOK := h.ok.applied r
  have hnb := h.ne
  have f0 : Fr [] w (w.alloc (.cells #[.int .i64 r.p, .slice A r.cs.length cap] 41)) := (Fr.refl _ _).alloc _
  have hr0 := Blk.new w 41 #[.int .i64 r.p, .slice A r.cs.length cap]
  go_enter Tryz.func13, Tryz.ntmps13
  go_wp2_with fail
  generalize w.alloc (.cells #[.int .i64 r.p, .slice A r.cs.length cap] 41) = W0 at *
  have h0 := h.fr0 f0
  have hc0 := hc.fr f0 NoC.nil
  have r0 := hr0.cell 0
  have r1 := hr0.cell 1
  have hlr := hr0.lt
  have hbr : b ≠ w.heap.size := Nat.ne_of_lt h.lt.1
  have hmr : m ≠ w.heap.size := Nat.ne_of_lt h.lt.2
  refine (fits_any b m s r A cap _ h0 hc0.1 hlen).mono ?_
  rintro e w1 ⟨rfl, f1⟩
  have h1 := h0.fr0 f1
  have hc1 := hc0.fr f1 NoC.nil
  have hr1 := hr0.fr f1 (by simp)
  have F1 : Fr [] w w1 := f0.trans f1
  clear f1 r0 r1 h0 hc0 hr0 f0 hlr
  cases hf : Sm.fits s r
  · rw [hf] at HC HA
    clear hf HOK
    go_wp2_with fail
    go_ret
    exact ⟨by rw [HC.out]; rfl, by rw [HA.out]; exact h1, F1.mono (by simp)⟩
  · rw [hf] at HC HA
    have HV := Lib.hid (Rw.valid_chgs (r := r) (by
      simp only [Sm.fits, Bool.and_eq_true] at hf
      exact hf.1.1))
    have hlen8 : 1 ≤ r.cs.length ∧ r.cs.length ≤ 8 := by
      have h1 := hf
      simp only [Sm.fits, Rw.valid, Rw.inI, Bool.and_eq_true, decide_eq_true_eq] at h1
      omega
    clear hf
    rw [HA.out, if_pos rfl] at HOK
    have r0 := hr1.cell 0
    have r1 := hr1.cell 1
    have R0 : ApRel w1 m s r.cs 0 w1 := ⟨Nat.zero_le _, h1.map, Fr.refl _ _⟩
    obtain ⟨bb, off, hA, hbb, hcc⟩ := hc1.1 (by omega)
    clear hbb hcc
    subst hA
    have HL := Sm.fold_len
    have hml := h1.ok.len
    have hnd := h1.ok.nd
    generalize r.cs = cs at *
    go_wp2_with fail
    go_loopw [21] (fun i wr => ∃ k : Nat, i = .int .i64 k ∧ ApRel w1 m s cs k wr) (fun i _ => cs.length - (intOf i).toNat)
    case atStart => exact ⟨0, rfl, R0⟩
    case round =>
      clear R0 r0 r1
      obtain ⟨k, rfl, hk, hm1, hf1⟩ := hrel
      have hc2 := hc1.fr hf1 (NoC.cons (noC_map h1.map) NoC.nil)
      have hb2 := h1.blk.fr hf1 (by simpa using hnb.symm)
      have hr2 := hr1.fr hf1 (by simpa using hmr.symm)
      have b0 : wr.cell? ⟨b, 0, none⟩ = some (.map (some m)) := hb2.cell 0
      by_cases hlt : k < cs.length
      · obtain ⟨bb', off', hA', hbb, hcc⟩ := hc2.1 (by omega)
        cases hA'
        have hck := Lib.hid (fun j hj => hcc k hlt j hj)
        have hcb := Rw.chg_bounds (HV.out _ (List.getElem_mem hlt))
        have htk : (cs.take (k + 1)).foldl Sm.put1 s.M = Sm.put1 ((cs.take k).foldl Sm.put1 s.M) cs[k] := by
          rw [List.take_succ_eq_append_getElem hlt, List.foldl_append]
          rfl
        have HTK := Lib.hid htk
        have hsz : ((cs.take k).foldl Sm.put1 s.M).length < maxLen := by
          have := (HL (cs.take k) s.M hnd).2
          rw [List.length_take] at this
          simp only [maxLen]
          omega
        clear hcc htk
        generalize cs[k] = c at hck HTK hcb
        generalize (cs.take k).foldl Sm.put1 s.M = M at *
        obtain ⟨t, kk, had, o0, o1, o2, has, n0, n1, n2⟩ := c
        dsimp only at hcb
        have c0 : wr.cell? ⟨bb, off + k * 10, none⟩ = some (.int .i64 t) := hck.out 0 (by decide)
        have c1 : wr.cell? ⟨bb, off + k * 10 + 1, none⟩ = some (.int .i64 kk) := hck.out 1 (by decide)
        have c2 : wr.cell? ⟨bb, off + k * 10 + 2, none⟩ = some (.bool had) := hck.out 2 (by decide)
        have c3 : wr.cell? ⟨bb, off + k * 10 + 3, none⟩ = some (.int .i64 o0) := hck.out 3 (by decide)
        have c4 : wr.cell? ⟨bb, off + k * 10 + 4, none⟩ = some (.int .i64 o1) := hck.out 4 (by decide)
        have c5 : wr.cell? ⟨bb, off + k * 10 + 5, none⟩ = some (.int .i64 o2) := hck.out 5 (by decide)
        have c6 : wr.cell? ⟨bb, off + k * 10 + 6, none⟩ = some (.bool has) := hck.out 6 (by decide)
        have c7 : wr.cell? ⟨bb, off + k * 10 + 7, none⟩ = some (.int .i64 n0) := hck.out 7 (by decide)
        have c8 : wr.cell? ⟨bb, off + k * 10 + 8, none⟩ = some (.int .i64 n1) := hck.out 8 (by decide)
        have c9 : wr.cell? ⟨bb, off + k * 10 + 9, none⟩ = some (.int .i64 n2) := hck.out 9 (by decide)
        clear hck
        have hid : IdK.val (idOf t kk) = .agg #[.int .i64 t, .int .i64 kk] := by
          have := idOf_val (t := t) (k := kk) (okI_mk (by omega) (by omega)) (okI_mk (by omega) (by omega))
          unfold IdK.val
          rw [this]
        have HID := Lib.hid hid.symm
        clear hid
        have hI := Blk.new (wr.alloc (.cells #[.int .i64 t, .int .i64 kk, .bool had, .int .i64 o0, .int .i64 o1, .int .i64 o2, .bool has, .int .i64 n0, .int .i64 n1, .int .i64 n2] 45)) 78 #[.int .i64 t, .int .i64 kk]
        rw [World.size_alloc] at hI
        have FA : Fr [] wr ((wr.alloc (.cells #[.int .i64 t, .int .i64 kk, .bool had, .int .i64 o0, .int .i64 o1, .int .i64 o2, .bool has, .int .i64 n0, .int .i64 n1, .int .i64 n2] 45)).alloc (.cells #[.int .i64 t, .int .i64 kk] 78)) := ((Fr.refl _ _).alloc _).alloc _
        cases has
        · have hay := after_no ⟨t, kk, had, o0, o1, o2, false, n0, n1, n2⟩ rfl
          unfold Chg.val rowVal at hay
          go_wp2_with fail
          refine (hay _).mono ?_
          rintro e w2 ⟨rfl, f2⟩
          have F2 := FA.trans f2
          have hI2 := hI.fr f2 (by simp)
          clear f2 hI FA hay c0 c1 c2 c3 c4 c5 c6 c7 c8 c9
          have F3 := F2.alloc (.cells #[.int .i64 0, .int .i64 0, .int .i64 0, .int .i64 0, .int .i64 0] 53)
          have hI3 := hI2.fr ((Fr.refl [] w2).alloc (.cells #[.int .i64 0, .int .i64 0, .int .i64 0, .int .i64 0, .int .i64 0] 53)) (by simp)
          have hR3 := Blk.new w2 53 #[.int .i64 0, .int .i64 0, .int .i64 0, .int .i64 0, .int .i64 0]
          have i0 := hI3.cell 0
          have i1 := hI3.cell 1
          have y0 := hR3.cell 0
          have y1 := hR3.cell 1
          have y2 := hR3.cell 2
          have y3 := hR3.cell 3
          have y4 := hR3.cell 4
          have b3 := (hb2.fr F3 (by simp)).cell 0
          go_wp2_with fail
          generalize w2.alloc (.cells #[.int .i64 0, .int .i64 0, .int .i64 0, .int .i64 0, .int .i64 0] 53) = W3 at *
          go_still_tail 6, (by kernel_rfl)
          have hm3 : VMap Tryz.prog 78 klId RowV.val W3.drew m M := (hm1.fr F3 (by simp)).drew
          have F4 : Fr [] wr W3.drew := F3.drew
          change wpList _ _ _ _ _ W3.drew
          generalize W3.drew = W4 at hm3 F4 ⊢
          clear F3 hI3 hR3 i0 i1 y0 y1 y2 y3 y4 b3 F2 hI2
          go_wp2_with (at_delete; refine wpList_vdel _ rfl _ _ rfl tyIdRow m _ rfl hm3 (idOf t kk) HID.out trivial ?_; intro w6 hm6 ht6)
          go_roundw
          case rel => exact ⟨k + 1, by go_num, by omega, by rw [HTK.out]; exact hm6, (hf1.trans (F4.mono (by simp))).trans (turned_fr ht6 (by simp))⟩
          case measure => simp [intOf]; omega
        · have hay := after_yes ⟨t, kk, had, o0, o1, o2, true, n0, n1, n2⟩ rfl
          unfold Chg.val rowVal at hay
          go_wp2_with fail
          refine (hay _).mono ?_
          rintro e w2 ⟨rfl, f2⟩
          have F2 := FA.trans f2
          have hI2 := hI.fr f2 (by simp)
          clear f2 hI FA hay c0 c1 c2 c3 c4 c5 c6 c7 c8 c9
          have F3 := F2.alloc (.cells #[.int .i64 t, .int .i64 kk, .int .i64 n0, .int .i64 n1, .int .i64 n2] 53)
          have hI3 := hI2.fr ((Fr.refl [] w2).alloc (.cells #[.int .i64 t, .int .i64 kk, .int .i64 n0, .int .i64 n1, .int .i64 n2] 53)) (by simp)
          have hR3 := Blk.new w2 53 #[.int .i64 t, .int .i64 kk, .int .i64 n0, .int .i64 n1, .int .i64 n2]
          have i0 := hI3.cell 0
          have i1 := hI3.cell 1
          have y0 := hR3.cell 0
          have y1 := hR3.cell 1
          have y2 := hR3.cell 2
          have y3 := hR3.cell 3
          have y4 := hR3.cell 4
          have b3 := (hb2.fr F3 (by simp)).cell 0
          go_wp2_with fail
          generalize w2.alloc (.cells #[.int .i64 t, .int .i64 kk, .int .i64 n0, .int .i64 n1, .int .i64 n2] 53) = W3 at *
          go_still_tail 7, (by kernel_rfl)
          have hm3 : VMap Tryz.prog 78 klId RowV.val W3.drew m M := (hm1.fr F3 (by simp)).drew
          have F4 : Fr [] wr W3.drew := F3.drew
          change wpList _ _ _ _ _ W3.drew
          generalize W3.drew = W4 at hm3 F4 ⊢
          clear F3 hI3 hR3 i0 i1 y0 y1 y2 y3 y4 b3 F2 hI2
          go_wp2_with (at_mapUpdate; refine wpList_vstore _ rfl _ _ _ rfl tyIdRow m _ rfl hm3 (idOf t kk) ⟨t, kk, n0, n1, n2⟩ HID.out rfl trivial hsz ?_; intro w6 hm6 ht6)
          go_roundw
          case rel => exact ⟨k + 1, by go_num, by omega, by rw [HTK.out]; exact hm6, (hf1.trans (F4.mono (by simp))).trans (turned_fr ht6 (by simp))⟩
          case measure => simp [intOf]; omega
      · have hke : cs.take k = cs := List.take_of_length_le (by omega)
        rw [hke] at hm1
        have r0 := hr2.cell 0
        have z1 := hb2.frozen 1
        have b1 := hb2.cell 1
        have hb3 := hb2.set_ 1 (.int .i64 r.p)
        have FS : Fr [b] wr (wr.setCell ⟨b, 1, none⟩ (.int .i64 r.p)) := (Fr.refl _ _).setCell (.inl (by simp)) _
        have hm3 := hm1.fr FS (by simpa using hnb)
        have F5 : Fr [b, m] w (wr.setCell ⟨b, 1, none⟩ (.int .i64 r.p)) := ((F1.mono (by simp)).trans (hf1.mono (by simp))).trans (FS.mono (by simp))
        clear hke FS
        go_wp2_with fail
        go_ret
        refine ⟨by rw [HC.out]; rfl, ?_, F5⟩
        rw [HA.out]
        simp only [↓reduceIte]
        exact ⟨by simpa using hb3, hm3, HOK⟩
end Go.Proofs.YtjiikpmkedkbkaaGreat
namespace Go.Proofs.YtjiikpmkedkbkaaGreat
open Go.RowKit

/-- What 'Get' answers for what is there. -/
abbrev gotVal (o : Option RowV) : Value := .tuple #[(o.map RowV.val).getD (.agg #[.int .i64 0, .int .i64 0, .int .i64 0, .int .i64 0, .int .i64 0]), .bool o.isSome]

/-- A row laid into the result's block. -/
theorem row_laid {W w : World} {F : World} {t k x y z t0 k0 x0 y0 z0 : Int} (hF : F = ((((W.setCell ⟨w.heap.size, 0, none⟩ (.int .i64 t)).setCell ⟨w.heap.size, 1, none⟩ (.int .i64 k)).setCell ⟨w.heap.size, 2, none⟩ (.int .i64 x)).setCell ⟨w.heap.size, 3, none⟩ (.int .i64 y)).setCell ⟨w.heap.size, 4, none⟩ (.int .i64 z))
    (hn : Blk W w.heap.size 53 #[.int .i64 t0, .int .i64 k0, .int .i64 x0, .int .i64 y0, .int .i64 z0]) (f : Fr [] w W) :
    (F.cell? ⟨w.heap.size, 0, none⟩ = some (.int .i64 t) ∧ F.cell? ⟨w.heap.size, 1, none⟩ = some (.int .i64 k) ∧ F.cell? ⟨w.heap.size, 2, none⟩ = some (.int .i64 x) ∧ F.cell? ⟨w.heap.size, 3, none⟩ = some (.int .i64 y) ∧ F.cell? ⟨w.heap.size, 4, none⟩ = some (.int .i64 z)) ∧ Fr [] w F := by
  subst hF
  have hS := ((((hn.set_ 0 (.int .i64 t)).set_ 1 (.int .i64 k)).set_ 2 (.int .i64 x)).set_ 3 (.int .i64 y)).set_ 4 (.int .i64 z)
  refine ⟨⟨hS.cell 0, hS.cell 1, hS.cell 2, hS.cell 3, hS.cell 4⟩, ?_⟩
  exact ((((f.setCell (.inr (Nat.le_refl _)) _).setCell (.inr (Nat.le_refl _)) _).setCell (.inr (Nat.le_refl _)) _).setCell (.inr (Nat.le_refl _)) _).setCell (.inr (Nat.le_refl _)) _

set_option maxRecDepth 100000 in
theorem rfget_any (b : Nat) (v : Value) (L : List RowV) (s : Sm.Sta) (t k : Int) (w : World) (h : RfAt w b v L s) (ht : okI t) (hk : okI k) :
    Calls Tryz.prog 25 #[.pointer (some ⟨b, 0, none⟩), .int .i64 t, .int .i64 k] w fun e w' => e = .returned (gotVal (mget s.M (idOf t k))) ∧ Fr [] w w' := by
  obtain ⟨A, cap, hv⟩ := h.row.val
  subst hv
  have hlen : L.length ≤ 2000 := by rw [h.sim.len]; exact h.ok.len
  have hres := Lib.hid (fun (n : Nat) (hp : Sm.Plc L t k n) => And.intro (fun (hl : n < L.length) (e1 : L[n].t = t) (e2 : L[n].k = k) => hp.hit h.sim h.ok.nd h.ok.key ht hk hl e1 e2) (hp.miss h.sim h.ok.nd h.ok.key ht hk))
  have F0 : Fr [] w (w.alloc (.cells #[.int .i64 0, .int .i64 0, .int .i64 0, .int .i64 0, .int .i64 0] 53)) := (Fr.refl _ _).alloc _
  have hn := Blk.new w 53 #[.int .i64 0, .int .i64 0, .int .i64 0, .int .i64 0, .int .i64 0]
  have h0 := h.fr0 F0
  have hb0 : (w.alloc (.cells #[.int .i64 0, .int .i64 0, .int .i64 0, .int .i64 0, .int .i64 0] 53)).cell? ⟨b, 0, none⟩ = some (.slice A L.length cap) := h0.blk.cell 0
  have HP := Lib.hid (place_any b A cap L t k _ hb0 h0.row h0.sim.srt (by omega))
  have hlb := h.blk.lt
  go_enter Tryz.func25, Tryz.ntmps25
  clear hb0
  go_wp2_with fail
  refine HP.out.mono ?_
  rintro e w' ⟨n, ⟨rfl, rfl⟩, hp⟩
  obtain ⟨hhit, hmiss⟩ := hres.out n hp
  have hnl := hp.le
  clear HP hres hp
  have HR := Lib.hid (fun (h : 0 < L.length) => h0.row.form RowV.cells_len h)
  have c0 : (w.alloc (.cells #[.int .i64 0, .int .i64 0, .int .i64 0, .int .i64 0, .int .i64 0] 53)).cell? ⟨b, 0, none⟩ = some (.slice A L.length cap) := h0.blk.cell 0
  have d0 := hn.cell 0
  have d1 := hn.cell 1
  have d2 := hn.cell 2
  have d3 := hn.cell 3
  have d4 := hn.cell 4
  have z0 := hn.frozen 0
  have z1 := hn.frozen 1
  have z2 := hn.frozen 2
  have z3 := hn.frozen 3
  have z4 := hn.frozen 4
  clear h0
  by_cases hlt : n < L.length
  · obtain ⟨gR, cap', hA, hlc, hcm, hgl, hcell, hfz⟩ := HR.out (by omega)
    cases hA
    replace hhit := hhit hlt
    have hmiss' : ¬ (L[n].t = t ∧ L[n].k = k) → mget s.M (idOf t k) = none := fun h => hmiss fun _ => h
    have HH := Lib.hid hhit
    have HM := Lib.hid hmiss'
    obtain ⟨x, hx⟩ : ∃ x, L[n] = x := ⟨_, rfl⟩
    obtain ⟨xt, xk, xa, xb, xc⟩ := x
    have hce := Lib.hid (fun j (hj : j < 5) => hcell n hlt j hj)
    clear hmiss hmiss' hhit hcell hfz HR
    rw [hx] at HH HM hce
    clear hx
    generalize w.alloc (.cells #[.int .i64 0, .int .i64 0, .int .i64 0, .int .i64 0, .int .i64 0] 53) = W0 at *
    have x0 : W0.cell? ⟨gR, n * 5, none⟩ = some (.int .i64 xt) := hce.out 0 (by decide)
    have x1 : W0.cell? ⟨gR, n * 5 + 1, none⟩ = some (.int .i64 xk) := hce.out 1 (by decide)
    have x2 : W0.cell? ⟨gR, n * 5 + 2, none⟩ = some (.int .i64 xa) := hce.out 2 (by decide)
    have x3 : W0.cell? ⟨gR, n * 5 + 3, none⟩ = some (.int .i64 xb) := hce.out 3 (by decide)
    have x4 : W0.cell? ⟨gR, n * 5 + 4, none⟩ = some (.int .i64 xc) := hce.out 4 (by decide)
    clear hce
    by_cases e1 : xt = t
    · have e1' : (xt == t) = true := by simpa using e1
      have E1 := Lib.hid e1
      clear e1
      by_cases e2 : xk = k
      · have e2' : (xk == k) = true := by simpa using e2
        have HG := Lib.hid (HH.out E1.out e2)
        clear e2
        go_wp2_with fail
        have hlaid := row_laid (t := xt) (k := xk) (x := xa) (y := xb) (z := xc) rfl hn F0
        refine bodyPost_ret (v := .tuple #[.agg #[.int .i64 xt, .int .i64 xk, .int .i64 xa, .int .i64 xb, .int .i64 xc], .bool true]) (by obtain ⟨⟨y0, y1, y2, y3, y4⟩, _⟩ := hlaid; simp [results, Tryz.results25, go_sem, y0, y1, y2, y3, y4]) rfl ⟨by rw [HG.out]; rfl, hlaid.2⟩
      · have e2' : (xk == k) = false := by simpa using e2
        have HG := Lib.hid (HM.out (fun h => e2 h.2))
        clear e2
        go_wp2_with fail
        have hlaid := row_laid (t := 0) (k := 0) (x := 0) (y := 0) (z := 0) rfl hn F0
        refine bodyPost_ret (v := .tuple #[.agg #[.int .i64 0, .int .i64 0, .int .i64 0, .int .i64 0, .int .i64 0], .bool false]) (by obtain ⟨⟨y0, y1, y2, y3, y4⟩, _⟩ := hlaid; simp [results, Tryz.results25, go_sem, y0, y1, y2, y3, y4]) rfl ⟨by rw [HG.out]; rfl, hlaid.2⟩
    · have e1' : (xt == t) = false := by simpa using e1
      have HG := Lib.hid (HM.out (fun h => e1 h.1))
      clear e1
      go_wp2_with fail
      have hlaid := row_laid (t := 0) (k := 0) (x := 0) (y := 0) (z := 0) rfl hn F0
      refine bodyPost_ret (v := .tuple #[.agg #[.int .i64 0, .int .i64 0, .int .i64 0, .int .i64 0, .int .i64 0], .bool false]) (by obtain ⟨⟨y0, y1, y2, y3, y4⟩, _⟩ := hlaid; simp [results, Tryz.results25, go_sem, y0, y1, y2, y3, y4]) rfl ⟨by rw [HG.out]; rfl, hlaid.2⟩
  · have HG := Lib.hid (hmiss (fun h => absurd h hlt))
    clear hmiss hhit HR
    generalize w.alloc (.cells #[.int .i64 0, .int .i64 0, .int .i64 0, .int .i64 0, .int .i64 0] 53) = W0 at *
    go_wp2_with fail
    have hlaid := row_laid (t := 0) (k := 0) (x := 0) (y := 0) (z := 0) rfl hn F0
    refine bodyPost_ret (v := .tuple #[.agg #[.int .i64 0, .int .i64 0, .int .i64 0, .int .i64 0, .int .i64 0], .bool false]) (by obtain ⟨⟨y0, y1, y2, y3, y4⟩, _⟩ := hlaid; simp [results, Tryz.results25, go_sem, y0, y1, y2, y3, y4]) rfl ⟨by rw [HG.out]; rfl, hlaid.2⟩
end Go.Proofs.YtjiikpmkedkbkaaGreat
namespace Go.Proofs.YtjiikpmkedkbkaaGreat
open Go.RowKit

/-- The value of a column: the row is boxed. -/
theorem value_any (r : RowV) (c : Int) (w : World) : Calls Tryz.prog 54 #[r.val, .int .i64 c] w fun e w' => e = .returned (.int .i64 (r.value c)) ∧ w' = w.alloc (.cells r.cells.toArray 53) := by
  obtain ⟨t, k, x, y, z⟩ := r
  unfold RowV.val
  dsimp only
  by_cases h0 : c = 0
  · subst h0
    go_enter Tryz.func54, Tryz.ntmps54
    go_wp2
    go_ret
    exact ⟨rfl, rfl⟩
  by_cases h1 : c = 1
  · subst h1
    go_enter Tryz.func54, Tryz.ntmps54
    go_wp2
    go_ret
    exact ⟨rfl, rfl⟩
  by_cases h2 : c = 2
  · subst h2
    go_enter Tryz.func54, Tryz.ntmps54
    go_wp2
    go_ret
    exact ⟨rfl, rfl⟩
  by_cases h3 : c = 3
  · subst h3
    go_enter Tryz.func54, Tryz.ntmps54
    go_wp2
    go_ret
    exact ⟨rfl, rfl⟩
  have HV : Hid (RowV.value ⟨t, k, x, y, z⟩ c = 0) := Lib.hid (by simp [RowV.value, h0, h1, h2, h3])
  have g0 : (c == 0) = false := by simpa using h0
  have g1 : (c == 1) = false := by simpa using h1
  have g2 : (c == 2) = false := by simpa using h2
  have g3 : (c == 3) = false := by simpa using h3
  clear h0 h1 h2 h3
  go_enter Tryz.func54, Tryz.ntmps54
  go_wp2
  go_ret
  exact ⟨by rw [HV.out]; rfl, rfl⟩
theorem isNaN_any (x : Int) (w : World) : Calls Tryz.prog 91 #[.int .i64 x] w fun e w' => e = .returned (.bool false) ∧ w' = w := by
  go_enter Tryz.func91, Tryz.ntmps91
  go_wp2
  go_ret
  exact ⟨by simp, rfl⟩
/-- 'cmp.Compare'. -/
def cmpI (x y : Int) : Int := if x < y then -1 else if y < x then 1 else 0
theorem compare_any (x y : Int) (w : World) : Calls Tryz.prog 79 #[.int .i64 x, .int .i64 y] w fun e w' => e = .returned (.int .i64 (cmpI x y)) ∧ w' = w := by
  have HN := Lib.hid isNaN_any
  have HC : Hid (cmpI x y = if x < y then -1 else if y < x then 1 else 0) := Lib.hid rfl
  by_cases h1 : x < y
  · have HC2 : Hid (cmpI x y = -1) := Lib.hid (by rw [HC.out, if_pos h1])
    go_enter Tryz.func79, Tryz.ntmps79
    go_wp2_with (go_at_call 91; refine (HN.out _ _).mono ?_; rintro e w' ⟨rfl, rfl⟩)
    go_ret
    exact ⟨by rw [HC2.out]; rfl, rfl⟩
  by_cases h2 : y < x
  · have HC2 : Hid (cmpI x y = 1) := Lib.hid (by rw [HC.out, if_neg h1, if_pos h2])
    go_enter Tryz.func79, Tryz.ntmps79
    go_wp2_with (go_at_call 91; refine (HN.out _ _).mono ?_; rintro e w' ⟨rfl, rfl⟩)
    go_ret
    exact ⟨by rw [HC2.out]; rfl, rfl⟩
  have HC2 : Hid (cmpI x y = 0) := Lib.hid (by rw [HC.out, if_neg h1, if_neg h2])
  go_enter Tryz.func79, Tryz.ntmps79
  go_wp2_with (go_at_call 91; refine (HN.out _ _).mono ?_; rintro e w' ⟨rfl, rfl⟩)
  go_ret
  exact ⟨by rw [HC2.out]; rfl, rfl⟩
/-- 'cmp.Or' of two. -/
theorem or_any (x y : Int) (b cap : Nat) (w : World) (h0 : w.cell? ⟨b, 0, none⟩ = some (.int .i64 x)) (h1 : w.cell? ⟨b, 1, none⟩ = some (.int .i64 y)) :
    Calls Tryz.prog 78 #[.slice (some ⟨b, 0, none⟩) 2 cap] w fun e w' => e = .returned (.int .i64 (if x = 0 then y else x)) ∧ w' = w := by
  by_cases hx : x = 0
  · subst hx
    by_cases hy : y = 0
    · subst hy
      go_enter Tryz.func78, Tryz.ntmps78
      go_wp2_with fail
      refine wp_loop_rounds 3 ?_
      rw [rounds_succ]
      go_wp2_with fail
      (try (rw [rounds_succ]; go_wp2_with fail))
      (try (rw [rounds_succ]; go_wp2_with fail))
      go_ret
      exact ⟨by simp, rfl⟩
    · have hy' : (y != 0) = true := by simpa using hy
      have HY := Lib.hid hy
      clear hy
      go_enter Tryz.func78, Tryz.ntmps78
      go_wp2_with fail
      refine wp_loop_rounds 3 ?_
      rw [rounds_succ]
      go_wp2_with fail
      (try (rw [rounds_succ]; go_wp2_with fail))
      go_ret
      exact ⟨by simp, rfl⟩
  · have hx' : (x != 0) = true := by simpa using hx
    have HX := Lib.hid hx
    clear hx
    go_enter Tryz.func78, Tryz.ntmps78
    go_wp2_with fail
    refine wp_loop_rounds 3 ?_
    rw [rounds_succ]
    go_wp2_with fail
    go_ret
    exact ⟨rfl, rfl⟩
end Go.Proofs.YtjiikpmkedkbkaaGreat

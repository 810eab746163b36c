/-
  A state in memory: Get, and the closures that chosen takes.
-/
import Derived.Test.YtjiikpmkedkbkaaFk
import Derived.Test.YtjiikpmkedkbkaaFe
import Derived.Test.YtjiikpmkedkbkaaFc
import Derived.Test.YtjiikpmkedkbkaaFb
import Derived.StillTailTactics
namespace Go.Proofs.Ytjiikpmkedkbkaa
open Go.RowKit

namespace Pm
/-- How far a value may move. -/
def Near (r r' : Res) : Prop := (r'.value = r.value ∨ (-1000000000 ≤ r'.value ∧ r'.value ≤ 1000000000)) ∨ (r.value - 2000000000 ≤ r'.value ∧ r'.value ≤ r.value + 2000000000)
theorem patch_bound {q : Qry} {r r' : Res} {c : Chg} (h : patch q r c = some r') : Near r r' := by
  unfold patch at h
  split at h
  case isFalse => injection h with h; subst h; exact .inl (.inl rfl)
  case isTrue ht =>
    have hc : Rw.chg c = true := by
      simp only [touches, Bool.and_eq_true] at ht
      exact ht.2.1
    have b1 := old_bound q hc
    have b2 := now_bound q hc
    unfold pk at h
    split at h
    · injection h with h
      subst h
      dsimp only [Near]
      split <;> (right; omega)
    · split at h
      · injection h with h
        subst h
        dsimp only [Near]
        right
        omega
      · split at h
        · unfold ext at h
          split at h
          · split at h
            · injection h with h
              subst h
              exact .inl (.inr b2)
            · cases h
          · split at h
            · injection h with h
              subst h
              dsimp only [Near]
              split
              · exact .inl (.inr b2)
              · exact .inl (.inl rfl)
            · injection h with h
              subst h
              exact .inl (.inl rfl)
        · split at h
          · split at h
            · cases h
            · cases hj : join q (pairs r.rows) c with
              | none => rw [hj] at h; cases h
              | some l => rw [hj] at h; injection h with h; subst h; exact .inl (.inl rfl)
          · injection h with h
            subst h
            exact .inl (.inl rfl)
theorem grow_le {r r' : Res} {B : Int} (h : Near r r') (h1 : -(1000000000000000000 + B) ≤ r.value) (h2 : r.value ≤ 1000000000000000000 + B) : (0 ≤ B → -(1000000000000000000 + B + 2000000000) ≤ r'.value ∧ r'.value ≤ 1000000000000000000 + B + 2000000000) := by
  intro hB
  unfold Near at h
  omega
end Pm
/-- What Apply leaves. -/
def PA (w w' : World) (J : Option (Res × Bool)) (A : Option Addr) (n : Nat) (m : Int) (f t k : Bool) (b : Nat) : Prop :=
  (k = true → ∃ L', J = some (⟨L', m, f⟩, t) ∧ AtL RowV.cells 5 w' A L' ∧ n = L'.length ∧ n ≤ b) ∧ (k = false → J = none ∧ t = true ∧ A = none ∧ n = 0 ∧ m = 0 ∧ f = false) ∧ Fr [] w w'
set_option maxRecDepth 100000 in
set_option maxHeartbeats 8000000 in
theorem apply_any (q : Qry) (hok : okI q.kind) (X : Option Addr) (n cap : Nat) (m : Int) (f : Bool) (L : List RowV) (p : Int) (AC : Option Addr) (nc cc : Nat) (cs : List Chg) (w : World) (hx : AtL RowV.cells 5 w X L) (hn : n = L.length) (hl : n + 2 * nc ≤ 40000) (hm1 : -1000000000000000000 ≤ m) (hm2 : m ≤ 1000000000000000000) (hcs : AtL Chg.cells 10 w AC cs) (hnc : nc = cs.length) :
    Calls Try.prog 18 #[q.val, .agg #[.slice X n cap, .int .i64 m, .bool f], .agg #[.int .i64 p, .slice AC nc cc]] w fun e w' => ∃ A' n' c' m' f' t k, e = .returned (.tuple #[.agg #[.slice A' n' c', .int .i64 m', .bool f'], .bool t, .bool k]) ∧ PA w w' (Pm.apply q ⟨L, m, f⟩ cs) A' n' m' f' t k (n + 2 * nc) := by
  have F0 : Hid (Fr [] w ((((w.alloc (.cells #[.int .i64 q.kind, .int .i64 q.table, .int .i64 q.column, .int .i64 q.low, .int .i64 q.high, .int .i64 q.by_, .int .i64 q.other] 24)).alloc (.cells #[.slice X n cap, .int .i64 m, .bool f] 27)).alloc (.cells #[.int .i64 p, .slice AC nc cc] 38)).alloc (.cells #[.slice none 0 0, .int .i64 0, .bool false] 27))) := Lib.hid (((((Fr.refl _ _).alloc _).alloc _).alloc _).alloc _)
  have HQ : Hid (QAt ((((w.alloc (.cells #[.int .i64 q.kind, .int .i64 q.table, .int .i64 q.column, .int .i64 q.low, .int .i64 q.high, .int .i64 q.by_, .int .i64 q.other] 24)).alloc (.cells #[.slice X n cap, .int .i64 m, .bool f] 27)).alloc (.cells #[.int .i64 p, .slice AC nc cc] 38)).alloc (.cells #[.slice none 0 0, .int .i64 0, .bool false] 27)) w.heap.size q) := Lib.hid (Blk.alloc (Blk.alloc (Blk.alloc (QAt.new w q) _) _) _)
  have hr := Blk.new (w.alloc (.cells #[.int .i64 q.kind, .int .i64 q.table, .int .i64 q.column, .int .i64 q.low, .int .i64 q.high, .int .i64 q.by_, .int .i64 q.other] 24)) 27 #[.slice X n cap, .int .i64 m, .bool f]
  rw [World.size_alloc] at hr
  have HR : Hid (Blk ((((w.alloc (.cells #[.int .i64 q.kind, .int .i64 q.table, .int .i64 q.column, .int .i64 q.low, .int .i64 q.high, .int .i64 q.by_, .int .i64 q.other] 24)).alloc (.cells #[.slice X n cap, .int .i64 m, .bool f] 27)).alloc (.cells #[.int .i64 p, .slice AC nc cc] 38)).alloc (.cells #[.slice none 0 0, .int .i64 0, .bool false] 27)) (w.heap.size + 1) 27 #[.slice X n cap, .int .i64 m, .bool f]) := Lib.hid ((hr.alloc _).alloc _)
  have hc := Blk.new ((w.alloc (.cells #[.int .i64 q.kind, .int .i64 q.table, .int .i64 q.column, .int .i64 q.low, .int .i64 q.high, .int .i64 q.by_, .int .i64 q.other] 24)).alloc (.cells #[.slice X n cap, .int .i64 m, .bool f] 27)) 38 #[.int .i64 p, .slice AC nc cc]
  rw [World.size_alloc, World.size_alloc] at hc
  have HC : Hid (Blk ((((w.alloc (.cells #[.int .i64 q.kind, .int .i64 q.table, .int .i64 q.column, .int .i64 q.low, .int .i64 q.high, .int .i64 q.by_, .int .i64 q.other] 24)).alloc (.cells #[.slice X n cap, .int .i64 m, .bool f] 27)).alloc (.cells #[.int .i64 p, .slice AC nc cc] 38)).alloc (.cells #[.slice none 0 0, .int .i64 0, .bool false] 27)) (w.heap.size + 1 + 1) 38 #[.int .i64 p, .slice AC nc cc]) := Lib.hid (hc.alloc _)
  have hz := Blk.new (((w.alloc (.cells #[.int .i64 q.kind, .int .i64 q.table, .int .i64 q.column, .int .i64 q.low, .int .i64 q.high, .int .i64 q.by_, .int .i64 q.other] 24)).alloc (.cells #[.slice X n cap, .int .i64 m, .bool f] 27)).alloc (.cells #[.int .i64 p, .slice AC nc cc] 38)) 27 #[.slice none 0 0, .int .i64 0, .bool false]
  rw [World.size_alloc, World.size_alloc, World.size_alloc] at hz
  have HZ := Lib.hid hz
  have HX := Lib.hid (hx.fr0 F0.out)
  have HN := Lib.hid hn
  have HNB : Hid (n + 2 * nc ≤ 40000) := Lib.hid hl
  have HM : Hid (-1000000000000000000 ≤ m ∧ m ≤ 1000000000000000000) := Lib.hid ⟨hm1, hm2⟩
  have HOK := Lib.hid hok
  have HCS := Lib.hid hcs
  have HNC := Lib.hid hnc
  have hnc4 : nc ≤ 20000 := by omega
  clear hr hc hz hx hn hm1 hm2 hok hl hcs hnc
  obtain ⟨JJ, HJJ⟩ : ∃ l, Hid (Pm.apply q ⟨L, m, f⟩ cs = l) := ⟨_, Lib.hid rfl⟩
  rw [HJJ.out]
  go_enter Try.func18, Try.ntmps18
  go_upto_region 1 with (fail)
  generalize ((((w.alloc (.cells #[.int .i64 q.kind, .int .i64 q.table, .int .i64 q.column, .int .i64 q.low, .int .i64 q.high, .int .i64 q.by_, .int .i64 q.other] 24)).alloc (.cells #[.slice X n cap, .int .i64 m, .bool f] 27)).alloc (.cells #[.int .i64 p, .slice AC nc cc] 38)).alloc (.cells #[.slice none 0 0, .int .i64 0, .bool false] 27)) = w1 at *
  have c0 : w1.cell? ⟨w.heap.size + 1, 0, none⟩ = some (.slice X n cap) := HR.out.cell 0
  have HCL := Lib.hid (rowClone_any X n cap L w1 HX.out HN.out (by have := HNB.out; omega))
  have HB1 : Hid (w.heap.size + 4 ≤ w1.heap.size) := Lib.hid (by have := HZ.out.lt; omega)
  go_upto_region 3 with (go_at_call 28; refine HCL.out.mono ?_; rintro e w2 ⟨v, rfl, ho, hf, hg⟩; obtain ⟨A1, n1, c1, hv, hn1⟩ := own_val ho; subst hv; have HO2 := Lib.hid ho; have F2 := Lib.hid hf; have HG2 : Hid (∀ ad, A1 = some ad → w.heap.size + 4 ≤ ad.block) := Lib.hid (fun ad ha => Nat.le_trans HB1.out (hg _ (sliceB_own ho ha))); have HN1 := Lib.hid hn1; have z0 := (HR.out.fr hf (by simp)).frozen 0; have d0 := (HR.out.fr hf (by simp)).cell 0; clear ho hf hg hn1)
  clear z0 d0 c0 HCL
  have hfs : Fr [w.heap.size + 1] w2 (w2.setCell ⟨w.heap.size + 1, 0, none⟩ (.slice A1 n1 c1)) := (Fr.refl _ _).setCell (.inl (by simp)) _
  have HR5 : Hid (Blk (w2.setCell ⟨w.heap.size + 1, 0, none⟩ (.slice A1 n1 c1)) (w.heap.size + 1) 27 #[.slice A1 n1 c1, .int .i64 m, .bool f]) := Lib.hid ((HR.out.fr F2.out (by simp)).set_ 0 _)
  have HQ5 := Lib.hid ((HQ.out.fr F2.out (by simp)).fr hfs (by rw [List.mem_singleton]; omega))
  have HC5 := Lib.hid ((HC.out.fr F2.out (by simp)).fr hfs (by rw [List.mem_singleton]; omega))
  have HZ5 := Lib.hid ((HZ.out.fr F2.out (by simp)).fr hfs (by rw [List.mem_singleton]; omega))
  have HO5 := Lib.hid (HO2.out.fr hfs (fun g hg => by obtain ⟨ad, h1, h2⟩ := mem_sliceB.1 (own_sliceB hg); have := HG2.out ad h1; simp; omega))
  have FA := Lib.hid ((F0.out.trans F2.out).trans' hfs (by simp))
  clear hfs HR HZ HC HQ HO2 F0 F2 HX HB1
  generalize w2.setCell ⟨w.heap.size + 1, 0, none⟩ (.slice A1 n1 c1) = w5 at *
  have HAT : Hid (AtL RowV.cells 5 w5 A1 L ∧ n1 = L.length) := Lib.hid (HO5.out.at1 RowV.cells_len)
  have c1x : w5.cell? ⟨w.heap.size + 1 + 1, 1, none⟩ = some (.slice AC nc cc) := HC5.out.cell 1
  go_wp2_with fail
  clear c1x
  go_loopw [9, 20] (fun i9 i20 wr => ∃ (j : Nat) (A3 : Option Addr) (n3 c3 : Nat) (m3 : Int) (f3 : Bool) (L3 : List RowV) (tb : Bool), i20 = .int .i64 j ∧ j ≤ nc ∧ i9 = .bool tb ∧ Hid (Blk wr (w.heap.size + 1) 27 #[.slice A3 n3 c3, .int .i64 m3, .bool f3]) ∧ Hid (Blk wr (w.heap.size + 1 + 1 + 1) 27 #[.slice none 0 0, .int .i64 0, .bool false]) ∧ Hid (QAt wr w.heap.size q) ∧ Hid (AtL RowV.cells 5 wr A3 L3 ∧ n3 = L3.length ∧ n3 ≤ n + 2 * j) ∧ Hid (-(1000000000000000000 + 2000000000 * (j : Int)) ≤ m3 ∧ m3 ≤ 1000000000000000000 + 2000000000 * (j : Int)) ∧ Hid (JJ = Pm.go q (cs.drop j) ⟨L3, m3, f3⟩ tb) ∧ Hid (Fr [] w wr)) (fun i9 i20 _ => nc - (intOf i20).toNat)
  case atStart => exact ⟨0, A1, n1, c1, m, f, L, false, rfl, Nat.zero_le _, rfl, HR5, HZ5, HQ5, Lib.hid ⟨HAT.out.1, HAT.out.2, by rw [HAT.out.2, HN.out]; omega⟩, Lib.hid (by have := HM.out; omega), Lib.hid (by rw [← HJJ.out]; rfl), FA⟩
  case round =>
    clear HR5 HZ5 HQ5 HAT FA HO5 HC5 HG2 HM
    obtain ⟨j, A3, n3, c3, m3, f3, L3, tb, rfl, hj, rfl, HRR, HZR, HQR, HAR, HMB, HGO, FR⟩ := hrel
    by_cases hlt : j < nc
    · have hjc : j < cs.length := by rw [← HNC.out]; exact hlt
      obtain ⟨b, off, rfl, hb, hcc⟩ := (HCS.out.fr0 FR.out) (by omega)
      have hck := Lib.hid (fun i (hi : i < 10) => hcc j hjc i hi)
      have HDR : Hid (cs.drop j = cs[j] :: cs.drop (j + 1)) := Lib.hid (List.drop_eq_getElem_cons hjc)
      clear hb hcc
      generalize cs[j] = cx at *
      clear hjc
      obtain ⟨x0, x1, x2, x3, x4, x5, x6, x7, x8, x9⟩ := cx
      have a0 : wr.cell? ⟨b, off + j * 10, none⟩ = some (.int .i64 x0) := hck.out 0 (by decide)
      have a1 : wr.cell? ⟨b, off + j * 10 + 1, none⟩ = some (.int .i64 x1) := hck.out 1 (by decide)
      have a2 : wr.cell? ⟨b, off + j * 10 + 2, none⟩ = some (.bool x2) := hck.out 2 (by decide)
      have a3 : wr.cell? ⟨b, off + j * 10 + 3, none⟩ = some (.int .i64 x3) := hck.out 3 (by decide)
      have a4 : wr.cell? ⟨b, off + j * 10 + 4, none⟩ = some (.int .i64 x4) := hck.out 4 (by decide)
      have a5 : wr.cell? ⟨b, off + j * 10 + 5, none⟩ = some (.int .i64 x5) := hck.out 5 (by decide)
      have a6 : wr.cell? ⟨b, off + j * 10 + 6, none⟩ = some (.bool x6) := hck.out 6 (by decide)
      have a7 : wr.cell? ⟨b, off + j * 10 + 7, none⟩ = some (.int .i64 x7) := hck.out 7 (by decide)
      have a8 : wr.cell? ⟨b, off + j * 10 + 8, none⟩ = some (.int .i64 x8) := hck.out 8 (by decide)
      have a9 : wr.cell? ⟨b, off + j * 10 + 9, none⟩ = some (.int .i64 x9) := hck.out 9 (by decide)
      have HCP : Hid (Blk (wr.alloc (.cells #[.int .i64 x0, .int .i64 x1, .bool x2, .int .i64 x3, .int .i64 x4, .int .i64 x5, .bool x6, .int .i64 x7, .int .i64 x8, .int .i64 x9] 30)) wr.heap.size 30 #[.int .i64 x0, .int .i64 x1, .bool x2, .int .i64 x3, .int .i64 x4, .int .i64 x5, .bool x6, .int .i64 x7, .int .i64 x8, .int .i64 x9]) := Lib.hid (Blk.new _ _ _)
      have FQ : Hid (Fr [] wr (wr.alloc (.cells #[.int .i64 x0, .int .i64 x1, .bool x2, .int .i64 x3, .int .i64 x4, .int .i64 x5, .bool x6, .int .i64 x7, .int .i64 x8, .int .i64 x9] 30))) := Lib.hid ((Fr.refl _ _).alloc _)
      go_upto_region 6 with (fail)
      clear a0 a1 a2 a3 a4 a5 a6 a7 a8 a9 hck
      generalize wr.alloc (.cells #[.int .i64 x0, .int .i64 x1, .bool x2, .int .i64 x3, .int .i64 x4, .int .i64 x5, .bool x6, .int .i64 x7, .int .i64 x8, .int .i64 x9] 30) = wp at *
      have HQP := Lib.hid (HQR.out.fr FQ.out (by simp))
      have HRP := Lib.hid (HRR.out.fr FQ.out (by simp))
      have HZP := Lib.hid (HZR.out.fr FQ.out (by simp))
      have HAP : Hid (AtL RowV.cells 5 wp A3 L3 ∧ n3 = L3.length ∧ n3 ≤ n + 2 * j) := Lib.hid ⟨HAR.out.1.fr0 FQ.out, HAR.out.2⟩
      have FP := Lib.hid (FR.out.trans FQ.out)
      clear HQR HRR HZR HAR FR FQ
      cases tb with
      | true =>
        go_upto_region 8 with (fail)
        obtain ⟨wt, hwt⟩ : ∃ x, x = wp := ⟨_, rfl⟩
        subst hwt
        have HQT := Lib.hid (HQP.out.fr (Fr.refl [] wt) (by simp))
        have HRT := Lib.hid (HRP.out.fr (Fr.refl [] wt) (by simp))
        have HCT := Lib.hid (HCP.out.fr (Fr.refl [] wt) (by simp))
        have HZT := Lib.hid (HZP.out.fr (Fr.refl [] wt) (by simp))
        have HAT3 : Hid (AtL RowV.cells 5 wt A3 L3 ∧ n3 = L3.length ∧ n3 ≤ n + 2 * j) := Lib.hid ⟨HAP.out.1.fr0 (Fr.refl [] wt), HAP.out.2⟩
        have FTT := Lib.hid (FP.out.trans (Fr.refl [] wt))
        clear HQP HRP HCP HZP HAP
        have HQ8 : Blk wt w.heap.size 24 #[.int .i64 q.kind, .int .i64 q.table, .int .i64 q.column, .int .i64 q.low, .int .i64 q.high, .int .i64 q.by_, .int .i64 q.other] := HQT.out
        have HR8 := HRT.out
        have HC8 := HCT.out
        have HPT := Lib.hid (patch_any q ⟨x0, x1, x2, x3, x4, x5, x6, x7, x8, x9⟩ HOK.out A3 n3 c3 m3 f3 L3 wt HAT3.out.1 HAT3.out.2.1 (by have := HAT3.out.2.2; have := HNB.out; omega) (by have := HMB.out; have := HNB.out; omega) (by have := HMB.out; have := HNB.out; omega))
        cases hpj : Pm.patch q ⟨L3, m3, f3⟩ ⟨x0, x1, x2, x3, x4, x5, x6, x7, x8, x9⟩ with
        | none =>
          have HPJ := Lib.hid hpj
          clear hpj
          have HGN : Hid (JJ = none) := Lib.hid (by rw [HGO.out, HDR.out, Pm.go, HPJ.out])
          go_upto_region 9 with (first
            | (refine wpList_load_row rfl _ _ rfl w.heap.size rfl 24 _ (0, 0) _ HQ8 Try.underlying24 rfl (by kernel_rfl) ?_)
            | (refine wpList_load_row rfl _ _ rfl (w.heap.size + 1) rfl 27 _ (0, 0) _ HR8 Try.underlying27 rfl (by kernel_rfl) ?_)
            | (refine wpList_load_row rfl _ _ rfl wr.heap.size rfl 30 _ (0, 0) _ HC8 Try.underlying30 rfl (by kernel_rfl) ?_)
            | (go_at_call 11; refine HPT.out.mono ?_; rintro e w8 ⟨A4, n4, c4, m4, f4, k4, rfl, hpp⟩; rw [HPJ.out] at hpp; obtain ⟨hk1, hk2, f8⟩ := hpp; have HK4 : k4 = false := (match k4, hk1 with | false, _ => rfl | true, h => absurd (h rfl).choose_spec.1 (by simp)); subst HK4; obtain ⟨-, rfl, rfl, rfl, rfl⟩ := hk2 rfl; have F8 := Lib.hid f8; have HRS := HRT.out.fr f8 (by simp); clear hk1 f8)
            | (refine wpList_store_blk rfl _ _ _ rfl (w.heap.size + 1) #[.slice none 0 c4, .int .i64 0, .bool false] rfl rfl 27 _ HRS (by kernel_rfl) rfl rfl ?_; intro wu hbu hfu; have HBU := Lib.hid hbu; have HFU := Lib.hid hfu; clear hbu hfu))
          clear HQ8 HR8 HC8 HPT
          have HZF := ((HZT.out.fr F8.out (by simp)).fr HFU.out (by rw [List.mem_singleton]; omega))
          have FU : Hid (Fr [] w wu) := Lib.hid ((FTT.out.trans F8.out).trans' HFU.out (fun i hi => .inr (by rw [List.mem_singleton] at hi; omega)))
          go_wp2_with (first
            | (refine wpList_build_is rfl _ _ rfl #[.slice none 0 0, .int .i64 0, .bool false] (by kernel_rfl) ?_)
            | (refine wpList_store_blk rfl _ _ _ rfl (w.heap.size + 1 + 1 + 1) #[.slice none 0 0, .int .i64 0, .bool false] rfl rfl 27 _ HZF (by kernel_rfl) rfl rfl ?_; intro w9 hb9 hf9; have HB9 := Lib.hid hb9; have HF9 := Lib.hid hf9; clear hb9 hf9))
          have q0 := HB9.out.cell 0
          have q1 := HB9.out.cell 1
          have q2 := HB9.out.cell 2
          refine bodyPost_ret (v := .tuple #[.agg #[.slice none 0 0, .int .i64 0, .bool false], .bool true, .bool false]) (by simp [results, Try.results18, go_sem, q0, q1, q2]) rfl ⟨_, _, _, _, _, _, _, rfl, fun h => (by cases h), fun _ => ⟨HGN.out, rfl, rfl, rfl, rfl, rfl⟩, FU.out.trans' HF9.out (fun i hi => .inr (by rw [List.mem_singleton] at hi; omega))⟩
        | some r4 =>
          obtain ⟨L4, mm, ff⟩ := r4
          have HPJ := Lib.hid hpj
          clear hpj
          have HGS : Hid (JJ = Pm.go q (cs.drop (j + 1)) ⟨L4, mm, ff⟩ true) := Lib.hid (by rw [HGO.out, HDR.out, Pm.go, HPJ.out]; simp)
          have HBD := Lib.hid (Pm.patch_bound HPJ.out)
          go_upto_region 9 with (first
            | (refine wpList_load_row rfl _ _ rfl w.heap.size rfl 24 _ (0, 0) _ HQ8 Try.underlying24 rfl (by kernel_rfl) ?_)
            | (refine wpList_load_row rfl _ _ rfl (w.heap.size + 1) rfl 27 _ (0, 0) _ HR8 Try.underlying27 rfl (by kernel_rfl) ?_)
            | (refine wpList_load_row rfl _ _ rfl wr.heap.size rfl 30 _ (0, 0) _ HC8 Try.underlying30 rfl (by kernel_rfl) ?_)
            | (go_at_call 11; refine HPT.out.mono ?_; rintro e w8 ⟨A4, n4, c4, m4, f4, k4, rfl, hpp⟩; rw [HPJ.out] at hpp; obtain ⟨hk1, hk2, f8⟩ := hpp; have HK4 : k4 = true := (match k4, hk2 with | true, _ => rfl | false, h => absurd (h rfl).1 (by simp)); subst HK4; have hk3 := hk1 rfl; obtain ⟨L5, h51, h52, h53, h54⟩ := hk3; injection h51 with h51; injection h51 with e1 e2 e3; subst e1 e2 e3; have F8 := Lib.hid f8; have HRS := HRT.out.fr f8 (by simp); have HA5 := Lib.hid h52; have HN5 := Lib.hid (And.intro h53 h54); clear hk1 hk2 f8 h52 h53 h54)
            | (refine wpList_store_blk rfl _ _ _ rfl (w.heap.size + 1) #[.slice A4 n4 c4, .int .i64 mm, .bool ff] rfl rfl 27 _ HRS (by kernel_rfl) rfl rfl ?_; intro wu hbu hfu; have HBU := Lib.hid hbu; have HFU := Lib.hid hfu; clear hbu hfu))
          clear HQ8 HR8 HC8 HPT
          have HZU := Lib.hid ((HZT.out.fr F8.out (by simp)).fr HFU.out (by rw [List.mem_singleton]; omega))
          have HQU := Lib.hid ((HQT.out.fr F8.out (by simp)).fr HFU.out (by rw [List.mem_singleton]; omega))
          have FU : Hid (Fr [] w wu) := Lib.hid ((FTT.out.trans F8.out).trans' HFU.out (fun i hi => .inr (by rw [List.mem_singleton] at hi; omega)))
          have HAU := Lib.hid (HA5.out.ne_small HRS (by simp) HFU.out)
          clear HRS
          go_wp2_with fail
          go_roundw
          case rel => exact ⟨j + 1, A4, n4, c4, mm, ff, L4, _, by go_num, by omega, rfl, HBU, HZU, HQU, Lib.hid ⟨HAU.out, HN5.out.1, by have := HN5.out.2; have := HAT3.out.2.2; omega⟩, Lib.hid (by have h1 := HBD.out; have h2 := HMB.out; have h3 := Pm.grow_le h1 h2.1 h2.2; dsimp only at h1 h3; omega), HGS, FU⟩
          case measure => simp [intOf]; omega
      | false =>
        have g0 : wp.cell? ⟨w.heap.size, 0, none⟩ = some (.int .i64 q.kind) := HQP.out.c0
        have g1 : wp.cell? ⟨w.heap.size, 1, none⟩ = some (.int .i64 q.table) := HQP.out.c1
        have g2 : wp.cell? ⟨w.heap.size, 2, none⟩ = some (.int .i64 q.column) := HQP.out.c2
        have g3 : wp.cell? ⟨w.heap.size, 3, none⟩ = some (.int .i64 q.low) := HQP.out.c3
        have g4 : wp.cell? ⟨w.heap.size, 4, none⟩ = some (.int .i64 q.high) := HQP.out.c4
        have g5 : wp.cell? ⟨w.heap.size, 5, none⟩ = some (.int .i64 q.by_) := HQP.out.c5
        have g6 : wp.cell? ⟨w.heap.size, 6, none⟩ = some (.int .i64 q.other) := HQP.out.c6
        have y0 : wp.cell? ⟨wr.heap.size, 0, none⟩ = some (.int .i64 x0) := HCP.out.cell 0
        have y1 : wp.cell? ⟨wr.heap.size, 1, none⟩ = some (.int .i64 x1) := HCP.out.cell 1
        have y2 : wp.cell? ⟨wr.heap.size, 2, none⟩ = some (.bool x2) := HCP.out.cell 2
        have y3 : wp.cell? ⟨wr.heap.size, 3, none⟩ = some (.int .i64 x3) := HCP.out.cell 3
        have y4 : wp.cell? ⟨wr.heap.size, 4, none⟩ = some (.int .i64 x4) := HCP.out.cell 4
        have y5 : wp.cell? ⟨wr.heap.size, 5, none⟩ = some (.int .i64 x5) := HCP.out.cell 5
        have y6 : wp.cell? ⟨wr.heap.size, 6, none⟩ = some (.bool x6) := HCP.out.cell 6
        have y7 : wp.cell? ⟨wr.heap.size, 7, none⟩ = some (.int .i64 x7) := HCP.out.cell 7
        have y8 : wp.cell? ⟨wr.heap.size, 8, none⟩ = some (.int .i64 x8) := HCP.out.cell 8
        have y9 : wp.cell? ⟨wr.heap.size, 9, none⟩ = some (.int .i64 x9) := HCP.out.cell 9
        obtain ⟨T, hT⟩ : ∃ t, Pm.touches q ⟨x0, x1, x2, x3, x4, x5, x6, x7, x8, x9⟩ = t := ⟨_, rfl⟩
        have HTO := Lib.hid (touches_any q ⟨x0, x1, x2, x3, x4, x5, x6, x7, x8, x9⟩ HOK.out)
        rw [hT] at HTO
        have HTT := Lib.hid hT
        clear hT
        go_upto_region 8 with (go_at_call 13; refine (HTO.out _).mono ?_; rintro e wt ⟨rfl, ft⟩; have FT := Lib.hid ft; clear ft)
        clear g0 g1 g2 g3 g4 g5 g6 y0 y1 y2 y3 y4 y5 y6 y7 y8 y9 HTO
        have HQT := Lib.hid (HQP.out.fr FT.out (by simp))
        have HRT := Lib.hid (HRP.out.fr FT.out (by simp))
        have HCT := Lib.hid (HCP.out.fr FT.out (by simp))
        have HZT := Lib.hid (HZP.out.fr FT.out (by simp))
        have HAT3 : Hid (AtL RowV.cells 5 wt A3 L3 ∧ n3 = L3.length ∧ n3 ≤ n + 2 * j) := Lib.hid ⟨HAP.out.1.fr0 FT.out, HAP.out.2⟩
        have FTT := Lib.hid (FP.out.trans FT.out)
        clear HQP HRP HCP HZP HAP
        have HQ8 : Blk wt w.heap.size 24 #[.int .i64 q.kind, .int .i64 q.table, .int .i64 q.column, .int .i64 q.low, .int .i64 q.high, .int .i64 q.by_, .int .i64 q.other] := HQT.out
        have HR8 := HRT.out
        have HC8 := HCT.out
        have HPT := Lib.hid (patch_any q ⟨x0, x1, x2, x3, x4, x5, x6, x7, x8, x9⟩ HOK.out A3 n3 c3 m3 f3 L3 wt HAT3.out.1 HAT3.out.2.1 (by have := HAT3.out.2.2; have := HNB.out; omega) (by have := HMB.out; have := HNB.out; omega) (by have := HMB.out; have := HNB.out; omega))
        cases hpj : Pm.patch q ⟨L3, m3, f3⟩ ⟨x0, x1, x2, x3, x4, x5, x6, x7, x8, x9⟩ with
        | none =>
          have HPJ := Lib.hid hpj
          clear hpj
          have HGN : Hid (JJ = none) := Lib.hid (by rw [HGO.out, HDR.out, Pm.go, HPJ.out])
          go_upto_region 9 with (first
            | (refine wpList_load_row rfl _ _ rfl w.heap.size rfl 24 _ (0, 0) _ HQ8 Try.underlying24 rfl (by kernel_rfl) ?_)
            | (refine wpList_load_row rfl _ _ rfl (w.heap.size + 1) rfl 27 _ (0, 0) _ HR8 Try.underlying27 rfl (by kernel_rfl) ?_)
            | (refine wpList_load_row rfl _ _ rfl wr.heap.size rfl 30 _ (0, 0) _ HC8 Try.underlying30 rfl (by kernel_rfl) ?_)
            | (go_at_call 11; refine HPT.out.mono ?_; rintro e w8 ⟨A4, n4, c4, m4, f4, k4, rfl, hpp⟩; rw [HPJ.out] at hpp; obtain ⟨hk1, hk2, f8⟩ := hpp; have HK4 : k4 = false := (match k4, hk1 with | false, _ => rfl | true, h => absurd (h rfl).choose_spec.1 (by simp)); subst HK4; obtain ⟨-, rfl, rfl, rfl, rfl⟩ := hk2 rfl; have F8 := Lib.hid f8; have HRS := HRT.out.fr f8 (by simp); clear hk1 f8)
            | (refine wpList_store_blk rfl _ _ _ rfl (w.heap.size + 1) #[.slice none 0 c4, .int .i64 0, .bool false] rfl rfl 27 _ HRS (by kernel_rfl) rfl rfl ?_; intro wu hbu hfu; have HBU := Lib.hid hbu; have HFU := Lib.hid hfu; clear hbu hfu))
          clear HQ8 HR8 HC8 HPT
          have HZF := ((HZT.out.fr F8.out (by simp)).fr HFU.out (by rw [List.mem_singleton]; omega))
          have FU : Hid (Fr [] w wu) := Lib.hid ((FTT.out.trans F8.out).trans' HFU.out (fun i hi => .inr (by rw [List.mem_singleton] at hi; omega)))
          go_wp2_with (first
            | (refine wpList_build_is rfl _ _ rfl #[.slice none 0 0, .int .i64 0, .bool false] (by kernel_rfl) ?_)
            | (refine wpList_store_blk rfl _ _ _ rfl (w.heap.size + 1 + 1 + 1) #[.slice none 0 0, .int .i64 0, .bool false] rfl rfl 27 _ HZF (by kernel_rfl) rfl rfl ?_; intro w9 hb9 hf9; have HB9 := Lib.hid hb9; have HF9 := Lib.hid hf9; clear hb9 hf9))
          have q0 := HB9.out.cell 0
          have q1 := HB9.out.cell 1
          have q2 := HB9.out.cell 2
          refine bodyPost_ret (v := .tuple #[.agg #[.slice none 0 0, .int .i64 0, .bool false], .bool true, .bool false]) (by simp [results, Try.results18, go_sem, q0, q1, q2]) rfl ⟨_, _, _, _, _, _, _, rfl, fun h => (by cases h), fun _ => ⟨HGN.out, rfl, rfl, rfl, rfl, rfl⟩, FU.out.trans' HF9.out (fun i hi => .inr (by rw [List.mem_singleton] at hi; omega))⟩
        | some r4 =>
          obtain ⟨L4, mm, ff⟩ := r4
          have HPJ := Lib.hid hpj
          clear hpj
          have HGS : Hid (JJ = Pm.go q (cs.drop (j + 1)) ⟨L4, mm, ff⟩ T) := Lib.hid (by rw [HGO.out, HDR.out, Pm.go, HPJ.out]; rw [HTT.out]; rfl)
          have HBD := Lib.hid (Pm.patch_bound HPJ.out)
          go_upto_region 9 with (first
            | (refine wpList_load_row rfl _ _ rfl w.heap.size rfl 24 _ (0, 0) _ HQ8 Try.underlying24 rfl (by kernel_rfl) ?_)
            | (refine wpList_load_row rfl _ _ rfl (w.heap.size + 1) rfl 27 _ (0, 0) _ HR8 Try.underlying27 rfl (by kernel_rfl) ?_)
            | (refine wpList_load_row rfl _ _ rfl wr.heap.size rfl 30 _ (0, 0) _ HC8 Try.underlying30 rfl (by kernel_rfl) ?_)
            | (go_at_call 11; refine HPT.out.mono ?_; rintro e w8 ⟨A4, n4, c4, m4, f4, k4, rfl, hpp⟩; rw [HPJ.out] at hpp; obtain ⟨hk1, hk2, f8⟩ := hpp; have HK4 : k4 = true := (match k4, hk2 with | true, _ => rfl | false, h => absurd (h rfl).1 (by simp)); subst HK4; have hk3 := hk1 rfl; obtain ⟨L5, h51, h52, h53, h54⟩ := hk3; injection h51 with h51; injection h51 with e1 e2 e3; subst e1 e2 e3; have F8 := Lib.hid f8; have HRS := HRT.out.fr f8 (by simp); have HA5 := Lib.hid h52; have HN5 := Lib.hid (And.intro h53 h54); clear hk1 hk2 f8 h52 h53 h54)
            | (refine wpList_store_blk rfl _ _ _ rfl (w.heap.size + 1) #[.slice A4 n4 c4, .int .i64 mm, .bool ff] rfl rfl 27 _ HRS (by kernel_rfl) rfl rfl ?_; intro wu hbu hfu; have HBU := Lib.hid hbu; have HFU := Lib.hid hfu; clear hbu hfu))
          clear HQ8 HR8 HC8 HPT
          have HZU := Lib.hid ((HZT.out.fr F8.out (by simp)).fr HFU.out (by rw [List.mem_singleton]; omega))
          have HQU := Lib.hid ((HQT.out.fr F8.out (by simp)).fr HFU.out (by rw [List.mem_singleton]; omega))
          have FU : Hid (Fr [] w wu) := Lib.hid ((FTT.out.trans F8.out).trans' HFU.out (fun i hi => .inr (by rw [List.mem_singleton] at hi; omega)))
          have HAU := Lib.hid (HA5.out.ne_small HRS (by simp) HFU.out)
          clear HRS
          go_wp2_with fail
          go_roundw
          case rel => exact ⟨j + 1, A4, n4, c4, mm, ff, L4, _, by go_num, by omega, rfl, HBU, HZU, HQU, Lib.hid ⟨HAU.out, HN5.out.1, by have := HN5.out.2; have := HAT3.out.2.2; omega⟩, Lib.hid (by have h1 := HBD.out; have h2 := HMB.out; have h3 := Pm.grow_le h1 h2.1 h2.2; dsimp only at h1 h3; omega), HGS, FU⟩
          case measure => simp [intOf]; omega
    · obtain rfl : j = nc := by omega
      have HGE : Hid (JJ = some (⟨L3, m3, f3⟩, tb)) := Lib.hid (by rw [HGO.out, List.drop_eq_nil_of_le (by have := HNC.out; omega)]; rfl)
      have HRE := HRR.out
      have HZF := HZR.out
      go_wp2_with (first
        | (refine wpList_load_row rfl _ _ rfl (w.heap.size + 1) rfl 27 _ (0, 0) _ HRE Try.underlying27 rfl (by kernel_rfl) ?_)
        | (refine wpList_store_blk rfl _ _ _ rfl (w.heap.size + 1 + 1 + 1) #[.slice A3 n3 c3, .int .i64 m3, .bool f3] rfl rfl 27 _ HZF (by kernel_rfl) rfl rfl ?_; intro w9 hb9 hf9; have HB9 := Lib.hid hb9; have HF9 := Lib.hid hf9; clear hb9 hf9))
      have q0 := HB9.out.cell 0
      have q1 := HB9.out.cell 1
      have q2 := HB9.out.cell 2
      refine bodyPost_ret (v := .tuple #[.agg #[.slice A3 n3 c3, .int .i64 m3, .bool f3], .bool tb, .bool true]) (by simp [results, Try.results18, go_sem, q0, q1, q2]) rfl ⟨_, _, _, _, _, _, _, rfl, fun _ => ⟨L3, HGE.out, ?_, HAR.out.2.1, HAR.out.2.2⟩, fun h => (by cases h), FR.out.trans' HF9.out (fun i hi => .inr (by rw [List.mem_singleton] at hi; omega))⟩
      exact HAR.out.1.ne_small HZR.out (by simp) HF9.out
end Go.Proofs.Ytjiikpmkedkbkaa
namespace Go.Proofs.Ytjiikpmkedkbkaa
open Go.RowKit

theorem Rw.valid_chgs {r : Rec} (h : Rw.valid r = true) : ∀ c ∈ r.cs, Rw.chg c = true := by
  simp only [Rw.valid, Bool.and_eq_true] at h
  have h1 := h.2
  generalize (-1 : Int) = a at h1
  generalize (0 : Int) = b at h1
  revert h1
  generalize r.cs = cs
  clear h
  induction cs generalizing a b with
  | nil => intro _ c hc; simp at hc
  | cons x cs ih =>
    intro h c hc
    simp only [Rw.chgs, Bool.and_eq_true] at h
    rcases List.mem_cons.1 hc with rfl | hc
    · exact h.1.1
    · exact ih _ _ h.2 c hc

end Go.Proofs.Ytjiikpmkedkbkaa
namespace Go.Proofs.Ytjiikpmkedkbkaa
open Go.RowKit

theorem after_no (c : Chg) (h : c.has = false) (w : World) : Calls Try.prog 64 #[c.val] w fun e w' =>
    e = .returned (.tuple #[rowVal 0 0 0 0 0, .bool false]) ∧ Fr [] w w' := by
  obtain ⟨t, k, had, o0, o1, o2, has, n0, n1, n2⟩ := c
  dsimp only at h
  subst h
  have F0 : Fr [] w ((w.alloc (.cells #[.int .i64 t, .int .i64 k, .bool had, .int .i64 o0, .int .i64 o1, .int .i64 o2, .bool false, .int .i64 n0, .int .i64 n1, .int .i64 n2] 30)).alloc (.cells #[.int .i64 0, .int .i64 0, .int .i64 0, .int .i64 0, .int .i64 0] 57)) := ((Fr.refl _ _).alloc _).alloc _
  have hB := Blk.new (w.alloc (.cells #[.int .i64 t, .int .i64 k, .bool had, .int .i64 o0, .int .i64 o1, .int .i64 o2, .bool false, .int .i64 n0, .int .i64 n1, .int .i64 n2] 30)) 57 #[.int .i64 0, .int .i64 0, .int .i64 0, .int .i64 0, .int .i64 0]
  rw [World.size_alloc] at hB
  have hh := half_no ⟨t, k, had, o0, o1, o2, false, n0, n1, n2⟩ n0 n1 n2
  unfold Chg.val rowVal at *
  go_enter Try.func64, Try.ntmps64
  go_wp2_with fail
  refine (hh _).mono ?_
  rintro e w1 ⟨rfl, f1⟩
  have F1 := F0.trans f1
  have hB1 := hB.fr f1 (by simp)
  have h0 := hB1.cell 0
  have h1 := hB1.cell 1
  have h2 := hB1.cell 2
  have h3 := hB1.cell 3
  have h4 := hB1.cell 4
  have z0 := hB1.frozen 0
  have z1 := hB1.frozen 1
  have z2 := hB1.frozen 2
  have z3 := hB1.frozen 3
  have z4 := hB1.frozen 4
  go_wp2_with fail
  refine bodyPost_ret (v := .tuple #[.agg #[.int .i64 0, .int .i64 0, .int .i64 0, .int .i64 0, .int .i64 0], .bool false]) (by simp [results, Try.results64, go_sem, h0, h1, h2, h3, h4]) rfl ⟨rfl, ?_⟩
  repeat first | exact F1 | refine Fr.setCell ?_ (.inr (by simp)) _
theorem after_yes (c : Chg) (h : c.has = true) (w : World) : Calls Try.prog 64 #[c.val] w fun e w' =>
    e = .returned (.tuple #[rowVal c.t c.k c.n0 c.n1 c.n2, .bool true]) ∧ Fr [] w w' := by
  obtain ⟨t, k, had, o0, o1, o2, has, n0, n1, n2⟩ := c
  dsimp only at h
  subst h
  have F0 : Fr [] w ((w.alloc (.cells #[.int .i64 t, .int .i64 k, .bool had, .int .i64 o0, .int .i64 o1, .int .i64 o2, .bool true, .int .i64 n0, .int .i64 n1, .int .i64 n2] 30)).alloc (.cells #[.int .i64 0, .int .i64 0, .int .i64 0, .int .i64 0, .int .i64 0] 57)) := ((Fr.refl _ _).alloc _).alloc _
  have hB := Blk.new (w.alloc (.cells #[.int .i64 t, .int .i64 k, .bool had, .int .i64 o0, .int .i64 o1, .int .i64 o2, .bool true, .int .i64 n0, .int .i64 n1, .int .i64 n2] 30)) 57 #[.int .i64 0, .int .i64 0, .int .i64 0, .int .i64 0, .int .i64 0]
  rw [World.size_alloc] at hB
  have hh := half_yes ⟨t, k, had, o0, o1, o2, true, n0, n1, n2⟩ n0 n1 n2
  unfold Chg.val rowVal at *
  go_enter Try.func64, Try.ntmps64
  go_wp2_with fail
  refine (hh _).mono ?_
  rintro e w1 ⟨rfl, f1⟩
  have F1 := F0.trans f1
  have hB1 := hB.fr f1 (by simp)
  have h0 := hB1.cell 0
  have h1 := hB1.cell 1
  have h2 := hB1.cell 2
  have h3 := hB1.cell 3
  have h4 := hB1.cell 4
  have z0 := hB1.frozen 0
  have z1 := hB1.frozen 1
  have z2 := hB1.frozen 2
  have z3 := hB1.frozen 3
  have z4 := hB1.frozen 4
  go_wp2_with fail
  refine bodyPost_ret (v := .tuple #[.agg #[.int .i64 t, .int .i64 k, .int .i64 n0, .int .i64 n1, .int .i64 n2], .bool true]) (by simp [results, Try.results64, go_sem, h0, h1, h2, h3, h4]) rfl ⟨rfl, ?_⟩
  repeat first | exact F1 | refine Fr.setCell ?_ (.inr (by simp)) _
end Go.Proofs.Ytjiikpmkedkbkaa
namespace Go.Proofs.Ytjiikpmkedkbkaa
open Go.RowKit

theorem Blk.ne {w : World} {a b ta tb : Nat} {ca cb : Array Value} (h1 : Blk w a ta ca) (h2 : Blk w b tb cb) (hne : ta ≠ tb) : a ≠ b := by
  rintro rfl
  unfold Blk at h1 h2
  rw [h1] at h2
  injection h2 with h2
  injection h2 with _ h2
  exact hne h2

/-- Changes of a record in a block of changes: nobody writes there. -/
def HoldsC (w : World) (A : Option Addr) (cs : List Chg) : Prop := ChgsAt w A cs ∧ (0 < cs.length → ∀ ad, A = some ad → ∃ arr fz, w.heap[ad.block]? = some (.cells arr 30 fz))
/-- None of the blocks in S holds changes. -/
def NoC (w : World) (S : List Nat) : Prop := ∀ s ∈ S, ∀ arr fz, w.heap[s]? ≠ some (.cells arr 30 fz)
theorem NoC.nil {w : World} : NoC w [] := fun _ h => by simp at h
theorem NoC.cons {w : World} {s : Nat} {S : List Nat} (h1 : ∀ arr fz, w.heap[s]? ≠ some (.cells arr 30 fz)) (h2 : NoC w S) : NoC w (s :: S) := fun x hx => by
  rcases List.mem_cons.1 hx with rfl | hx
  · exact h1
  · exact h2 x hx
theorem noC_blk {w : World} {s ty : Nat} {cs : Array Value} (h : Blk w s ty cs) (hne : ty ≠ 30) : ∀ arr fz, w.heap[s]? ≠ some (.cells arr 30 fz) := by
  intro arr fz e
  unfold Blk at h
  rw [h] at e
  injection e with e
  injection e with _ e
  exact hne e
theorem noC_map {K V : Type} {P : Program} {k : TypeId} {kl : K → Lit} {ev : V → Value} {w : World} {b : Nat} {M : List (K × V)} (h : VMap P k kl ev w b M) : ∀ arr fz, w.heap[b]? ≠ some (.cells arr 30 fz) := by
  intro arr fz e
  obtain ⟨es, clock, hb, _⟩ := h
  rw [hb] at e
  cases e
theorem noC_new {w : World} {s : Nat} (h : w.heap.size ≤ s) : ∀ arr fz, w.heap[s]? ≠ some (.cells arr 30 fz) := by
  intro arr fz e
  rw [Array.getElem?_eq_none h] at e
  cases e
theorem HoldsC.fr {w w' : World} {A : Option Addr} {cs : List Chg} {S : List Nat} (h : HoldsC w A cs) (hf : Fr S w w') (hs : NoC w S) : HoldsC w' A cs := by
  have hn : 0 < cs.length → ∀ ad, A = some ad → ad.block ∉ S := fun hl ad e hm => by
    obtain ⟨arr, fz, hb⟩ := h.2 hl ad e
    exact hs _ hm arr fz hb
  refine ⟨fun hl => (h.1.fr hf (hn hl)) hl, fun hl ad e => ?_⟩
  obtain ⟨arr, fz, hb⟩ := h.2 hl ad e
  exact ⟨arr, fz, (hf.block _ (Array.getElem?_eq_some_iff.1 hb).1 (hn hl ad e)).trans hb⟩
end Go.Proofs.Ytjiikpmkedkbkaa
namespace Go.Proofs.Ytjiikpmkedkbkaa
open Go.RowKit

end Go.Proofs.Ytjiikpmkedkbkaa
namespace Go.Proofs.Ytjiikpmkedkbkaa
open Go.RowKit

/-- What 'Get' answers for what is there. -/
abbrev gotVal (o : Option RowV) : Value := .tuple #[(o.map RowV.val).getD (.agg #[.int .i64 0, .int .i64 0, .int .i64 0, .int .i64 0, .int .i64 0]), .bool o.isSome]

/-- A row laid into the result's block. -/
theorem row_laid {W w : World} {F : World} {t k x y z t0 k0 x0 y0 z0 : Int} (hF : F = ((((W.setCell ⟨w.heap.size, 0, none⟩ (.int .i64 t)).setCell ⟨w.heap.size, 1, none⟩ (.int .i64 k)).setCell ⟨w.heap.size, 2, none⟩ (.int .i64 x)).setCell ⟨w.heap.size, 3, none⟩ (.int .i64 y)).setCell ⟨w.heap.size, 4, none⟩ (.int .i64 z))
    (hn : Blk W w.heap.size 57 #[.int .i64 t0, .int .i64 k0, .int .i64 x0, .int .i64 y0, .int .i64 z0]) (f : Fr [] w W) :
    (F.cell? ⟨w.heap.size, 0, none⟩ = some (.int .i64 t) ∧ F.cell? ⟨w.heap.size, 1, none⟩ = some (.int .i64 k) ∧ F.cell? ⟨w.heap.size, 2, none⟩ = some (.int .i64 x) ∧ F.cell? ⟨w.heap.size, 3, none⟩ = some (.int .i64 y) ∧ F.cell? ⟨w.heap.size, 4, none⟩ = some (.int .i64 z)) ∧ Fr [] w F := by
  subst hF
  have hS := ((((hn.set_ 0 (.int .i64 t)).set_ 1 (.int .i64 k)).set_ 2 (.int .i64 x)).set_ 3 (.int .i64 y)).set_ 4 (.int .i64 z)
  refine ⟨⟨hS.cell 0, hS.cell 1, hS.cell 2, hS.cell 3, hS.cell 4⟩, ?_⟩
  exact ((((f.setCell (.inr (Nat.le_refl _)) _).setCell (.inr (Nat.le_refl _)) _).setCell (.inr (Nat.le_refl _)) _).setCell (.inr (Nat.le_refl _)) _).setCell (.inr (Nat.le_refl _)) _

set_option maxRecDepth 100000 in
theorem rfget_any (b : Nat) (v : Value) (L : List RowV) (s : Sm.Sta) (t k : Int) (w : World) (h : RfAt w b v L s) (ht : okI t) (hk : okI k) :
    Calls Try.prog 26 #[.pointer (some ⟨b, 0, none⟩), .int .i64 t, .int .i64 k] w fun e w' => e = .returned (gotVal (mget s.M (idOf t k))) ∧ Fr [] w w' := by
  obtain ⟨A, cap, hv⟩ := h.row.val
  subst hv
  have hlen : L.length ≤ 2000 := by rw [h.sim.len]; exact h.ok.len
  have hres := Lib.hid (fun (n : Nat) (hp : Sm.Plc L t k n) => And.intro (fun (hl : n < L.length) (e1 : L[n].t = t) (e2 : L[n].k = k) => hp.hit h.sim h.ok.nd h.ok.key ht hk hl e1 e2) (hp.miss h.sim h.ok.nd h.ok.key ht hk))
  have F0 : Fr [] w (w.alloc (.cells #[.int .i64 0, .int .i64 0, .int .i64 0, .int .i64 0, .int .i64 0] 57)) := (Fr.refl _ _).alloc _
  have hn := Blk.new w 57 #[.int .i64 0, .int .i64 0, .int .i64 0, .int .i64 0, .int .i64 0]
  have h0 := h.fr0 F0
  have hb0 : (w.alloc (.cells #[.int .i64 0, .int .i64 0, .int .i64 0, .int .i64 0, .int .i64 0] 57)).cell? ⟨b, 0, none⟩ = some (.slice A L.length cap) := h0.blk.cell 0
  have HP := Lib.hid (place_any b A cap L t k _ hb0 h0.row h0.sim.srt (by omega))
  have hlb := h.blk.lt
  go_enter Try.func26, Try.ntmps26
  clear hb0
  go_wp2_with fail
  refine HP.out.mono ?_
  rintro e w' ⟨n, ⟨rfl, rfl⟩, hp⟩
  obtain ⟨hhit, hmiss⟩ := hres.out n hp
  have hnl := hp.le
  clear HP hres hp
  have HR := Lib.hid (fun (h : 0 < L.length) => h0.row.form RowV.cells_len h)
  have c0 : (w.alloc (.cells #[.int .i64 0, .int .i64 0, .int .i64 0, .int .i64 0, .int .i64 0] 57)).cell? ⟨b, 0, none⟩ = some (.slice A L.length cap) := h0.blk.cell 0
  have d0 := hn.cell 0
  have d1 := hn.cell 1
  have d2 := hn.cell 2
  have d3 := hn.cell 3
  have d4 := hn.cell 4
  have z0 := hn.frozen 0
  have z1 := hn.frozen 1
  have z2 := hn.frozen 2
  have z3 := hn.frozen 3
  have z4 := hn.frozen 4
  clear h0
  by_cases hlt : n < L.length
  · obtain ⟨gR, cap', hA, hlc, hcm, hgl, hcell, hfz⟩ := HR.out (by omega)
    cases hA
    replace hhit := hhit hlt
    have hmiss' : ¬ (L[n].t = t ∧ L[n].k = k) → mget s.M (idOf t k) = none := fun h => hmiss fun _ => h
    have HH := Lib.hid hhit
    have HM := Lib.hid hmiss'
    obtain ⟨x, hx⟩ : ∃ x, L[n] = x := ⟨_, rfl⟩
    obtain ⟨xt, xk, xa, xb, xc⟩ := x
    have hce := Lib.hid (fun j (hj : j < 5) => hcell n hlt j hj)
    clear hmiss hmiss' hhit hcell hfz HR
    rw [hx] at HH HM hce
    clear hx
    generalize w.alloc (.cells #[.int .i64 0, .int .i64 0, .int .i64 0, .int .i64 0, .int .i64 0] 57) = W0 at *
    have x0 : W0.cell? ⟨gR, n * 5, none⟩ = some (.int .i64 xt) := hce.out 0 (by decide)
    have x1 : W0.cell? ⟨gR, n * 5 + 1, none⟩ = some (.int .i64 xk) := hce.out 1 (by decide)
    have x2 : W0.cell? ⟨gR, n * 5 + 2, none⟩ = some (.int .i64 xa) := hce.out 2 (by decide)
    have x3 : W0.cell? ⟨gR, n * 5 + 3, none⟩ = some (.int .i64 xb) := hce.out 3 (by decide)
    have x4 : W0.cell? ⟨gR, n * 5 + 4, none⟩ = some (.int .i64 xc) := hce.out 4 (by decide)
    clear hce
    by_cases e1 : xt = t
    · have e1' : (xt == t) = true := by simpa using e1
      have E1 := Lib.hid e1
      clear e1
      by_cases e2 : xk = k
      · have e2' : (xk == k) = true := by simpa using e2
        have HG := Lib.hid (HH.out E1.out e2)
        clear e2
        go_wp2_with fail
        have hlaid := row_laid (t := xt) (k := xk) (x := xa) (y := xb) (z := xc) rfl hn F0
        refine bodyPost_ret (v := .tuple #[.agg #[.int .i64 xt, .int .i64 xk, .int .i64 xa, .int .i64 xb, .int .i64 xc], .bool true]) (by obtain ⟨⟨y0, y1, y2, y3, y4⟩, _⟩ := hlaid; simp [results, Try.results26, go_sem, y0, y1, y2, y3, y4]) rfl ⟨by rw [HG.out]; rfl, hlaid.2⟩
      · have e2' : (xk == k) = false := by simpa using e2
        have HG := Lib.hid (HM.out (fun h => e2 h.2))
        clear e2
        go_wp2_with fail
        have hlaid := row_laid (t := 0) (k := 0) (x := 0) (y := 0) (z := 0) rfl hn F0
        refine bodyPost_ret (v := .tuple #[.agg #[.int .i64 0, .int .i64 0, .int .i64 0, .int .i64 0, .int .i64 0], .bool false]) (by obtain ⟨⟨y0, y1, y2, y3, y4⟩, _⟩ := hlaid; simp [results, Try.results26, go_sem, y0, y1, y2, y3, y4]) rfl ⟨by rw [HG.out]; rfl, hlaid.2⟩
    · have e1' : (xt == t) = false := by simpa using e1
      have HG := Lib.hid (HM.out (fun h => e1 h.1))
      clear e1
      go_wp2_with fail
      have hlaid := row_laid (t := 0) (k := 0) (x := 0) (y := 0) (z := 0) rfl hn F0
      refine bodyPost_ret (v := .tuple #[.agg #[.int .i64 0, .int .i64 0, .int .i64 0, .int .i64 0, .int .i64 0], .bool false]) (by obtain ⟨⟨y0, y1, y2, y3, y4⟩, _⟩ := hlaid; simp [results, Try.results26, go_sem, y0, y1, y2, y3, y4]) rfl ⟨by rw [HG.out]; rfl, hlaid.2⟩
  · have HG := Lib.hid (hmiss (fun h => absurd h hlt))
    clear hmiss hhit HR
    generalize w.alloc (.cells #[.int .i64 0, .int .i64 0, .int .i64 0, .int .i64 0, .int .i64 0] 57) = W0 at *
    go_wp2_with fail
    have hlaid := row_laid (t := 0) (k := 0) (x := 0) (y := 0) (z := 0) rfl hn F0
    refine bodyPost_ret (v := .tuple #[.agg #[.int .i64 0, .int .i64 0, .int .i64 0, .int .i64 0, .int .i64 0], .bool false]) (by obtain ⟨⟨y0, y1, y2, y3, y4⟩, _⟩ := hlaid; simp [results, Try.results26, go_sem, y0, y1, y2, y3, y4]) rfl ⟨by rw [HG.out]; rfl, hlaid.2⟩
end Go.Proofs.Ytjiikpmkedkbkaa
namespace Go.Proofs.Ytjiikpmkedkbkaa
open Go.RowKit

/-- The value of a column: the row is boxed. -/
theorem value_any (r : RowV) (c : Int) (w : World) : Calls Try.prog 62 #[r.val, .int .i64 c] w fun e w' => e = .returned (.int .i64 (r.value c)) ∧ w' = w.alloc (.cells r.cells.toArray 57) := by
  obtain ⟨t, k, x, y, z⟩ := r
  unfold RowV.val
  dsimp only
  by_cases h0 : c = 0
  · subst h0
    go_enter Try.func62, Try.ntmps62
    go_wp2
    go_ret
    exact ⟨rfl, rfl⟩
  by_cases h1 : c = 1
  · subst h1
    go_enter Try.func62, Try.ntmps62
    go_wp2
    go_ret
    exact ⟨rfl, rfl⟩
  by_cases h2 : c = 2
  · subst h2
    go_enter Try.func62, Try.ntmps62
    go_wp2
    go_ret
    exact ⟨rfl, rfl⟩
  by_cases h3 : c = 3
  · subst h3
    go_enter Try.func62, Try.ntmps62
    go_wp2
    go_ret
    exact ⟨rfl, rfl⟩
  have HV : Hid (RowV.value ⟨t, k, x, y, z⟩ c = 0) := Lib.hid (by simp [RowV.value, h0, h1, h2, h3])
  have g0 : (c == 0) = false := by simpa using h0
  have g1 : (c == 1) = false := by simpa using h1
  have g2 : (c == 2) = false := by simpa using h2
  have g3 : (c == 3) = false := by simpa using h3
  clear h0 h1 h2 h3
  go_enter Try.func62, Try.ntmps62
  go_wp2
  go_ret
  exact ⟨by rw [HV.out]; rfl, rfl⟩
/-- 'cmp.Compare'. -/
def cmpI (x y : Int) : Int := if x < y then -1 else if y < x then 1 else 0
end Go.Proofs.Ytjiikpmkedkbkaa

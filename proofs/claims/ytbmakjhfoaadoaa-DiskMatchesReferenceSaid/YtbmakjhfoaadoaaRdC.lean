/-
  The reference's disk: Read, has, Crash.
-/
import Derived.Test.YtbmakjhfoaadoaaRdB
namespace Go.Proofs.Ytbmakjhfoaadoaa
open Go.RowKit

theorem addr_at (b o j : Nat) : (⟨b, o, none⟩ : Addr).add j = ⟨b, o + j, none⟩ := by unfold Addr.add; split <;> simp_all

set_option maxRecDepth 100000 in
set_option maxHeartbeats 2000000 in
theorem rread_any (r : Nat) (G : List Nat) (d : Dm.Dk) (off n : Int) (w : World) (h : Rsk w G r d) (ho : okI off) (hnn : okI n) : Calls Try.prog 20 #[.pointer (some ⟨r, 0, none⟩), .int .i64 off, .int .i64 n] w fun e w' =>
    e = .returned (.tuple #[.string ⟨(Dm.read d off n).1.toArray⟩, .int .i64 (Dm.read d off n).2]) ∧ Fr [] w w' := by
  obtain ⟨sv, lv, rfl, hr⟩ := h
  obtain ⟨As, cs, hsv⟩ := hr.sure.val
  subst hsv
  have b0 : w.cell? ⟨r, 0, none⟩ = some (.slice As d.sure.length cs) := hr.blk.cell 0
  have b2 : w.cell? ⟨r, 2, none⟩ = some (.bool d.off) := hr.blk.cell 2
  obtain ⟨o1, o2⟩ := okI_bounds ho
  obtain ⟨n1, n2⟩ := okI_bounds hnn
  have hn2 := hr.ok.n2
  have hvl := hr.ok.vis_len
  have HVL := Lib.hid hvl
  have HV := Lib.hid (visible_any r _ _ d w hr)
  have HRD : Hid (Dm.read d off n = if d.off = true then ([], 221) else if Dm.inside d off n = true then ((d.vis.drop off.toNat).take n.toNat, 0) else ([], 220)) := Lib.hid rfl
  have HI : Hid (Dm.inside d off n = decide (0 ≤ off ∧ 0 ≤ n ∧ off ≤ d.sure.length ∧ n ≤ (d.sure.length : Int) - off)) := Lib.hid rfl
  clear hr ho hnn hvl
  cases hd : d.off
  · rw [hd] at b2
    by_cases hin : 0 ≤ off ∧ 0 ≤ n ∧ off ≤ d.sure.length ∧ n ≤ (d.sure.length : Int) - off
    · obtain ⟨h1, h2, h3, h4⟩ := hin
      have HR : Hid (Dm.read d off n = ((d.vis.drop off.toNat).take n.toNat, 0)) := Lib.hid (by rw [HRD.out, hd, HI.out, decide_eq_true ⟨h1, h2, h3, h4⟩]; rfl)
      clear hd
      obtain ⟨o, rfl⟩ : ∃ o : Nat, off = (o : Int) := ⟨off.toNat, by omega⟩
      obtain ⟨k, rfl⟩ : ∃ k : Nat, n = (k : Int) := ⟨n.toNat, by omega⟩
      go_enter Try.func20, Try.ntmps20
      go_wp2_with fail
      refine HV.out.mono ?_
      rintro e w1 ⟨g, c, ⟨rfl, hO, hg⟩, f1⟩
      have HF := Lib.hid f1
      obtain ⟨N, HN⟩ : ∃ N, Hid (d.sure.length = N) := ⟨_, Lib.hid rfl⟩
      rw [HN.out] at hO h3 h4 hn2 ⊢
      have hlen : d.vis.length = N := HVL.out.trans HN.out
      rcases Nat.eq_zero_or_pos N with hN0 | hN0
      · subst hN0
        obtain rfl : o = 0 := by omega
        obtain rfl : k = 0 := by omega
        have hcv : ∀ a c, (convert 40 9 (.slice (some a) 0 c)).run Try.prog w1 = .ok (.string ⟨#[]⟩) w1 := fun a c => by
          have h1 := run_convert_bytes_back (P := Try.prog) w1 40 9 5 a c [] Try.underlying40 Try.underlying5 Try.underlying9 (fun j hj => absurd hj (by simp))
          exact h1
        clear hO f1 hlen hg
        by_cases hc : c = 0
        all_goals
          go_wp2_with fail
          go_ret2
          exact ⟨by rw [HR.out]; simp, HF.out⟩
      · obtain ⟨g', c', hv, hnc, hcm, -, hcell, -⟩ := hO.form encB_len (by rw [hlen]; exact hN0)
        injection hv with e1 _ e3
        injection e1 with e1
        injection e1 with e1 _
        subst e1 e3
        rw [hlen] at hnc
        unfold maxLen at hcm
        rcases Nat.lt_or_ge o c with hoc | hoc
        · have hl : ((d.vis.drop o).take k).length = k := by rw [List.length_take, List.length_drop, hlen]; omega
          have hcv : ∀ c', (convert 40 9 (.slice (some ⟨g, o, none⟩) k c')).run Try.prog w1 = .ok (.string ⟨((d.vis.drop o).take k).toArray⟩) w1 := fun c' => by
            have h1 := run_convert_bytes_back (P := Try.prog) w1 40 9 5 ⟨g, o, none⟩ c' ((d.vis.drop o).take k) Try.underlying40 Try.underlying5 Try.underlying9 (fun j hj => by
              have hj2 : o + j < d.vis.length := by rw [hl] at hj; omega
              have h5 := hcell (o + j) hj2 0 (by decide)
              rw [Nat.mul_one, Nat.add_zero] at h5
              rw [addr_at, h5]
              simp [encB])
            rw [hl] at h1
            exact h1
          have hne : ¬ c = o := by omega
          have hok : o + k ≤ c := by omega
          have HR2 : Hid (Dm.read d o k = ((d.vis.drop o).take k, 0)) := Lib.hid (by rw [HR.out]; simp)
          have HCV := Lib.hid hcv
          clear hO f1 hlen hg hcell hl hcv
          have hcv := HCV.out
          go_wp2_with fail
          go_ret2
          exact ⟨by rw [HR2.out]; rfl, HF.out⟩
        · obtain rfl : o = c := by omega
          obtain rfl : k = 0 := by omega
          have hcv : ∀ a c, (convert 40 9 (.slice (some a) 0 c)).run Try.prog w1 = .ok (.string ⟨#[]⟩) w1 := fun a c => by
            have h1 := run_convert_bytes_back (P := Try.prog) w1 40 9 5 a c [] Try.underlying40 Try.underlying5 Try.underlying9 (fun j hj => absurd hj (by simp))
            exact h1
          have HR2 : Hid (Dm.read d o (0 : Nat) = ([], 0)) := Lib.hid (by rw [HR.out]; simp)
          clear hO f1 hlen hg hcell
          go_wp2_with fail
          go_ret2
          exact ⟨by rw [HR2.out]; rfl, HF.out⟩
    · have HR : Hid (Dm.read d off n = ([], 220)) := Lib.hid (by rw [HRD.out, hd, HI.out, decide_eq_false hin]; rfl)
      clear HV hd
      by_cases h1 : off < 0
      · clear hin
        go_enter Try.func20, Try.ntmps20
        go_wp2_with fail
        go_ret2
        exact ⟨by rw [HR.out]; rfl, Fr.refl _ _⟩
      · by_cases h2 : n < 0
        · have h1' : 0 ≤ off := by omega
          clear hin h1
          go_enter Try.func20, Try.ntmps20
          go_wp2_with fail
          go_ret2
          exact ⟨by rw [HR.out]; rfl, Fr.refl _ _⟩
        · by_cases h3 : (d.sure.length : Int) < off
          · have h1' : 0 ≤ off := by omega
            have h2' : 0 ≤ n := by omega
            clear hin h1 h2
            go_enter Try.func20, Try.ntmps20
            go_wp2_with fail
            go_ret2
            exact ⟨by rw [HR.out]; rfl, Fr.refl _ _⟩
          · have h1' : 0 ≤ off := by omega
            have h2' : 0 ≤ n := by omega
            have h3' : off ≤ d.sure.length := by omega
            have h4 : (d.sure.length : Int) - off < n := by omega
            clear hin h1 h2 h3
            go_enter Try.func20, Try.ntmps20
            go_wp2_with fail
            go_ret2
            exact ⟨by rw [HR.out]; rfl, Fr.refl _ _⟩
  · rw [hd] at b2
    have HR : Hid (Dm.read d off n = ([], 221)) := Lib.hid (by rw [HRD.out, hd]; rfl)
    go_enter Try.func20, Try.ntmps20
    go_wp2_with fail
    go_ret2
    exact ⟨by rw [HR.out]; rfl, Fr.refl _ _⟩
set_option maxRecDepth 100000 in
set_option maxHeartbeats 1000000 in
theorem has_any (A : Option Addr) (n cap : Nat) (zs : List Int) (x : Int) (w : World) (hn : zs.length = n) (hb : n ≤ 100000) (hI : IntsIn w A zs) : Calls Try.prog 43 #[.slice A n cap, .int .i64 x] w fun e w' => e = .returned (.bool (decide (x ∈ zs))) ∧ w = w' := by
  have HN := Lib.hid hn
  have HI := Lib.hid hI
  clear hn hI
  go_enter Try.func43, Try.ntmps43
  go_wp2_with fail
  go_loop [5] (fun i => ∃ k : Nat, k ≤ n ∧ i = .int .i64 k ∧ Hid (∀ j (h : j < zs.length), j < k → zs[j] ≠ x)) (fun i => n - (intOf i).toNat)
  case atStart => exact ⟨0, Nat.zero_le _, rfl, Lib.hid (fun j _ h => absurd h (by omega))⟩
  case round =>
    obtain ⟨k, hk, rfl, HK⟩ := hrel
    by_cases hlt : k < n
    · obtain ⟨b, off, rfl, hz⟩ := HI.out.resolve_left (fun h => by have := HN.out; rw [h] at this; simp at this; omega)
      have hkl : k < zs.length := by rw [HN.out]; exact hlt
      have c0 := hz.cell k hkl
      obtain ⟨y, HY⟩ : ∃ y, Hid (zs[k] = y) := ⟨_, Lib.hid rfl⟩
      rw [HY.out] at c0
      clear hz
      by_cases hxy : y = x
      · subst hxy
        have HR : Hid (decide (y ∈ zs) = true) := Lib.hid (decide_eq_true (by rw [← HY.out]; exact List.getElem_mem hkl))
        clear HY hkl
        go_wp2_with fail
        go_ret
        exact ⟨by rw [HR.out]; rfl, rfl⟩
      · have hxb : (y == x) = false := by simpa using hxy
        have HK2 : Hid (∀ j (h : j < zs.length), j < k + 1 → zs[j] ≠ x) := Lib.hid (fun j h hj => by
          by_cases e : j = k
          · subst e; rw [HY.out]; exact hxy
          · exact HK.out j h (by omega))
        clear HY hkl hxy
        go_wp2_with fail
        go_round
        case rel => exact ⟨k + 1, by omega, by go_num, HK2⟩
        case measure => simp [intOf]; omega
    · have HR : Hid (decide (x ∈ zs) = false) := Lib.hid (decide_eq_false (fun hm => by
        obtain ⟨j, hj, e⟩ := List.getElem_of_mem hm
        exact HK.out j hj (by rw [HN.out] at hj; omega) e))
      go_wp2_with fail
      go_ret
      exact ⟨by rw [HR.out]; rfl, rfl⟩
end Go.Proofs.Ytbmakjhfoaadoaa

/-
  slices.Sorted, Compact and DeleteFunc over integers of the call's own; the closure of Crash.
-/
import Derived.Test.YtbmakjhfoaadoaaDkJ
import Derived.Test.YtbmakjhfoaadoaaDkI
import Derived.Test.YtbmakjhfoaadoaaDkLa
import Derived.Test.YtbmakjhfoaadoaaDkLb
namespace Go.Proofs.Ytbmakjhfoaadoaa
open Go.RowKit Go.Sort

theorem own_holds {w : World} {g cap : Nat} {L : List Int} (h : OwnL 3 1 encI w (.slice (some ⟨g, 0, none⟩) L.length cap) L) : Holds (Value.int .i64) w g 0 L.toArray := by
  intro j hj
  have hj' : j < L.length := by simpa using hj
  obtain ⟨g', cap', hv, _, _, _, hcell, hfz⟩ := h.form encI_len (by omega)
  cases hv
  have h1 := hcell j hj' 0 (by decide)
  rw [Nat.zero_add]
  refine ⟨?_, hfz _⟩
  simpa [encI, hj'] using h1
theorem compact_le (d : Array Int) (m : Nat) : (Lib.compactUpTo d m).length ≤ m := by
  unfold Lib.compactUpTo
  rw [List.length_map]
  exact Nat.le_trans (List.length_filter_le _ _) (by simp)
theorem putRow_fr (w : World) (g : Nat) (d : Array Int) (n : Nat) (os : Array Obj) : Fr [g] w (grow (putRow (Value.int .i64) (Go.Sort.ahead w n) g 0 d) os) := by
  refine ⟨rfl, rfl, rfl, ?_, fun j hj hn => ?_⟩
  · simp [grow, putRow, mapBlock, Go.Sort.ahead]
  · have hjg : g ≠ j := fun e => hn (by simp [e])
    simp only [grow, putRow, mapBlock, Go.Sort.ahead]
    rw [Array.getElem?_append_left (by simpa using hj), Array.getElem?_modify, if_neg hjg]
/-- The row's cells are written anew, and the slice is cut. -/
theorem own_put {w : World} {g cap : Nat} {L : List Int} (h : OwnL 3 1 encI w (.slice (some ⟨g, 0, none⟩) L.length cap) L) (L' : List Int) (hl : L'.length = L.length) (k : Nat) (hk : k ≤ L.length) (n : Nat) (os : Array Obj) :
    OwnL 3 1 encI (grow (putRow (Value.int .i64) (Go.Sort.ahead w n) g 0 L'.toArray) os) (.slice (some ⟨g, 0, none⟩) k cap) (L'.take k) := by
  have hkl : (L'.take k).length = k := by rw [List.length_take]; omega
  refine ⟨by rw [flat_len encI_len], ?_⟩
  rcases h.2 with ⟨hv, _⟩ | ⟨g', cap', cur, hv, hb, hg, hnc, hcm, hcs, htk⟩
  · cases hv
  · cases hv
    refine .inr ⟨g, cap, putCells (Value.int .i64) 0 L'.toArray cur, by rw [hkl], hb, ?_, by rw [hkl]; omega, hcm, by simp [putCells, hcs], ?_⟩
    · have hgl := (Array.getElem?_eq_some_iff.1 hg).1
      simp only [grow, putRow, mapBlock, Go.Sort.ahead]
      rw [Array.getElem?_append_left (by simpa using hgl), Array.getElem?_modify, if_pos rfl, hg]
      rfl
    · apply List.ext_getElem?
      intro q
      rw [hkl, List.getElem?_take]
      by_cases hq : q < k * 1
      · have hqc : q < cur.size := by omega
        have h2 := flat_get encI_len (L'.take k) q (by omega) 0 (by decide)
        have e1 : q * 1 + 0 = q := by omega
        rw [e1] at h2
        rw [if_pos hq, h2, Array.getElem?_toList]
        simp only [putCells, Array.getElem?_mapIdx, Array.getElem?_eq_getElem hqc, Option.map_some]
        rw [if_pos ⟨Nat.zero_le _, by simp; omega⟩]
        have hql : q < L'.length := by omega
        simp [encI, hql]
      · rw [if_neg hq, List.getElem?_eq_none (by rw [flat_len encI_len, hkl]; omega)]

/-- What is asked of slices.Sort. -/
structure SortsI : Prop where
  some_ : ∀ (blk off cap : Nat) (zs : List Int) (w : World), Holds (Value.int .i64) w blk off zs.toArray → blk < w.heap.size → zs.length < 4611686018427387904 →
    Calls Try.prog 46 #[.slice (some ⟨blk, off, none⟩) zs.length cap] w fun e w' => e = .returned (.tuple #[]) ∧ ∃ n os, w' = grow (putRow (Value.int .i64) (Go.Sort.ahead w n) blk off (zs.mergeSort fun x y => decide (x ≤ y)).toArray) os
  none_ : ∀ (p : Option Addr) (cap : Nat) (w : World), Calls Try.prog 46 #[.slice p 0 cap] w fun e w' => e = .returned (.tuple #[]) ∧ w' = w

theorem values_any (a : Option Addr) (len cap : Nat) (w : World) : Calls Try.prog 40 #[.slice a len cap] w fun e w' => e = .returned (.func (.func 47) #[] #[.pointer (some ⟨w.heap.size, 0, none⟩)]) ∧ w' = w.alloc (.cells #[.slice a len cap] 37) :=
  (callsIn_wide (n := 6)).1 (Vl.values_in _ _ trivial rfl a len cap w)
set_option maxRecDepth 100000 in
theorem collect_any (Bs : Nat) (sv : Value) (zs : List Int) (w : World) (hreach : zs.length * 8 ≤ 140737488351232) (hc : w.cell? ⟨Bs, 0, none⟩ = some sv) (hI : Vl.Ints w.heap.size w sv zs) :
    Calls Try.prog 45 #[.func (.func 47) #[] #[.pointer (some ⟨Bs, 0, none⟩)]] w fun e w' => ∃ v, (e = .returned v ∧ OwnL 3 1 encI w' v zs ∧ ∀ g, v.ownBlock = some g → w.heap.size ≤ g) ∧ Fr [] w w' := by
  have HA := Lib.hid (appendSeq_any Bs sv zs w hreach hc hI)
  clear hc hI
  go_enter Try.func45, Try.ntmps45
  go_wp2_with (go_at_call 49; refine HA.out.mono ?_; rintro e w' ⟨v, ⟨rfl, h1, h2⟩, f1⟩; have H1 := Lib.hid h1; have H2 := Lib.hid h2; have F1 := Lib.hid f1; clear h1 h2 f1)
  go_ret
  exact ⟨v, ⟨rfl, H1.out, H2.out⟩, F1.out⟩
set_option maxRecDepth 100000 in
theorem sorted_any (HS : SortsI) (Bs : Nat) (sv : Value) (zs : List Int) (w : World) (hreach : zs.length * 8 ≤ 140737488351232) (hc : w.cell? ⟨Bs, 0, none⟩ = some sv) (hI : Vl.Ints w.heap.size w sv zs) :
    Calls Try.prog 39 #[.func (.func 47) #[] #[.pointer (some ⟨Bs, 0, none⟩)]] w fun e w' => ∃ v, (e = .returned v ∧ OwnL 3 1 encI w' v (zs.mergeSort fun x y => decide (x ≤ y)) ∧ ∀ g, v.ownBlock = some g → w.heap.size ≤ g) ∧ Fr [] w w' := by
  have HA := Lib.hid (collect_any Bs sv zs w hreach hc hI)
  clear hc hI
  go_enter Try.func39, Try.ntmps39
  go_wp2_with fail
  refine HA.out.mono ?_
  rintro e w1 ⟨v, ⟨rfl, h1, h2⟩, f1⟩
  obtain ⟨A, cap, hv⟩ := h1.val
  have H1 := Lib.hid h1
  have H2 := Lib.hid h2
  have F1 := Lib.hid f1
  clear h1 h2 f1
  have hms : (zs.mergeSort fun x y => decide (x ≤ y)).length = zs.length := List.length_mergeSort _
  have HMS := Lib.hid hms
  clear hms
  rcases Nat.eq_zero_or_pos zs.length with h0 | h0
  · have hz : zs = [] := List.eq_nil_of_length_eq_zero h0
    subst hz
    subst hv
    go_wp2_with fail
    refine (HS.none_ A cap w1).mono ?_
    rintro e w2 ⟨rfl, rfl⟩
    go_wp2_with fail
    go_ret
    exact ⟨_, ⟨rfl, by simpa using H1.out, H2.out⟩, F1.out⟩
  · obtain ⟨g, cap', hv', _, _, hgl, _, _⟩ := H1.out.form encI_len h0
    rw [hv'] at hv
    injection hv with a1 a2 a3
    subst a1 a3
    subst hv'
    have HSS := Lib.hid (HS.some_ g 0 cap' zs w1 (own_holds H1.out) hgl (by omega))
    clear a2
    obtain ⟨n, HN⟩ : ∃ n, Hid (n = zs.length) := ⟨_, Lib.hid rfl⟩
    have H1' : Hid (OwnL 3 1 encI w1 (.slice (some ⟨g, 0, none⟩) zs.length cap') zs) := H1
    rw [← HN.out] at HSS H1 H2 ⊢
    go_wp2_with fail
    refine HSS.out.mono ?_
    rintro e w2 ⟨rfl, q, os, hw2⟩
    have HE : Hid (OwnL 3 1 encI w2 (.slice (some ⟨g, 0, none⟩) n cap') (zs.mergeSort fun x y => decide (x ≤ y))) := Lib.hid (by
      have h5 := own_put H1'.out (zs.mergeSort fun x y => decide (x ≤ y)) HMS.out zs.length (Nat.le_refl _) q os
      rw [List.take_of_length_le (by rw [HMS.out]; omega), ← hw2, ← HN.out] at h5
      exact h5)
    have HF : Hid (Fr [] w w2) := Lib.hid (by
      rw [hw2]
      exact F1.out.trans' (putRow_fr w1 g _ q os) (fun i hi => .inr (by
        have : i = g := by simpa using hi
        subst this
        exact H2.out i rfl)))
    clear hw2
    go_wp2_with fail
    go_ret
    exact ⟨_, ⟨rfl, HE.out, H2.out⟩, HF.out⟩
theorem compact0_any (A : Option Addr) (cap : Nat) (w : World) : Calls Try.prog 38 #[.slice A 0 cap] w fun e w' => e = .returned (.slice A 0 cap) ∧ w = w' := by
  go_enter Try.func38, Try.ntmps38
  go_wp2
  go_ret
  exact ⟨rfl, rfl⟩
theorem index0_any (A : Option Addr) (cap : Nat) (f : Value) (w : World) : Calls Try.prog 48 #[.slice A 0 cap, f] w fun e w' => e = .returned (.int .i64 (-1)) ∧ w = w' := by
  go_enter Try.func48, Try.ntmps48
  go_wp2_with fail
  refine wp_loop_rounds 1 ?_
  rw [rounds_succ]
  go_wp2_with fail
  go_ret
  exact ⟨rfl, rfl⟩
theorem delete0_any (A : Option Addr) (cap : Nat) (f : Value) (w : World) : Calls Try.prog 41 #[.slice A 0 cap, f] w fun e w' => e = .returned (.slice A 0 cap) ∧ w = w' := by
  go_enter Try.func41, Try.ntmps41
  go_wp2_with (go_at_call 48; refine (index0_any _ _ _ _).mono ?_; rintro e w' ⟨rfl, rfl⟩)
  go_ret
  exact ⟨rfl, rfl⟩
theorem compactI_any (A : Option Addr) (n cap : Nat) (L : List Int) (w : World) (h : OwnL 3 1 encI w (.slice A n cap) L) : Calls Try.prog 38 #[.slice A n cap] w fun e w' =>
    e = .returned (.slice A (Lib.compactUpTo L.toArray L.length).length cap) ∧ OwnL 3 1 encI w' (.slice A (Lib.compactUpTo L.toArray L.length).length cap) (Lib.compactUpTo L.toArray L.length) ∧ Fr ((Value.slice A n cap).ownBlock.toList) w w' := by
  obtain ⟨A', cap', hv⟩ := h.val
  injection hv with a1 a2 a3
  subst a1 a2 a3
  rcases Nat.eq_zero_or_pos L.length with h0 | h0
  · have hz : L = [] := List.eq_nil_of_length_eq_zero h0
    subst hz
    refine (compact0_any A cap w).mono ?_
    rintro e w' ⟨rfl, rfl⟩
    exact ⟨rfl, h, Fr.refl _ _⟩
  · obtain ⟨g, cap', hv', hnc, hcm, hgl, _, _⟩ := h.form encI_len h0
    injection hv' with a1 _ a3
    subst a1 a3
    have hm : L.length ≤ 9223372036854775807 := by simp only [maxLen] at hcm; omega
    have h1 := AnyE.slices_Compact Shlf.compactI (Value.int .i64) (fun _ => rfl) ⟨(EqlAt.int _ _ _).1, (EqlAt.int _ _ _).2⟩ ⟨(NeqAt.int _ _ _).1, (NeqAt.int _ _ _).2⟩ (0 : Int) (fun w => by kernel_rfl) g 0 cap L.toArray w (own_holds h) (by simpa using hm) (by simpa using hnc)
    have hs : L.toArray.size = L.length := by simp
    rw [hs] at h1
    refine h1.mono ?_
    rintro e w' ⟨rfl, q, hw'⟩
    have hcl : (Lib.compactUpTo L.toArray L.length).length ≤ L.length := compact_le _ _
    have h5 := own_put h (Lib.compactUpTo L.toArray L.length ++ List.replicate (L.length - (Lib.compactUpTo L.toArray L.length).length) 0) (by simp; omega) (Lib.compactUpTo L.toArray L.length).length hcl q #[]
    rw [List.take_left', grow_empty, ← hw'] at h5
    · exact ⟨rfl, h5, by
        have h6 := putRow_fr w g (Lib.compactUpTo L.toArray L.length ++ List.replicate (L.length - (Lib.compactUpTo L.toArray L.length).length) 0).toArray q #[]
        rw [grow_empty, ← hw'] at h6
        exact h6⟩
    · rfl
theorem crash1_any (bx b : Nat) (x : Int) (A : Option Addr) (n cap : Nat) (w : World) (hx : w.cell? ⟨bx, 0, none⟩ = some (.pointer (some ⟨b, 0, none⟩))) (h4 : w.cell? ⟨b, 4, none⟩ = some (.slice A n cap)) :
    Calls Try.prog 42 #[.int .i64 x, .pointer (some ⟨bx, 0, none⟩)] w fun e w' => e = .returned (.bool (decide (x < 0) || decide ((n : Int) ≤ x))) ∧ w = w' := by
  by_cases h0 : x < 0
  · go_enter Try.func42, Try.ntmps42
    go_wp2
    go_ret
    exact ⟨by simp [h0], rfl⟩
  · by_cases h1 : (n : Int) ≤ x
    · go_enter Try.func42, Try.ntmps42
      go_wp2
      go_ret
      exact ⟨by simp [h1], rfl⟩
    · go_enter Try.func42, Try.ntmps42
      go_wp2
      go_ret
      exact ⟨by simp [h0, h1], rfl⟩
/-- slices.DeleteFunc with Crash's closure. -/
theorem deleteI_any (bx b : Nat) (A4 : Option Addr) (m cap4 : Nat) (A : Option Addr) (n cap : Nat) (L : List Int) (w : World) (h : OwnL 3 1 encI w (.slice A n cap) L) (hbx : Blk w bx 23 #[.pointer (some ⟨b, 0, none⟩)])
    (o l sA sB : Value) (hb : Blk w b 65 #[o, l, sA, sB, .slice A4 m cap4]) : Calls Try.prog 41 #[.slice A n cap, .func (.func 42) #[] #[.pointer (some ⟨bx, 0, none⟩)]] w fun e w' =>
    ∃ k, (e = .returned (.slice A k cap) ∧ OwnL 3 1 encI w' (.slice A k cap) (L.filter fun i => !(decide (i < 0) || decide ((m : Int) ≤ i)))) ∧ Fr ((Value.slice A n cap).ownBlock.toList) w w' := by
  obtain ⟨A', cap', hv⟩ := h.val
  injection hv with a1 a2 a3
  subst a1 a2 a3
  rcases Nat.eq_zero_or_pos L.length with h0 | h0
  · have hz : L = [] := List.eq_nil_of_length_eq_zero h0
    subst hz
    refine (delete0_any A cap _ w).mono ?_
    rintro e w' ⟨rfl, rfl⟩
    exact ⟨_, ⟨rfl, h⟩, Fr.refl _ _⟩
  · obtain ⟨g, cap', hv', hnc, hcm, hgl, _, _⟩ := h.form encI_len h0
    injection hv' with a1 _ a3
    subst a1 a3
    have hm : L.length ≤ 9223372036854775807 := by simp only [maxLen] at hcm; omega
    have hg1 : g ≠ bx := h.ne hbx (by decide) rfl
    have hg2 : g ≠ b := h.ne hb (by decide) rfl
    have hs : L.toArray.size = L.length := by simp
    have give : ∀ (W : World) (x : Int), Fr [g] w W → FnGives Try.prog 42 #[.pointer (some ⟨bx, 0, none⟩)] #[.int .i64 x] (.bool (decide (x < 0) || decide ((m : Int) ≤ x))) W := fun W x hf => by
      have h1 := (hbx.fr hf (by simpa using hg1.symm)).cell 0
      have h2 := (hb.fr hf (by simpa using hg2.symm)).cell 4
      refine (crash1_any bx b x A4 m cap4 W h1 h2).mono ?_
      rintro e w' ⟨rfl, rfl⟩
      exact ⟨rfl, 0, rfl⟩
    have h1 := AnyE.slices_DeleteFunc Shlf.deleteI (Value.int .i64) (fun _ => rfl) (fun i : Int => decide (i < 0) || decide ((m : Int) ≤ i)) 42 #[.pointer (some ⟨bx, 0, none⟩)] (enters_of Try.func42 (by kernel_rfl) rfl) (0 : Int) (fun w => by kernel_rfl) g 0 cap L.toArray w
      (fun W x hb => give W x (Fr.of_below hb)) (fun q os dk x _ => give _ x (putRow_fr w g dk q os)) (own_holds h) (by simpa using hm) (by simpa using hnc)
    rw [hs] at h1
    refine h1.mono ?_
    rintro e w' ⟨rfl, q, hw'⟩
    have hcl : (L.filter fun i => !(decide (i < 0) || decide ((m : Int) ≤ i))).length ≤ L.length := List.length_filter_le _ _
    have h5 := own_put h ((L.filter fun i => !(decide (i < 0) || decide ((m : Int) ≤ i))) ++ List.replicate (L.length - (L.filter fun i => !(decide (i < 0) || decide ((m : Int) ≤ i))).length) 0) (by rw [List.length_append, List.length_replicate]; omega) (L.filter fun i => !(decide (i < 0) || decide ((m : Int) ≤ i))).length hcl q #[]
    have h6 := putRow_fr w g ((L.filter fun i => !(decide (i < 0) || decide ((m : Int) ≤ i))) ++ List.replicate (L.length - (L.filter fun i => !(decide (i < 0) || decide ((m : Int) ≤ i))).length) 0).toArray q #[]
    rw [List.take_left' rfl] at h5
    rw [grow_empty] at h5 h6
    rw [← hw'] at h5 h6
    exact ⟨_, ⟨rfl, h5⟩, h6⟩
end Go.Proofs.Ytbmakjhfoaadoaa

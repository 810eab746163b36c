/-
  Reference 08: an index in memory; New, at, Add, Remove, Match.
-/
import Derived.Test.YtciaallekkdnhaaGreatMuP
import Derived.Test.YtciaallekkdnhaaGreatJh
import Derived.Test.YtciaallekkdnhaaGreatRsB
import Derived.Test.YtciaallekkdnhaaGreatFar
import Derived.Test.YtciaallekkdnhaaGreatJc
import Derived.BigQuiet
namespace Go.Proofs.YtciaallekkdnhaaGreat
open Go.RowKit

def encIt (e : Int × Qry) : List Value := [.int .i64 e.1, .int .i64 e.2.kind, .int .i64 e.2.table, .int .i64 e.2.column, .int .i64 e.2.low, .int .i64 e.2.high, .int .i64 e.2.by_, .int .i64 e.2.other]
theorem encIt_len (e : Int × Qry) : (encIt e).length = 8 := rfl
theorem encIt_one (e : Int × Qry) : ∀ u ∈ encIt e, u.oneCell' = true := by
  intro u hu
  simp only [encIt, List.mem_cons, List.not_mem_nil, or_false] at hu
  rcases hu with rfl | rfl | rfl | rfl | rfl | rfl | rfl | rfl <;> rfl
theorem etIt : ∃ i z, ET Tryz.prog 43 87 8 64 i z := by
  have h : (Tryz.prog.info? 87).map (fun i => (i.zero, i.size, i.bytes)) = some (some (.agg #[.int .i64 0, .int .i64 0, .int .i64 0, .int .i64 0, .int .i64 0, .int .i64 0, .int .i64 0, .int .i64 0]), 8, 64) := by kernel_rfl
  obtain ⟨i0, hi, hz0, hz1, hz2⟩ := info_parts h
  exact ⟨i0, _, Tryz.underlying43, hi, hz0, hz1, hz2, rfl, by decide⟩
/-- A reference index at block b. -/
structure RxAt (w : World) (b : Nat) (v : Value) (M : Mm.Ix) (R : Rx.Rl) : Prop where
  blk : Blk w b 45 #[v]
  row : OwnL 87 8 encIt w v R
  sim : Rx.Sim M R
  len : R.length ≤ 500
section
variable {w w' : World} {b : Nat} {v : Value} {M : Mm.Ix} {R : Rx.Rl}
theorem RxAt.fr0 (h : RxAt w b v M R) (hf : Fr [] w w') : RxAt w' b v M R := ⟨h.blk.fr hf (by simp), h.row.fr hf (by simp), h.sim, h.len⟩
theorem RxAt.val (h : RxAt w b v M R) : ∃ A cap, v = .slice A R.length cap ∧ R.length ≤ cap ∧ cap ≤ maxLen := by
  obtain ⟨A, cap, hv⟩ := h.row.val
  subst hv
  refine ⟨A, cap, rfl, own_cap h.row, ?_⟩
  rcases h.row.2 with ⟨h1, h0⟩ | ⟨g, c, cur, h1, _, _, _, hcm, _⟩
  · injection h1 with h1 h2 h3
    subst h3
    simp [maxLen]
  · injection h1 with h1 h2 h3
    subst h3
    exact hcm
end
theorem rxnew_any (w : World) : Calls Tryz.prog 12 #[] w fun e w' => e = .returned (.pointer (some ⟨w.heap.size, 0, none⟩)) ∧ RxAt w' w.heap.size (.slice none 0 0) [] [] ∧ Fr [] w w' := by
  go_enter Tryz.func12, Tryz.ntmps12
  go_wp2
  go_ret
  exact ⟨rfl, ⟨Blk.new w _ _, OwnL.nil, Rx.Sim.nil, by decide⟩, (Fr.refl _ _).alloc _⟩
set_option maxRecDepth 100000 in
set_option maxHeartbeats 4000000 in
theorem rxat_any (b : Nat) (v : Value) (M : Mm.Ix) (R : Rx.Rl) (id : Int) (w : World) (h : RxAt w b v M R) : Calls Tryz.prog 36 #[.pointer (some ⟨b, 0, none⟩), .int .i64 id] w fun e w' => e = .returned (.tuple #[.int .i64 (Rx.pos R id), .bool (Rx.there R id)]) ∧ Fr [] w w' := by
  obtain ⟨A, cap, hv, hc1, hc2⟩ := h.val
  subst hv
  have h63 : cap < 9223372036854775808 := by simp only [maxLen] at hc2; omega
  have HAT := Lib.hid (h.row.at1 encIt_len).1
  have hb0 : w.cell? ⟨b, 0, none⟩ = some (.slice A R.length cap) := h.blk.cell 0
  have HLEN := Lib.hid h.len
  obtain ⟨n, hn⟩ : ∃ n, n = R.length := ⟨_, rfl⟩
  rw [← hn] at hb0 hc1
  have HN := Lib.hid hn
  have hn5 : n ≤ 500 := by rw [HN.out]; exact HLEN.out
  obtain ⟨pp, HPP⟩ : ∃ p, Hid (Rx.pos R id = p) := ⟨_, Lib.hid rfl⟩
  obtain ⟨tt, HTT⟩ : ∃ p, Hid (Rx.there R id = p) := ⟨_, Lib.hid rfl⟩
  rw [HPP.out, HTT.out]
  clear hn h
  go_enter Tryz.func36, Tryz.ntmps36
  go_wp2_with fail
  go_loopw [6] (fun i wr => ∃ k : Nat, i = .int .i64 k ∧ k ≤ n ∧ Hid (∀ j (h : j < R.length), j < k → R[j].1 < id) ∧ Hid (w = wr)) (fun i _ => n - (intOf i).toNat)
  case atStart => exact ⟨0, rfl, by omega, Lib.hid (fun j h h0 => absurd h0 (by omega)), Lib.hid rfl⟩
  case round =>
    obtain ⟨k, rfl, hk, HLT, HW⟩ := hrel
    have hw := HW.out
    subst hw
    by_cases hlt : k < n
    · have hkl : k < R.length := by rw [← HN.out]; exact hlt
      obtain ⟨bb, off, hA, hbb, hcell⟩ := HAT.out (by omega)
      subst hA
      have e0 := hcell k hkl 0 (by decide)
      have HE := Lib.hid hcell
      clear hcell
      obtain ⟨x, hx⟩ : ∃ x, x = R[k].1 := ⟨_, rfl⟩
      have e1 : w.cell? ⟨bb, off + k * 8, none⟩ = some (.int .i64 x) := by rw [hx]; exact e0
      have HXE := Lib.hid hx
      clear e0 hx
      have hlt' : decide ((k : Int) < (n : Int)) = true := by simpa using hlt
      by_cases hxi : x < id
      · go_wp2_with fail
        go_roundw
        case rel => exact ⟨k + 1, by go_num, by omega, Lib.hid (fun j h h0 => by
          by_cases e : j = k
          · subst e
            rw [← HXE.out]
            exact hxi
          · exact HLT.out j h (by omega)), Lib.hid trivial⟩
        case measure => simp [intOf]; omega
      · have hp : Hid (pp = k) := Lib.hid (HPP.out.symm.trans (Rx.pos_eq (by omega) HLT.out (fun _ => by rw [← HXE.out]; exact hxi)))
        have ht : Hid (tt = decide (x = id)) := Lib.hid (by
          rw [← HTT.out]
          unfold Rx.there
          rw [HPP.out, hp.out, List.getElem?_eq_getElem hkl]
          simp only [HXE.out])
        by_cases hxe : x = id
        · have hxe' : (x == id) = true := by simpa using hxe
          rw [decide_eq_true hxe] at ht
          clear hxe
          go_wp2_with fail
          go_quiet (fail)
          go_wp2_with fail
          go_ret2
          exact ⟨by rw [hp.out, ht.out]; rfl, (Fr.refl [] w).drewN _⟩
        · have hxe' : (x == id) = false := by simpa using hxe
          rw [decide_eq_false hxe] at ht
          clear hxe
          go_wp2_with fail
          go_quiet (fail)
          go_wp2_with fail
          go_ret2
          exact ⟨by rw [hp.out, ht.out]; rfl, (Fr.refl [] w).drewN _⟩
    · obtain rfl : k = n := by omega
      have hp : Hid (pp = k) := Lib.hid (HPP.out.symm.trans (Rx.pos_eq (by rw [HN.out]; exact Nat.le_refl _) HLT.out (fun h => absurd h (by rw [HN.out]; exact Nat.lt_irrefl _))))
      have ht : Hid (tt = false) := Lib.hid (by
        rw [← HTT.out]
        unfold Rx.there
        rw [HPP.out, hp.out, List.getElem?_eq_none (by rw [HN.out]; exact Nat.le_refl _)])

      go_wp2_with fail
      go_quiet (fail)
      go_wp2_with fail
      go_ret2
      exact ⟨by rw [hp.out, ht.out]; rfl, (Fr.refl [] w).drewN _⟩
end Go.Proofs.YtciaallekkdnhaaGreat

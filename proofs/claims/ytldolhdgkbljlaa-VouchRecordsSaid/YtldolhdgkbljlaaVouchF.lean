/-
  'sane' of law 20.
-/
import Derived.Test.YtldolhdgkbljlaaVouchE
namespace Go.Proofs.Ytldolhdgkbljlaa
open Go.RowKit

theorem Vm.ok_new : Vm.Ok Vm.new := ⟨by decide, by simp [Vm.new], by simp [Vm.new]⟩
theorem Vm.wait_mem {L : List (Int × Int)} {p t : Int} {e : Int × Int} (h : e ∈ Vm.wait L p t) : e.1 = p ∨ e ∈ L := by
  unfold Vm.wait at h
  dsimp only at h
  have h1 : e ∈ mput L p (Vm.isMax ((mget L p).getD 0) t) := by
    split at h
    · exact (mem_mdel.1 h).1
    · exact h
  rcases mem_mput.1 h1 with rfl | h2
  · exact .inl rfl
  · exact .inr h2.1
theorem Vm.wait_len {L : List (Int × Int)} {p t : Int} (h : L.length ≤ 64) (hpos : ∀ e ∈ mput L p (Vm.isMax ((mget L p).getD 0) t), 1 ≤ e.1) : (Vm.wait L p t).length ≤ 64 := by
  unfold Vm.wait
  have h1 : (mput L p (Vm.isMax ((mget L p).getD 0) t)).length ≤ 65 := by
    have := length_mdel_le (M := L) (x := p)
    simp [mput]
    omega
  generalize mput L p (Vm.isMax ((mget L p).getD 0) t) = L1 at *
  simp only
  split
  · rename_i h2
    rcases Vm.worst_spec L1 hpos with ⟨h3, _⟩ | h3
    · rw [h3] at h2; simp at h2
    · have : (mdel L1 (Vm.worst L1).1).length < L1.length := by
        refine Nat.lt_of_le_of_ne length_mdel_le fun h4 => ?_
        have h5 : mdel L1 (Vm.worst L1).1 = L1 := List.Sublist.eq_of_length List.filter_sublist h4
        have h6 := h3.1
        rw [← h5] at h6
        exact (mem_mdel.1 h6).2 (by rw [h5])
      omega
  · omega
theorem Vm.beat_cases (c : Vm.Clk) (p t : Int) : (Vm.valid p t = false ∧ Vm.beat c p t = c) ∨
    (Vm.valid p t = true ∧ p ≤ c.applied ∧ Vm.beat c p t = ⟨c.applied, Vm.isMax c.asOf t, if Vm.later p t c.lp c.lt = true then p else c.lp, if Vm.later p t c.lp c.lt = true then t else c.lt, c.L⟩) ∨
    (Vm.valid p t = true ∧ c.applied < p ∧ Vm.beat c p t = ⟨c.applied, c.asOf, if Vm.later p t c.lp c.lt = true then p else c.lp, if Vm.later p t c.lp c.lt = true then t else c.lt, Vm.wait c.L p t⟩) := by
  cases hv : Vm.valid p t
  · exact .inl ⟨rfl, by unfold Vm.beat; rw [if_neg (by simp [hv])]⟩
  · right
    by_cases h : p ≤ c.applied
    · exact .inl ⟨rfl, h, by unfold Vm.beat; rw [if_pos hv]; dsimp only; rw [if_pos h]⟩
    · exact .inr ⟨rfl, by omega, by unfold Vm.beat; rw [if_pos hv]; dsimp only; rw [if_neg h]⟩
theorem Vm.Ok.beat {c : Vm.Clk} (h : Vm.Ok c) (p t : Int) : Vm.Ok (Vm.beat c p t) := by
  have h0 := h.pos
  rcases Vm.beat_cases c p t with ⟨_, e⟩ | ⟨_, _, e⟩ | ⟨hv, hlt, e⟩ <;> rw [e]
  · exact h
  · exact ⟨h.pos, h.keys, h.len⟩
  · refine ⟨h.pos, fun e he => ?_, Vm.wait_len h.len fun e he => ?_⟩
    · rcases Vm.wait_mem he with h1 | h1
      · show c.applied < e.1; omega
      · exact h.keys e h1
    · rcases mem_mput.1 he with rfl | h1
      · show 1 ≤ p; omega
      · have := h.keys e h1.1; omega
theorem Vm.Ok.applied {c : Vm.Clk} (h : Vm.Ok c) (p : Int) : Vm.Ok (Vm.applied c p) := by
  unfold Vm.applied
  split
  · exact h
  · have := h.pos
    refine ⟨by show 0 ≤ p; omega, fun e he => ?_, Nat.le_trans (List.length_filter_le _ _) h.len⟩
    have := (List.mem_filter.1 he).2
    simpa using this

theorem beat_any (b m : Nat) (c : Vm.Clk) (p t : Int) (w : World) (hclk : ClkAt w b m c) (hok : Vm.Ok c) :
    Calls Try.prog 18 #[.pointer (some ⟨b, 0, none⟩), .int .i64 p, .int .i64 t] w fun e w' => e = .returned (.tuple #[]) ∧ ClkAt w' b m (Vm.beat c p t) ∧ Fr [b, m] w w' := by
  cases hv : Vm.valid p t
  · exact beat_bad b m c p t w hclk hv
  · exact beat_ok b m c p t w hclk hok hv

set_option maxRecDepth 100000 in
theorem sane_any (w : World) : Calls Try.prog 12 #[] w fun e w' => e = .returned (.bool true) ∧ Fr [] w w' := by
  go_enter Try.func12, Try.ntmps12
  go_wp2_with fail
  refine (new_any _).mono ?_
  rintro e w0 ⟨rfl, h0, f0⟩
  have k0 := Vm.ok_new
  have g0 : Fr [] w w0 := f0
  generalize hb : w.heap.size + 1 = b at *
  generalize hm : w.heap.size = m at *
  have Hb := Lib.hid hb
  have Hm := Lib.hid hm
  clear hb hm f0
  go_wp2_with fail
  refine (beat_any b m _ _ _ _ h0 k0).mono ?_
  rintro e w1 ⟨rfl, h1, f1⟩
  have k1 := k0.beat 0 3
  rw [show Vm.beat Vm.new 0 3 = ⟨0, 3, 0, 3, []⟩ from by kernel_rfl] at h1 k1
  have g1 : Fr [] w w1 := g0.trans' f1 (by have := Hb.out; have := Hm.out; simp; omega)
  clear h0 k0 f1 g0
  go_wp2_with fail
  refine (asOf_any b m _ _ h1).mono ?_
  rintro e w' ⟨rfl, rfl⟩
  go_wp2_with fail
  refine (beat_any b m _ _ _ _ h1 k1).mono ?_
  rintro e w2 ⟨rfl, h2, f2⟩
  have k2 := k1.beat 5 9
  rw [show Vm.beat ⟨0, 3, 0, 3, []⟩ 5 9 = ⟨0, 3, 5, 9, [(5, 9)]⟩ from by kernel_rfl] at h2 k2
  have g2 : Fr [] w w2 := g1.trans' f2 (by have := Hb.out; have := Hm.out; simp; omega)
  clear h1 k1 f2 g1
  go_wp2_with fail
  refine (beat_any b m _ _ _ _ h2 k2).mono ?_
  rintro e w3 ⟨rfl, h3, f3⟩
  have k3 := k2.beat 4 8
  rw [show Vm.beat ⟨0, 3, 5, 9, [(5, 9)]⟩ 4 8 = ⟨0, 3, 5, 9, [(4, 8), (5, 9)]⟩ from by kernel_rfl] at h3 k3
  have g3 : Fr [] w w3 := g2.trans' f3 (by have := Hb.out; have := Hm.out; simp; omega)
  clear h2 k2 f3 g2
  go_wp2_with fail
  refine (asOf_any b m _ _ h3).mono ?_
  rintro e w' ⟨rfl, rfl⟩
  go_wp2_with fail
  refine (latest_any b m _ _ h3).mono ?_
  rintro e w' ⟨rfl, n3, rfl⟩
  replace h3 := h3.fr ((Fr.refl [] _).drewN n3) (by simp) (by simp)
  replace g3 := g3.drewN n3
  generalize w3.drewN n3 = w3 at *
  go_wp2_with fail
  refine (applied_any b m _ _ _ h3).mono ?_
  rintro e w4 ⟨rfl, h4, f4⟩
  have k4 := k3.applied 4
  rw [show Vm.applied ⟨0, 3, 5, 9, [(4, 8), (5, 9)]⟩ 4 = ⟨4, 8, 5, 9, [(5, 9)]⟩ from by kernel_rfl] at h4 k4
  have g4 : Fr [] w w4 := g3.trans' f4 (by have := Hb.out; have := Hm.out; simp; omega)
  clear h3 k3 f4 g3
  go_wp2_with fail
  refine (asOf_any b m _ _ h4).mono ?_
  rintro e w' ⟨rfl, rfl⟩
  go_wp2_with fail
  refine (applied_any b m _ _ _ h4).mono ?_
  rintro e w5 ⟨rfl, h5, f5⟩
  have k5 := k4.applied 7
  rw [show Vm.applied ⟨4, 8, 5, 9, [(5, 9)]⟩ 7 = ⟨7, 9, 5, 9, []⟩ from by kernel_rfl] at h5 k5
  have g5 : Fr [] w w5 := g4.trans' f5 (by have := Hb.out; have := Hm.out; simp; omega)
  clear h4 k4 f5 g4
  go_wp2_with fail
  refine (asOf_any b m _ _ h5).mono ?_
  rintro e w' ⟨rfl, rfl⟩
  go_wp2_with fail
  refine (beat_any b m _ _ _ _ h5 k5).mono ?_
  rintro e w6 ⟨rfl, h6, f6⟩
  have k6 := k5.beat 6 12
  rw [show Vm.beat ⟨7, 9, 5, 9, []⟩ 6 12 = ⟨7, 12, 6, 12, []⟩ from by kernel_rfl] at h6 k6
  have g6 : Fr [] w w6 := g5.trans' f6 (by have := Hb.out; have := Hm.out; simp; omega)
  clear h5 k5 f6 g5
  go_wp2_with fail
  refine (beat_any b m _ _ _ _ h6 k6).mono ?_
  rintro e w7 ⟨rfl, h7, f7⟩
  have k7 := k6.beat 6 11
  rw [show Vm.beat ⟨7, 12, 6, 12, []⟩ 6 11 = ⟨7, 12, 6, 12, []⟩ from by kernel_rfl] at h7 k7
  have g7 : Fr [] w w7 := g6.trans' f7 (by have := Hb.out; have := Hm.out; simp; omega)
  clear h6 k6 f7 g6
  go_wp2_with fail
  refine (asOf_any b m _ _ h7).mono ?_
  rintro e w' ⟨rfl, rfl⟩
  go_wp2_with fail
  refine (reset_any b m _ _ h7).mono ?_
  rintro e w8 ⟨rfl, h8, f8⟩
  have g8 : Fr [] w w8 := g7.trans' f8 (by have := Hb.out; have := Hm.out; simp; omega)
  clear h7 k7 f8 g7
  go_wp2_with fail
  refine (asOf_any b _ _ _ h8).mono ?_
  rintro e w' ⟨rfl, rfl⟩
  go_wp2_with fail
  go_ret
  exact ⟨rfl, g8⟩
end Go.Proofs.Ytldolhdgkbljlaa

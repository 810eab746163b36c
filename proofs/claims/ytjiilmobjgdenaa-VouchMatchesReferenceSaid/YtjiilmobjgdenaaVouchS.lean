/-
  PLAIN LAW: package vouch's clock and the reference's clock hold the same.
-/
import Derived.Test.YtjiilmobjgdenaaVouchF
import Derived.Test.YtjiilmobjgdenaaVouchR3
namespace Go.Proofs.Ytjiilmobjgdenaa

theorem mdel_erase : ∀ (L : List (Int × Int)) (i : Nat) (h : i < L.length) (p : Int), Nd L → L[i].1 = p → mdel L p = L.eraseIdx i
  | x :: L, 0, _, p, hn, hp => by
    obtain ⟨h1, h2⟩ := List.pairwise_cons.1 hn
    show (x :: L).filter _ = L
    simp only [List.getElem_cons_zero] at hp
    rw [List.filter_cons_of_neg (by simp [hp])]
    exact List.filter_eq_self.2 fun e he => by have := h1 e he; rw [hp] at this; simpa using this.symm
  | x :: L, i + 1, h, p, hn, hp => by
    obtain ⟨h1, h2⟩ := List.pairwise_cons.1 hn
    have hi : i < L.length := by simpa using h
    have hp' : L[i].1 = p := by simpa using hp
    have hx : x.1 ≠ p := by rw [← hp']; exact h1 _ (List.getElem_mem hi)
    show (x :: L).filter _ = x :: L.eraseIdx i
    rw [List.filter_cons_of_pos (by simpa using hx)]
    have := mdel_erase L i hi p h2 hp'
    unfold mdel at this
    rw [this]

theorem set_perm : ∀ (L : List (Int × Int)) (i : Nat) (_ : i < L.length) (x : Int × Int), (x :: L.eraseIdx i).Perm (L.set i x)
  | y :: L, 0, _, x => by simp
  | y :: L, i + 1, h, x => by
    have hi : i < L.length := by simpa using h
    have := set_perm L i hi x
    show (x :: y :: L.eraseIdx i).Perm (y :: L.set i x)
    exact (List.Perm.swap y x _).trans (this.cons y)

structure Rm.Sim (c : Vm.Clk) (r : Rm.Clk) : Prop where
  pos : c.applied = r.pos
  time : c.asOf = r.time
  lp : c.lp = r.lp
  lt : c.lt = r.lt
  perm : c.L.Perm r.L
theorem Rm.Sim.new : Rm.Sim Vm.new Rm.new := ⟨rfl, rfl, rfl, rfl, List.Perm.refl _⟩
theorem Rm.Sim.applied {c : Vm.Clk} {r : Rm.Clk} (h : Rm.Sim c r) (p : Int) : Rm.Sim (Vm.applied c p) (Rm.applied r p) := by
  unfold Vm.applied Rm.applied
  rw [h.pos]
  split
  · exact h
  · refine ⟨rfl, ?_, h.lp, h.lt, h.perm.filter _⟩
    show Vm.upTo p c.asOf c.L = Vm.upTo p r.time r.L
    rw [h.time]
    exact Vm.upTo_perm p _ h.perm

theorem Rm.wait_perm {L L' L'' : List (Int × Int)} {p t : Int} (hp : L.Perm L') (hn : Nd L) (hk : ∀ e ∈ L, 1 ≤ e.1) (hlen : L.length ≤ 64) (hp1 : 1 ≤ p) (ht1 : 1 ≤ t) (hw : Rm.Waits L' p t L'') : (Vm.wait L p t).Perm L'' := by
  have hn' := hn.perm hp
  have hll := hp.length_eq
  have hlm : ∀ v, (mput L p v).length = if (mget L p).isSome then L.length else L.length + 1 := fun v => length_mput hn
  unfold Vm.wait
  dsimp only
  rcases hw with ⟨i, hi, hip, rfl⟩ | ⟨hno, hw⟩
  · have hg : mget L p = some L'[i].2 := by
      rw [mget_perm hn hp, mget_iff hn', ← hip]
      exact List.getElem_mem hi
    rw [if_neg (by rw [hlm, hg]; simp; omega), hg]
    refine List.Perm.trans ((mdel_perm hp p).cons _) ?_
    rw [mdel_erase L' i hi p hn' hip]
    exact set_perm L' i hi _
  · have hg : mget L p = none := mget_none.2 fun e he => hno e (hp.mem_iff.1 he)
    have ht : Vm.isMax ((none : Option Int).getD 0) t = t := by show (if (0 : Int) < t then t else 0) = t; rw [if_pos (by omega)]
    have hm : mput L p t = (p, t) :: L := by unfold mput; rw [mdel_none hg]
    have hnm : Nd (mput L p t) := hn.put p t
    rw [hg, ht]
    have hl1 := hlm t
    rw [hg] at hl1
    simp at hl1
    have hperm : (mput L p t).Perm (L' ++ [(p, t)]) := by
      rw [hm]
      exact ((hp.cons (p, t))).trans (List.perm_append_singleton (p, t) L').symm
    rcases hw with ⟨h64, rfl⟩ | ⟨h64, i, hnw, rfl⟩
    · rw [if_neg (by omega)]
      exact hperm
    · rw [if_pos (by omega)]
      obtain ⟨hi, ha⟩ := hnw
      have hkm : ∀ e ∈ mput L p t, 1 ≤ e.1 := fun e he => by
        rcases mem_mput.1 he with rfl | h1
        · exact hp1
        · exact hk e h1.1
      rcases Vm.worst_spec (mput L p t) hkm with ⟨h0, _⟩ | ⟨hm1, hm2⟩
      · rw [h0] at hl1; simp at hl1
      · have hx : (L' ++ [(p, t)])[i] = Vm.worst (mput L p t) := by
          rcases hm2 _ (hperm.mem_iff.2 (List.getElem_mem hi)) with h1 | h1
          · exact h1
          · obtain ⟨j, hj, hjx⟩ := List.getElem_of_mem (hperm.mem_iff.1 hm1)
            have h2 := ha j hj (by simp at hj; omega)
            rw [hjx] at h2
            rw [h1] at h2
            cases h2
        refine (mdel_perm hperm _).trans ?_
        rw [mdel_erase (L' ++ [(p, t)]) i hi _ (hnm.perm hperm) (by rw [hx])]

theorem Rm.Sim.beat {c : Vm.Clk} {r r' : Rm.Clk} (h : Rm.Sim c r) (hok : Vm.Ok c) (hnd : Nd c.L) {p t : Int} (hv : Vm.valid p t = true) (hb : Rm.Beats r p t r') : Rm.Sim (Vm.beat c p t) r' := by
  obtain ⟨b1, b2, b3, b4⟩ := hb
  have h0 := hok.pos
  have hv' := hv
  simp only [Vm.valid, decide_eq_true_eq] at hv'
  rcases Vm.beat_cases c p t with ⟨h1, _⟩ | ⟨_, hle, e⟩ | ⟨_, hlt, e⟩
  · rw [hv] at h1; cases h1
  · rw [e]
    rcases b4 with ⟨_, e1, e2⟩ | ⟨h2, _⟩
    · exact ⟨h.pos.trans b1.symm, by rw [e1, ← h.time], by rw [b2, ← h.lp, ← h.lt], by rw [b3, ← h.lp, ← h.lt], by rw [e2]; exact h.perm⟩
    · have := h.pos; omega
  · rw [e]
    rcases b4 with ⟨h2, _⟩ | ⟨_, e1, e2⟩
    · have := h.pos; omega
    · exact ⟨h.pos.trans b1.symm, by rw [e1, ← h.time], by rw [b2, ← h.lp, ← h.lt], by rw [b3, ← h.lp, ← h.lt], Rm.wait_perm h.perm hnd (fun e he => by have := hok.keys e he; omega) hok.len (by omega) (by omega) e2⟩
theorem Rm.Sim.len {c : Vm.Clk} {r : Rm.Clk} (h : Rm.Sim c r) (hok : Vm.Ok c) : r.L.length ≤ 64 := by rw [← h.perm.length_eq]; exact hok.len
end Go.Proofs.Ytjiilmobjgdenaa

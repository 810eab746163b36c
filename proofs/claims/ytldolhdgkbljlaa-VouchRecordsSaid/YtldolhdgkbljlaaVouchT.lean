/-
  What a clock that hears the beats of a history knows.
-/
import Derived.Test.YtldolhdgkbljlaaVouchH
namespace Go.Proofs.Ytldolhdgkbljlaa

/-- What a clock that hears the beats of the history h knows. -/
structure Vm.Sound (h : Nat → Int) (c : Vm.Clk) : Prop where
  wait : ∀ e ∈ c.L, ∃ t : Nat, 1 ≤ t ∧ t ≤ 100 ∧ e.1 = h t ∧ e.2 = (t : Int)
  asOf : ∃ t : Nat, t ≤ 100 ∧ c.asOf = t ∧ h t ≤ c.applied

theorem Vm.isMax_cases (a b : Int) : Vm.isMax a b = a ∨ Vm.isMax a b = b := by
  unfold Vm.isMax; split
  · exact .inr rfl
  · exact .inl rfl
theorem Vm.Sound.new (h : Nat → Int) (h0 : h 0 = 0) : Vm.Sound h Vm.new := ⟨by simp [Vm.new], 0, by omega, rfl, by rw [h0]; exact Int.le_refl _⟩
theorem Vm.Sound.applied {h : Nat → Int} {c : Vm.Clk} (hs : Vm.Sound h c) (p : Int) : Vm.Sound h (Vm.applied c p) := by
  unfold Vm.applied
  split
  · exact hs
  · refine ⟨fun e he => hs.wait e (List.mem_filter.1 he).1, ?_⟩
    show ∃ t : Nat, t ≤ 100 ∧ Vm.upTo p c.asOf c.L = t ∧ h t ≤ p
    have h1 : ∃ t : Nat, t ≤ 100 ∧ c.asOf = t ∧ h t ≤ p := by
      obtain ⟨t, a1, a2, a3⟩ := hs.asOf
      exact ⟨t, a1, a2, by omega⟩
    have hw := hs.wait
    clear hs
    refine rev_ind (motive := fun L => (∀ e ∈ L, ∃ t : Nat, 1 ≤ t ∧ t ≤ 100 ∧ e.1 = h t ∧ e.2 = (t : Int)) → ∃ t : Nat, t ≤ 100 ∧ Vm.upTo p c.asOf L = t ∧ h t ≤ p) c.L (fun _ => h1) (fun l b ih hl => ?_) hw
    have ih := ih fun e he => hl e (by simp [he])
    rw [Vm.upTo_snoc]
    split
    · rcases Vm.isMax_cases (Vm.upTo p c.asOf l) b.2 with e | e <;> rw [e]
      · exact ih
      · obtain ⟨t, _, a2, a3, a4⟩ := hl b (by simp)
        exact ⟨t, a2, a4, by omega⟩
    · exact ih
theorem Vm.Sound.beat {h : Nat → Int} {c : Vm.Clk} (hs : Vm.Sound h c) (hnd : Nd c.L) {t : Nat} (h1 : 1 ≤ t) (h2 : t ≤ 100) : Vm.Sound h (Vm.beat c (h t) t) := by
  rcases Vm.beat_cases c (h t) t with ⟨_, e⟩ | ⟨_, hle, e⟩ | ⟨_, hlt, e⟩ <;> rw [e]
  · exact hs
  · refine ⟨hs.wait, ?_⟩
    show ∃ s : Nat, s ≤ 100 ∧ Vm.isMax c.asOf t = s ∧ h s ≤ c.applied
    rcases Vm.isMax_cases c.asOf t with e | e <;> rw [e]
    · exact hs.asOf
    · exact ⟨t, h2, rfl, hle⟩
  · refine ⟨fun e he => ?_, hs.asOf⟩
    have hm : e ∈ mput c.L (h t) (Vm.isMax ((mget c.L (h t)).getD 0) t) := by
      have he' : e ∈ Vm.wait c.L (h t) t := he
      unfold Vm.wait at he'
      dsimp only at he'
      split at he'
      · exact (mem_mdel.1 he').1
      · exact he'
    rcases mem_mput.1 hm with rfl | ⟨h3, _⟩
    · cases hg : mget c.L (h t) with
      | none =>
        refine ⟨t, h1, h2, rfl, ?_⟩
        show Vm.isMax 0 t = t
        unfold Vm.isMax
        rw [if_pos (by omega)]
      | some u =>
        obtain ⟨s, a1, a2, a3, a4⟩ := hs.wait _ ((mget_iff hnd).1 hg)
        rcases Vm.isMax_cases u t with e | e
        · exact ⟨s, a1, a2, a3, by show Vm.isMax u t = s; rw [e]; exact a4⟩
        · exact ⟨t, h1, h2, rfl, by show Vm.isMax u t = t; rw [e]⟩
    · exact hs.wait e h3

theorem ClkAt.nd {w : World} {b m : Nat} {c : Vm.Clk} (h : ClkAt w b m c) : Nd c.L := h.map.nd tyII

end Go.Proofs.Ytldolhdgkbljlaa

/-
  PLAIN LAW of VouchRecords: what the receiver hands out, the state takes.
-/
import Derived.Test.YtldolhdgkbljlaaStP
import Derived.Test.YtldolhdgkbljlaaGapB
namespace Go.Proofs.Ytldolhdgkbljlaa

theorem recOf_valid {q : Int} (h1 : 1 ≤ q) (h2 : q ≤ 10000) : Rw.valid (recOf q) = true := by
  have h3 : Rw.inI 1 10000 q = true := by simp [Rw.inI]; omega
  have h4 : Rw.inI 1 1000000 q = true := by simp [Rw.inI]; omega
  have e : Rw.valid (recOf q) = (Rw.inI 1 10000 q && true && (((true && true && (Rw.inI 0 3 0 && Rw.inI 1 1000000 q && (Rw.inI (-1000000000) 1000000000 0 && Rw.inI (-1000000000) 1000000000 0 && Rw.inI (-1000000000) 1000000000 0))) && Rw.behind (-1) 0 ⟨0, q, false, 0, 0, 0, true, 0, 0, 0⟩) && true)) := rfl
  rw [e, h3, h4]
  rfl

namespace Vr
/-- A receiver that took records up to H. -/
structure Rg (H : Int) (c : Gm.Rcv) : Prop where
  nd : Nd c.L
  recs : ∀ e ∈ c.L, e.2 = recOf e.1 ∧ e.1 ≤ H
  p0 : 0 ≤ c.pos
  pos : c.pos ≤ H
/-- A state that took the records 1 .. pos. -/
structure Sg (s : Sm.Sta) : Prop where
  ok : Sm.Ok s
  len : (s.M.length : Int) = s.pos
  key : ∀ e ∈ s.M, e.1.1.2 ≤ s.pos

theorem Rg.new {H : Int} (h : 0 ≤ H) : Rg H (Gm.new 0) := ⟨nd_nil, by simp [Gm.new], Int.le_refl _, h⟩
theorem Sg.new : Sg Sm.new := ⟨⟨by decide, by decide, nd_nil, by simp [Sm.new], by simp [Sm.new]⟩, rfl, by simp [Sm.new]⟩
theorem Rg.receive {H : Int} {c : Gm.Rcv} (h : Rg H c) {p : Int} (hp : p ≤ H) : Rg H (Gm.receive c (recOf p)) := by
  unfold Gm.receive
  split
  · refine ⟨?_, ?_, h.p0, h.pos⟩
    · unfold Gm.kept
      dsimp only
      split
      · exact h.nd.put _ _
      · exact h.nd
    · unfold Gm.kept
      dsimp only
      split
      · intro e he
        rcases mem_mput.1 he with rfl | ⟨he, _⟩
        · exact ⟨rfl, hp⟩
        · exact h.recs e he
      · exact h.recs
  · exact h
theorem receive_pos (c : Gm.Rcv) (r : Rec) : (Gm.receive c r).pos = c.pos := by
  unfold Gm.receive
  split <;> rfl

theorem Sg.step {s : Sm.Sta} (h : Sg s) (hp : s.pos + 1 ≤ 2000) : Sm.code s (recOf (s.pos + 1)) = 0 ∧ Sg (Sm.apply s (recOf (s.pos + 1))) ∧ (Sm.apply s (recOf (s.pos + 1))).pos = s.pos + 1 := by
  have h0 := h.ok.p0
  have hid : (idOf 0 (s.pos + 1)).1 = (0, s.pos + 1) := idOf_val (okI_mk (by omega) (by omega)) (okI_mk (by omega) (by omega))
  have hg : mget s.M (idOf 0 (s.pos + 1)) = none := by
    cases hg : mget s.M (idOf 0 (s.pos + 1)) with
    | none => rfl
    | some u =>
      have := h.key _ ((mget_iff h.ok.nd).1 hg)
      rw [hid] at this
      dsimp only at this
      omega
  have hm : Sm.meets s.M ⟨0, s.pos + 1, false, 0, 0, 0, true, 0, 0, 0⟩ = true := by
    unfold Sm.meets
    rw [hg]
    rfl
  have hf : Sm.fits s (recOf (s.pos + 1)) = true := by
    unfold Sm.fits
    rw [recOf_valid (by omega) (by omega)]
    simp only [recOf, Sm.fitsGo, hm, Sm.grow, Bool.true_and, Bool.and_eq_true, decide_eq_true_eq, true_and]
    have := h.len
    simp
    omega
  have hok := h.ok.applied (recOf (s.pos + 1))
  unfold Sm.code Sm.apply at *
  rw [if_pos hf] at hok ⊢
  rw [if_pos hf]
  refine ⟨rfl, ⟨hok, ?_, ?_⟩, rfl⟩
  · show ((Sm.put1 s.M ⟨0, s.pos + 1, false, 0, 0, 0, true, 0, 0, 0⟩).length : Int) = s.pos + 1
    rw [Sm.put1_len h.ok.nd hm]
    simp [Sm.grow, h.len]
  · intro e he
    have he' : e ∈ Sm.put1 s.M ⟨0, s.pos + 1, false, 0, 0, 0, true, 0, 0, 0⟩ := he
    unfold Sm.put1 at he'
    rw [if_pos rfl] at he'
    show e.1.1.2 ≤ s.pos + 1
    rcases mem_mput.1 he' with rfl | ⟨he', _⟩
    · rw [show (idOf 0 (s.pos + 1), Sm.after ⟨0, s.pos + 1, false, 0, 0, 0, true, 0, 0, 0⟩).1 = idOf 0 (s.pos + 1) from rfl, hid]
      exact Int.le_refl _
    · have := h.key e he'
      omega

theorem take {H : Int} (hH : H ≤ 300) : ∀ (n : Nat) (c : Gm.Rcv) (s : Sm.Sta), Rg H c → Sg s → s.pos = c.pos →
    (∀ k (hk : k < (Gm.take n c).1.length), Sm.code (((Gm.take n c).1.take k).foldl Sm.apply s) ((Gm.take n c).1[k]) = 0) ∧ Sg ((Gm.take n c).1.foldl Sm.apply s) ∧
      ((Gm.take n c).1.foldl Sm.apply s).pos = (Gm.take n c).2.pos ∧ Rg H (Gm.take n c).2 ∧ c.pos + ((Gm.take n c).1.length : Int) = (Gm.take n c).2.pos
  | 0, c, s, hc, hs, hp => ⟨by simp [Gm.take], hs, hp, hc, by simp [Gm.take]⟩
  | n + 1, c, s, hc, hs, hp => by
    cases hg : mget c.L (c.pos + 1) with
    | none =>
      have e : Gm.take (n + 1) c = ([], c) := by simp only [Gm.take, hg]
      rw [e]
      exact ⟨by simp, hs, hp, hc, by simp⟩
    | some r =>
      have e : Gm.take (n + 1) c = (r :: (Gm.take n ⟨r.p, c.high, mdel c.L r.p⟩).1, (Gm.take n ⟨r.p, c.high, mdel c.L r.p⟩).2) := by simp only [Gm.take, hg]
      obtain ⟨hr, hl⟩ := hc.recs _ ((mget_iff hc.nd).1 hg)
      dsimp only at hr hl
      subst hr
      have h0 := hc.p0
      have hc' : Rg H ⟨(recOf (c.pos + 1)).p, c.high, mdel c.L (recOf (c.pos + 1)).p⟩ := ⟨hc.nd.del _, fun e he => hc.recs e (mem_mdel.1 he).1, by show 0 ≤ c.pos + 1; omega, hl⟩
      obtain ⟨a1, a2, a3⟩ := hs.step (by omega)
      rw [hp] at a1 a2 a3
      obtain ⟨b1, b2, b3, b4, b5⟩ := take hH n _ _ hc' a2 a3
      rw [e]
      refine ⟨fun k hk => ?_, b2, b3, b4, ?_⟩
      · cases k with
        | zero => exact a1
        | succ k => exact b1 k (by simpa using hk)
      · have b5' : c.pos + 1 + ((Gm.take n ⟨(recOf (c.pos + 1)).p, c.high, mdel c.L (recOf (c.pos + 1)).p⟩).1.length : Int) = (Gm.take n ⟨(recOf (c.pos + 1)).p, c.high, mdel c.L (recOf (c.pos + 1)).p⟩).2.pos := b5
        show c.pos + (((Gm.take n ⟨(recOf (c.pos + 1)).p, c.high, mdel c.L (recOf (c.pos + 1)).p⟩).1.length + 1 : Nat) : Int) = (Gm.take n ⟨(recOf (c.pos + 1)).p, c.high, mdel c.L (recOf (c.pos + 1)).p⟩).2.pos
        omega
end Vr
end Go.Proofs.Ytldolhdgkbljlaa

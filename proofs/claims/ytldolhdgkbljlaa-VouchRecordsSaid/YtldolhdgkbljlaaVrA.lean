/-
  VouchRecords: a clock, a receiver, a state and a history in memory.
-/
import Derived.Test.YtldolhdgkbljlaaVouchT
import Derived.Test.YtldolhdgkbljlaaVrP
import Derived.Test.YtldolhdgkbljlaaStE
namespace Go.Proofs.Ytldolhdgkbljlaa
open Go.RowKit Go.WideShapes Go.ChangeShapes

structure VrAt (W : World) (bx mx br mr bs ms g : Nat) (hs : List Int) (x : Vm.Clk) (r : Gm.Rcv) (s : Sm.Sta) (wr : World) : Prop where
  clk : ClkAt wr bx mx x
  rcv : RcvAt wr br mr r
  sta : StaAt wr bs ms s
  hist : Blk wr g 3 (arr 101 (hcells hs 100))
  fr : Fr [] W wr
  ord : W.heap.size ≤ g ∧ g < mx ∧ mx < bx ∧ bx < mr ∧ mr < br ∧ br < ms ∧ ms < bs
/-- What holds of the three between two deliveries. -/
structure VrOk (hs : List Int) (x : Vm.Clk) (r : Gm.Rcv) (s : Sm.Sta) : Prop where
  cok : Vm.Ok x
  sound : Vm.Sound (hst hs) x
  rg : Vr.Rg (hst hs 100) r
  sg : Vr.Sg s
  e1 : s.pos = r.pos
  e2 : x.applied = r.pos
section
variable {W wr w' : World} {bx mx br mr bs ms g : Nat} {hs : List Int} {x x' : Vm.Clk} {r r' : Gm.Rcv} {s s' : Sm.Sta}
theorem VrAt.fr0 (h : VrAt W bx mx br mr bs ms g hs x r s wr) (hf : Fr [] wr w') : VrAt W bx mx br mr bs ms g hs x r s w' :=
  ⟨h.clk.fr hf (by simp) (by simp), h.rcv.fr0 hf, h.sta.fr0 hf, h.hist.fr hf (by simp), h.fr.trans hf, h.ord⟩
theorem VrAt.setClk (h : VrAt W bx mx br mr bs ms g hs x r s wr) (hc : ClkAt w' bx mx x') (hf : Fr [bx, mx] wr w') : VrAt W bx mx br mr bs ms g hs x' r s w' := by
  obtain ⟨o1, o2, o3, o4, o5, o6, o7⟩ := h.ord
  exact ⟨hc, h.rcv.fr hf (by simp; omega) (by simp; omega) (NoC.cons (noC_blk h.clk.blk (by decide)) (NoC.cons (noC_map h.clk.map) NoC.nil)), h.sta.fr hf (by simp; omega) (by simp; omega), h.hist.fr hf (by simp; omega), h.fr.trans' hf (by simp; omega), h.ord⟩
theorem VrAt.setRcv (h : VrAt W bx mx br mr bs ms g hs x r s wr) (hc : RcvAt w' br mr r') (hf : Fr [br, mr] wr w') : VrAt W bx mx br mr bs ms g hs x r' s w' := by
  obtain ⟨o1, o2, o3, o4, o5, o6, o7⟩ := h.ord
  exact ⟨h.clk.fr hf (by simp; omega) (by simp; omega), hc, h.sta.fr hf (by simp; omega) (by simp; omega), h.hist.fr hf (by simp; omega), h.fr.trans' hf (by simp; omega), h.ord⟩
theorem VrAt.noS (h : VrAt W bx mx br mr bs ms g hs x r s wr) : NoC wr [bs, ms] := NoC.cons (noC_blk h.sta.blk (by decide)) (NoC.cons (noC_map h.sta.map) NoC.nil)
theorem VrAt.setSta (h : VrAt W bx mx br mr bs ms g hs x r s wr) (hc : StaAt w' bs ms s') (hf : Fr [bs, ms] wr w') : VrAt W bx mx br mr bs ms g hs x r s' w' := by
  obtain ⟨o1, o2, o3, o4, o5, o6, o7⟩ := h.ord
  exact ⟨h.clk.fr hf (by simp; omega) (by simp; omega), h.rcv.fr hf (by simp; omega) (by simp; omega) h.noS, hc, h.hist.fr hf (by simp; omega), h.fr.trans' hf (by simp; omega), h.ord⟩
end
theorem hst_top (hs : List Int) : 0 ≤ hst hs 100 ∧ hst hs 100 ≤ 300 := hst_le hs 100
theorem VrOk.new (hs : List Int) : VrOk hs Vm.new (Gm.new 0) Sm.new := ⟨Vm.ok_new, Vm.Sound.new _ rfl, Vr.Rg.new (hst_top hs).1, Vr.Sg.new, rfl, rfl⟩
theorem VrOk.beat {hs : List Int} {x : Vm.Clk} {r : Gm.Rcv} {s : Sm.Sta} (h : VrOk hs x r s) (hnd : Nd x.L) {t : Nat} (h1 : 1 ≤ t) (h2 : t ≤ 100) : VrOk hs (Vm.beat x (hst hs t) t) r s := by
  refine ⟨h.cok.beat _ _, h.sound.beat hnd h1 h2, h.rg, h.sg, h.e1, ?_⟩
  rw [← h.e2]
  rcases Vm.beat_cases x (hst hs t) t with ⟨_, e⟩ | ⟨_, _, e⟩ | ⟨_, _, e⟩ <;> rw [e]
theorem VrOk.recv {hs : List Int} {x : Vm.Clk} {r : Gm.Rcv} {s : Sm.Sta} (h : VrOk hs x r s) {p : Int} (hp : p ≤ hst hs 100) : VrOk hs x (Gm.receive r (recOf p)) s :=
  ⟨h.cok, h.sound, h.rg.receive hp, h.sg, by rw [Vr.receive_pos]; exact h.e1, by rw [Vr.receive_pos]; exact h.e2⟩
/-- What 'Take', the applying of all that it hands out, and 'Applied' leave. -/
theorem VrOk.took {hs : List Int} {x : Vm.Clk} {r : Gm.Rcv} {s : Sm.Sta} (h : VrOk hs x r s) :
    (∀ k (hk : k < (Gm.take r.L.length r).1.length), Sm.code (((Gm.take r.L.length r).1.take k).foldl Sm.apply s) ((Gm.take r.L.length r).1[k]) = 0) ∧
    VrOk hs (Vm.applied x (Gm.take r.L.length r).2.pos) (Gm.take r.L.length r).2 ((Gm.take r.L.length r).1.foldl Sm.apply s) ∧ (Gm.take r.L.length r).1.length ≤ 300 := by
  obtain ⟨a1, a2, a3, a4, a5⟩ := Vr.take (hst_top hs).2 r.L.length r s h.rg h.sg h.e1
  refine ⟨a1, ⟨h.cok.applied _, h.sound.applied _, a4, a2, a3, ?_⟩, by have := (hst_top hs).2; have := a4.pos; have := h.rg.p0; omega⟩
  have := h.e2
  unfold Vm.applied
  split
  · omega
  · rfl
/-- What the law asks then. -/
theorem VrOk.asks {hs : List Int} {x : Vm.Clk} {r : Gm.Rcv} {s : Sm.Sta} (h : VrOk hs x r s) : ∃ t : Nat, t ≤ 100 ∧ x.asOf = t ∧ hst hs t ≤ s.pos ∧ (s.M.length : Int) = s.pos := by
  obtain ⟨t, a1, a2, a3⟩ := h.sound.asOf
  exact ⟨t, a1, a2, by have := h.e1; have := h.e2; omega, h.sg.len⟩
end Go.Proofs.Ytldolhdgkbljlaa

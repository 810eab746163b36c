/-
  A disk and the reference's disk side by side; a step of the law on both.
-/
import Derived.Test.YtbmakjhfoaadoaaRdD
import Derived.Deep.RegionHeld3
namespace Go.Proofs.Ytbmakjhfoaadoaa
open Go.RowKit

namespace Dm
/-- What both keep to between two calls. -/
structure St (d : Dk) (size k : Nat) : Prop where
  ok : Ok d
  len : d.sure.length = size
  pl : d.pend.length ≤ k
  lf : okI d.left
theorem St.write {d : Dk} {size k : Nat} (h : St d size k) (off : Int) (s : List UInt8) : St (write d off s) size (k + 1) := by
  have hl := h.ok.left
  obtain ⟨_, l2⟩ := okI_bounds h.lf
  refine ⟨h.ok.write off s, ?_, ?_, ?_⟩
  · unfold Dm.write; split <;> exact h.len
  · unfold Dm.write
    have := h.pl
    split
    · simp; omega
    · omega
  · unfold Dm.write
    split
    · show okI (used d.off d.left).2
      unfold used
      split
      · exact h.lf
      · exact okI_mk (by dsimp only; omega) (by dsimp only; omega)
    · exact h.lf
theorem St.sync {d : Dk} {size k : Nat} (h : St d size k) : St (sync d) size (k + 1) := by
  have := h.pl
  unfold Dm.sync
  split
  · exact ⟨h.ok, h.len, by omega, h.lf⟩
  · rename_i ho
    have h2 := h.ok.sync
    unfold Dm.sync at h2
    rw [if_neg ho] at h2
    exact ⟨h2, h.ok.vis_len.trans h.len, by simp, h.lf⟩
theorem St.cut {d : Dk} {size k : Nat} (h : St d size k) (n : Int) (hn : okI n) : St (cut d n) size (k + 1) := by
  have := h.pl
  refine ⟨h.ok.cut n, ?_, ?_, ?_⟩ <;> unfold Dm.cut <;> split
  · exact h.len
  · exact h.len
  · omega
  · exact Nat.le_trans h.pl (by omega)
  · exact h.lf
  · exact hn
theorem St.crash {d : Dk} {size k : Nat} (h : St d size k) (zs : List Int) (t : Int) : St (crash d zs t) size (k + 1) :=
  ⟨h.ok.crash zs t, (fold_len _ _ (h.ok.survivors zs t)).trans h.len, by simp [Dm.crash], okI0⟩
theorem St.mono {d : Dk} {size k j : Nat} (h : St d size k) (hj : k ≤ j) : St d size j := ⟨h.ok, h.len, Nat.le_trans h.pl hj, h.lf⟩
end Dm
/-- Boxes of a step's parameters are as they were. -/
def KeepX (w w' : World) : Prop := ∀ (g : Nat) (cs : Array Value) (fz : Nat × Nat), w.heap[g]? = some (Obj.cells cs 39 fz) → w'.heap[g]? = w.heap[g]?
theorem KeepX.blk {w w' : World} {g : Nat} {cs : Array Value} (h : KeepX w w') (hb : Blk w g 39 cs) : Blk w' g 39 cs := (h g cs _ hb).trans hb
theorem Rsk.keepX {w w' : World} {G : List Nat} {r : Nat} {d : Dm.Dk} (h : Rsk w G r d) (hf : Fr G w w') : KeepX w w' := by
  intro g cs fz hg
  refine hf.block g (Array.getElem?_eq_some_iff.1 hg).1 fun hm => ?_
  have key : ∀ {g' t' : Nat} {cs' : Array Value}, Blk w g' t' cs' → 39 ≠ t' → g ≠ g' := fun {g' t' cs'} hb hne e => by
    subst e
    have hb' : w.heap[g]? = some (Obj.cells cs' t' (0, 0)) := hb
    rw [hg] at hb'
    injection hb' with hb'
    injection hb' with _ hb' _
    exact hne hb'
  obtain ⟨sv, lv, rfl, h⟩ := h
  simp only [List.mem_cons, List.mem_append, Option.mem_toList] at hm
  rcases hm with hm | hm | hm
  · exact key h.blk (by decide) hm
  · rcases h.sure.2 with ⟨e, _⟩ | ⟨g', cap2, cur, e, _, hh, _⟩
    · rw [e] at hm; simp [Value.ownBlock] at hm
    · rw [e] at hm
      have e2 : g' = g := by simpa [Value.ownBlock] using hm
      exact key (show Blk w g' _ cur from hh) (by decide) e2.symm
  · rcases h.pend.2 with ⟨e, _⟩ | ⟨g', cap2, cur, e, _, hh, _⟩
    · rw [e] at hm; simp [Value.ownBlock] at hm
    · rw [e] at hm
      have e2 : g' = g := by simpa [Value.ownBlock] using hm
      exact key (show Blk w g' _ cur from hh) (by decide) e2.symm
/-- The two disks, of the law's own. -/
structure P2 (W wr : World) (b r : Nat) (d e : Dm.Dk) : Prop where
  ex : ∃ F G, Dsk wr F b d ∧ Rsk wr G r e ∧ (∀ g ∈ F, g ∉ G) ∧ ∀ g, g ∈ F ∨ g ∈ G → W.heap.size ≤ g
  fr : Fr [] W wr
section
variable {W wr : World} {b r : Nat} {d e : Dm.Dk}
theorem P2.fr0 {w' : World} (h : P2 W wr b r d e) (hf : Fr [] wr w') : P2 W w' b r d e := by
  obtain ⟨F, G, a, c, x, y⟩ := h.ex
  exact ⟨⟨F, G, a.fr0 hf, c.fr hf (by simp), x, y⟩, h.fr.trans hf⟩
theorem P2.calls1 {d' : Dm.Dk} {f : FuncId} {args : Array Value} {v : Value} (h : P2 W wr b r d e) (hc : ∀ F, Dsk wr F b d → Calls Try.prog f args wr fun e w' => e = .returned v ∧ DskTo wr w' F b d') :
    Calls Try.prog f args wr fun x w' => x = .returned v ∧ P2 W w' b r d' e ∧ KeepX wr w' := by
  obtain ⟨F, G, a, c, x, y⟩ := h.ex
  refine (hc F a).mono ?_
  rintro e1 w' ⟨he, F', k1, k2, k3⟩
  refine ⟨he, ⟨⟨F', G, k1, c.fr k2 (fun g hg hm => x g hm hg), fun g hg hm => ?_, fun g hg => ?_⟩, h.fr.trans' k2 (fun g hg => .inr (y g (.inl hg)))⟩, fun g cs fz hg => a.keepT k2 g cs _ fz hg (by decide) (by decide) (by decide)⟩
  · rcases k3 g hg with h1 | h1
    · exact x g h1 hm
    · have := c.lt g hm; omega
  · rcases hg with hg | hg
    · rcases k3 g hg with h1 | h1
      · exact y g (.inl h1)
      · have := h.fr.size; omega
    · exact y g (.inr hg)
theorem P2.calls2 {e' : Dm.Dk} {f : FuncId} {args : Array Value} {v : Value} (h : P2 W wr b r d e) (hc : ∀ G, Rsk wr G r e → Calls Try.prog f args wr fun x w' => x = .returned v ∧ RskTo wr w' G r e') :
    Calls Try.prog f args wr fun x w' => x = .returned v ∧ P2 W w' b r d e' ∧ KeepX wr w' := by
  obtain ⟨F, G, a, c, x, y⟩ := h.ex
  refine (hc G c).mono ?_
  rintro e1 w' ⟨he, G', k1, k2, k3⟩
  refine ⟨he, ⟨⟨F, G', a.fr k2 (fun g hg hm => x g hg hm), k1, fun g hg hm => ?_, fun g hg => ?_⟩, h.fr.trans' k2 (fun g hg => .inr (y g (.inr hg)))⟩, c.keepX k2⟩
  · rcases k3 g hm with h1 | h1
    · exact x g hg h1
    · have := a.lt g hg; omega
  · rcases hg with hg | hg
    · exact y g (.inl hg)
    · rcases k3 g hg with h1 | h1
      · exact y g (.inr h1)
      · have := h.fr.size; omega
theorem P2.mine (h : P2 W wr b r d e) : Mine W wr b d := by
  obtain ⟨F, G, a, c, x, y⟩ := h.ex
  exact ⟨F, a, h.fr, fun g hg => y g (.inl hg)⟩
theorem P2.rread (h : P2 W wr b r d e) {s : List UInt8} {c : Int} (off n : Int) (ho : okI off) (hn : okI n) (hr : Dm.read e off n = (s, c)) :
    Calls Try.prog 20 #[.pointer (some ⟨r, 0, none⟩), .int .i64 off, .int .i64 n] wr fun x w' => x = .returned (.tuple #[.string ⟨s.toArray⟩, .int .i64 c]) ∧ Fr [] wr w' := by
  obtain ⟨F, G, a, c', x, y⟩ := h.ex
  refine (rread_any r G e off n wr c' ho hn).mono fun _ _ ⟨he, hw⟩ => ⟨?_, hw⟩
  rw [hr] at he
  exact he
theorem P2.cell1 (h : P2 W wr b r d e) : ∃ A c, wr.cell? ⟨r, 1, none⟩ = some (.slice A e.pend.length c) := by
  obtain ⟨F, G, a, c', x, y⟩ := h.ex
  obtain ⟨sv, lv, rfl, hr⟩ := c'
  obtain ⟨A, c, hv⟩ := hr.pend.val
  exact ⟨A, c, by rw [← hv]; exact hr.blk.cell 1⟩
end
set_option maxRecDepth 100000 in
set_option maxHeartbeats 4000000 in
theorem step_any (W : World) (b r : Nat) (d : Dm.Dk) (size k : Nat) (x : Stp) (wr : World) (h : P2 W wr b r d d) (hS : Dm.St d size k) (hk : k ≤ 1000) (hxk : IntsIn W x.A x.keep ∧ x.keep.length ≤ x.cap ∧ x.cap ≤ maxLen) (hxw : okI x.call ∧ okI x.off ∧ okI x.n ∧ x.s.length ≤ maxLen) :
    Calls Try.prog 19 #[.pointer (some ⟨b, 0, none⟩), .pointer (some ⟨r, 0, none⟩), .agg #[.int .i64 x.call, .int .i64 x.off, .int .i64 x.n, .string ⟨x.s.toArray⟩, .slice x.A x.keep.length x.cap]] wr fun e w' =>
      e = .returned (.bool true) ∧ ∃ d', P2 W w' b r d' d' ∧ Dm.St d' size (k + 1) := by
  obtain ⟨xc, xo, xn, xs, xA, xcap, zs⟩ := x
  obtain ⟨hk1, hk2, hk3⟩ := hxk
  obtain ⟨hc, ho, hn, hs⟩ := hxw
  dsimp only at hk1 hk2 hk3 hc ho hn hs ⊢
  have HK1 := Lib.hid hk1
  have HWO := Lib.hid ho
  have HWN := Lib.hid hn
  have HLS := Lib.hid hs
  have HST := Lib.hid hS
  have hpl := hS.pl
  have HPL := Lib.hid (show d.pend.length ≤ 100000 by omega)
  obtain ⟨P, HP⟩ : ∃ P, Hid (pickI xc 6 = P) := ⟨_, Lib.hid rfl⟩
  have hP0 : 0 ≤ P := by rw [← HP.out]; exact pickI_nonneg xc (by decide)
  have hP6 : P < 6 := by rw [← HP.out]; exact pickI_lt xc (by decide)
  have hpk := fun W => pick_any xc 6 W hc (by decide) (by decide)
  rw [HP.out] at hpk
  have HPK := Lib.hid hpk
  have f0 : Fr [] wr (wr.alloc (.cells #[.int .i64 xc, .int .i64 xo, .int .i64 xn, .string ⟨xs.toArray⟩, .slice xA zs.length xcap] 39)) := (Fr.refl _ _).alloc _
  have HB := Lib.hid (Blk.new wr 39 #[.int .i64 xc, .int .i64 xo, .int .i64 xn, .string ⟨xs.toArray⟩, .slice xA zs.length xcap])
  have H0 := Lib.hid (h.fr0 f0)
  obtain ⟨m, HM⟩ : ∃ m, Hid ((zs.take 100).length = m) := ⟨_, Lib.hid rfl⟩
  have hmin : (min (zs.length : Int) 100).toNat = m := by rw [← HM.out, List.length_take]; omega
  have hm100 : m ≤ 100 := by rw [← HM.out, List.length_take]; omega
  have hmc : m ≤ zs.length := by rw [← HM.out, List.length_take]; omega
  unfold maxLen at hk3
  clear hk1 ho hn hs hS h hpk f0 hpl hc
  go_enter Try.func19, Try.ntmps19
  go_wp2_with fail
  generalize (wr.alloc (.cells #[.int .i64 xc, .int .i64 xo, .int .i64 xn, .string ⟨xs.toArray⟩, .slice xA zs.length xcap] 39)) = W1 at *
  generalize wr.heap.size = gy at *
  refine (HPK.out _).mono ?_
  rintro e w' ⟨rfl, rfl⟩
  have y1 := HB.out.cell 1
  have y2 := HB.out.cell 2
  have y3 := HB.out.cell 3
  have y4 := HB.out.cell 4
  have hcase : P = 0 ∨ P = 1 ∨ P = 2 ∨ P = 3 ∨ P = 4 ∨ P = 5 := by omega
  clear hP0 hP6
  rcases hcase with rfl | rfl | rfl | rfl | rfl | rfl
  · -- Write
    have HBD := Lib.hid HB.out.drew
    have HD0 := Lib.hid (H0.out.fr0 (Fr.refl [] _).drew)
    go_wp2_with fail
    refine (cutS_any xs 300 _ HLS.out (by decide)).mono ?_
    rintro e w' ⟨rfl, rfl⟩
    have HL3 := Lib.hid (show (xs.take 300).length ≤ maxLen by have := HLS.out; simp only [List.length_take]; unfold maxLen at *; omega)
    have e300 : ((300 : Int).toNat) = 300 := rfl
    rw [e300]
    clear e300
    generalize xs.take 300 = zz at *
    clear y2 y3 y4
    go_wp2_with fail
    first | (go_region_held3 (fun w' => w'.cell? ⟨gy, 1, none⟩ = some (.int .i64 xo))
      (first | go_keep | exact HBD.out.cell 1 | exact Y2.out.cell 1 | exact Y3.out.cell 1)
      (first
      | (go_at_call 21; (with_reducible refine (HD0.out.calls1 (fun F hF => dwrite_any F b d xo zz _ hF HWO.out HPL.out HST.out.lf)).mono ?_); rintro e w2 ⟨rfl, h2, k2⟩; have H2 := Lib.hid h2; have Y2 := Lib.hid (k2.blk HBD.out); clear h2 k2)
      | (go_at_call 30; (with_reducible refine (H2.out.calls2 (fun G hG => rwrite_any r G d xo zz _ hG HWO.out HL3.out HPL.out HST.out.lf)).mono ?_); rintro e w3 ⟨rfl, h3, k3⟩; have H3 := Lib.hid h3; have Y3 := Lib.hid (k3.blk Y2.out); clear h3 k3))) | fail "x"
    go_wp2_with fail
    go_ret
    exact ⟨rfl, _, H3.out, HST.out.write _ _⟩
  · -- Write
    have HBD := Lib.hid HB.out.drew
    have HD0 := Lib.hid (H0.out.fr0 (Fr.refl [] _).drew)
    go_wp2_with fail
    refine (cutS_any xs 300 _ HLS.out (by decide)).mono ?_
    rintro e w' ⟨rfl, rfl⟩
    have HL3 := Lib.hid (show (xs.take 300).length ≤ maxLen by have := HLS.out; simp only [List.length_take]; unfold maxLen at *; omega)
    have e300 : ((300 : Int).toNat) = 300 := rfl
    rw [e300]
    clear e300
    generalize xs.take 300 = zz at *
    clear y2 y3 y4
    go_wp2_with fail
    first | (go_region_held3 (fun w' => w'.cell? ⟨gy, 1, none⟩ = some (.int .i64 xo))
      (first | go_keep | exact HBD.out.cell 1 | exact Y2.out.cell 1 | exact Y3.out.cell 1)
      (first
      | (go_at_call 21; (with_reducible refine (HD0.out.calls1 (fun F hF => dwrite_any F b d xo zz _ hF HWO.out HPL.out HST.out.lf)).mono ?_); rintro e w2 ⟨rfl, h2, k2⟩; have H2 := Lib.hid h2; have Y2 := Lib.hid (k2.blk HBD.out); clear h2 k2)
      | (go_at_call 30; (with_reducible refine (H2.out.calls2 (fun G hG => rwrite_any r G d xo zz _ hG HWO.out HL3.out HPL.out HST.out.lf)).mono ?_); rintro e w3 ⟨rfl, h3, k3⟩; have H3 := Lib.hid h3; have Y3 := Lib.hid (k3.blk Y2.out); clear h3 k3))) | fail "x"
    go_wp2_with fail
    go_ret
    exact ⟨rfl, _, H3.out, HST.out.write _ _⟩
  · -- Sync
    go_wp2_with fail
    refine (H0.out.calls1 (fun F hF => dsync_any F b d _ hF)).mono ?_
    rintro e w2 ⟨rfl, h2, k2⟩
    have H2 := Lib.hid h2
    clear h2 k2
    go_wp2_with fail
    refine (H2.out.calls2 (fun G hG => rsync_any r G d _ hG)).mono ?_
    rintro e w3 ⟨rfl, h3, k3⟩
    have H3 := Lib.hid h3
    clear h3 k3
    go_wp2_with fail
    go_ret
    exact ⟨rfl, _, H3.out, HST.out.sync⟩
  · -- Read
    obtain ⟨q, HQ⟩ : ∃ q, Hid (Dm.read d xo xn = q) := ⟨_, Lib.hid rfl⟩
    obtain ⟨q1, q2⟩ := q
    go_wp2_with fail
    refine (mread xo xn H0.out.mine HWO.out HQ.out).mono ?_
    rintro e w' ⟨rfl, rfl⟩
    go_wp2_with fail
    refine (H0.out.rread xo xn HWO.out HWN.out HQ.out).mono ?_
    rintro e w2 ⟨rfl, f2⟩
    have H2 := Lib.hid (H0.out.fr0 f2)
    clear f2
    go_wp2_with fail
    go_ret
    exact ⟨rfl, _, H2.out, HST.out.mono (by omega)⟩
  · -- Cut
    have HBD := Lib.hid HB.out.drew
    have HD0 := Lib.hid (H0.out.fr0 (Fr.refl [] _).drew)
    clear y1 y3 y4
    go_wp2_with fail
    first | (go_region_held3 (fun w' => w'.cell? ⟨gy, 2, none⟩ = some (.int .i64 xn))
      (first | go_keep | exact HBD.out.cell 2 | exact Y2.out.cell 2 | exact Y3.out.cell 2)
      (first
      | (go_at_call 24; (with_reducible refine (HD0.out.calls1 (fun F hF => dcut_any F b d xn _ hF)).mono ?_); rintro e w2 ⟨rfl, h2, k2⟩; have H2 := Lib.hid h2; have Y2 := Lib.hid (k2.blk HBD.out); clear h2 k2)
      | (go_at_call 32; (with_reducible refine (H2.out.calls2 (fun G hG => rcut_any r G d xn _ hG)).mono ?_); rintro e w3 ⟨rfl, h3, k3⟩; have H3 := Lib.hid h3; have Y3 := Lib.hid (k3.blk Y2.out); clear h3 k3))) | fail "x"
    go_wp2_with fail
    go_ret
    exact ⟨rfl, _, H3.out, HST.out.cut _ HWN.out⟩
  · -- Crash
    go_wp2_with fail
    refine (H0.out.calls2 (fun G hG => rcrash_any r G d xA m _ (zs.take 100) xn _ hG HM.out.symm (by rw [HM.out]; omega) ((HK1.out.take 100).fr0 H0.out.fr) HWN.out HPL.out)).mono ?_
    rintro e w2 ⟨rfl, h2, k2⟩
    have H2 := Lib.hid h2
    have y22 := (k2.blk HB.out).cell 2
    clear h2 k2
    go_wp2_with fail
    refine (H2.out.calls1 (fun F hF => dcrash_any F b d xA m _ (zs.take 100) xn _ hF HM.out.symm (by rw [HM.out]; omega) ((HK1.out.take 100).fr0 H2.out.fr) HWN.out)).mono ?_
    rintro e w3 ⟨rfl, h3, k3⟩
    have H3 := Lib.hid h3
    clear h3 k3
    go_wp2_with fail
    go_ret
    exact ⟨rfl, _, H3.out, HST.out.crash _ _⟩
end Go.Proofs.Ytbmakjhfoaadoaa

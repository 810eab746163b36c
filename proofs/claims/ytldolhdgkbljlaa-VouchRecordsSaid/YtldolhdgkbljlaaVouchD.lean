/-
  'Applied' and 'Beat'.
-/
import Derived.Test.YtldolhdgkbljlaaVouchC
namespace Go.Proofs.Ytldolhdgkbljlaa
open Go.RowKit

def VMII (w : World) (m : Nat) (L : List (Int × Int)) : Prop := VMap Try.prog 3 (Lit.int .i64) (Value.int .i64) w m L

/-- What stands at the head of each round of 'DeleteFunc'. -/
structure DropRel (w : World) (b m cp cx : Nat) (c : Vm.Clk) (p : Int) (wr : World) (done rest M : List (Int × Int)) : Prop where
  perm : c.L.Perm (done ++ rest)
  now : M.Perm ((done.filter fun e => decide (p < e.1)) ++ rest)
  iter : Iter Try.prog 3 (Lit.int .i64) (Value.int .i64) wr m w.heap.size M rest
  blk : Blk wr b 89 (clkCells { c with asOf := Vm.upTo p c.asOf done } m)
  bp : Blk wr cp 3 #[.int .i64 p]
  bx : Blk wr cx 26 #[.pointer (some ⟨b, 0, none⟩)]
  fr : Fr [b, m] w wr
def DropHead (w : World) (b m cp cx : Nat) (c : Vm.Clk) (p : Int) (wr : World) : Prop := ∃ done rest M, DropRel w b m cp cx c p wr done rest M

/-- The entry (x, u) stays. -/
theorem drop_stays {w wr W : World} {b m cp cx : Nat} {c : Vm.Clk} {p : Int} {done rest rest' M : List (Int × Int)} {x u : Int} (R : DropRel w b m cp cx c p wr done rest M) (hxp : ¬ x ≤ p)
    (hp1 : rest.Perm ((x, u) :: rest')) (hit : Iter Try.prog 3 (Lit.int .i64) (Value.int .i64) W m w.heap.size M rest') (hblk : Blk W b 89 (clkCells { c with asOf := Vm.upTo p c.asOf done } m))
    (hbp : Blk W cp 3 #[.int .i64 p]) (hbx : Blk W cx 26 #[.pointer (some ⟨b, 0, none⟩)]) (hF : Fr [b, m] w W) :
    DropHead w b m cp cx c p W ∧ W.rangeLeft m w.heap.size < wr.rangeLeft m w.heap.size := by
  refine ⟨⟨done ++ [(x, u)], rest', M, ?_, ?_, hit, ?_, hbp, hbx, hF⟩, ?_⟩
  · exact R.perm.trans ((hp1.append_left done).trans (by simp))
  · refine R.now.trans ((hp1.append_left _).trans ?_)
    rw [List.filter_append, List.filter_cons_of_pos (by simp; omega)]
    simp
  · rw [Vm.upTo_snoc, if_neg (by simpa using hxp)]; exact hblk
  · rw [hit.left_eq, R.iter.left_eq, hp1.length_eq]; simp
/-- The entry (x, u) is deleted. -/
theorem drop_goes {w wr W : World} {b m cp cx : Nat} {c : Vm.Clk} {p : Int} {done rest rest' M : List (Int × Int)} {x u : Int} (R : DropRel w b m cp cx c p wr done rest M) (hxp : x ≤ p)
    (hp1 : rest.Perm ((x, u) :: rest')) (hit : Iter Try.prog 3 (Lit.int .i64) (Value.int .i64) W m w.heap.size (mdel M x) (mdel rest' x)) (hblk : Blk W b 89 (clkCells { c with asOf := Vm.isMax (Vm.upTo p c.asOf done) u } m))
    (hbp : Blk W cp 3 #[.int .i64 p]) (hbx : Blk W cx 26 #[.pointer (some ⟨b, 0, none⟩)]) (hF : Fr [b, m] w W) :
    DropHead w b m cp cx c p W ∧ W.rangeLeft m w.heap.size < wr.rangeLeft m w.heap.size := by
  have hnd := Nd.perm (R.iter.nd tyII) hp1
  obtain ⟨h1, h2⟩ := List.pairwise_cons.1 hnd
  have e1 : mdel rest' x = rest' := mdel_none (mget_none.2 fun e he h => h1 e he h.symm)
  rw [e1] at hit
  refine ⟨⟨done ++ [(x, u)], rest', mdel M x, ?_, ?_, hit, ?_, hbp, hbx, hF⟩, ?_⟩
  · exact R.perm.trans ((hp1.append_left done).trans (by simp))
  · refine (mdel_perm (R.now.trans (hp1.append_left _)) x).trans ?_
    rw [List.filter_append, List.filter_cons_of_neg (by simpa using hxp)]
    unfold mdel
    rw [List.filter_append, List.filter_cons_of_neg (by simp)]
    have e2 : (List.filter (fun e => decide (e.1 ≠ x)) rest') = rest' := e1
    rw [e2, List.filter_filter]
    simp only [List.filter_nil, List.append_nil]
    refine List.Perm.of_eq ?_
    congr 1
    refine List.filter_congr fun e _ => ?_
    by_cases h : p < e.1
    · have : e.1 ≠ x := by omega
      simp [h, this]
    · simp [h]
  · rw [Vm.upTo_snoc, if_pos (by simpa using hxp)]; exact hblk
  · rw [hit.left_eq, R.iter.left_eq, hp1.length_eq]; simp

theorem deleteFunc_any (b m cp cx : Nat) (c : Vm.Clk) (p : Int) (w : World) (hclk : ClkAt w b m c) (hp : Blk w cp 3 #[.int .i64 p]) (hx : Blk w cx 26 #[.pointer (some ⟨b, 0, none⟩)]) (hb1 : cp ≠ b) (hb2 : cx ≠ b) :
    Calls Try.prog 58 #[.map (some m), .func (Fn.func 59) #[] #[.pointer (some ⟨cp, 0, none⟩), .pointer (some ⟨cx, 0, none⟩)]] w fun e w' =>
      e = .returned (.tuple #[]) ∧ ClkAt w' b m ⟨c.applied, Vm.upTo p c.asOf c.L, c.lp, c.lt, c.L.filter fun e => decide (p < e.1)⟩ ∧ Fr [b, m] w w' := by
  have hml := hclk.map.lt
  have hbl := hclk.blk.lt
  have hmp := hclk.map.ne hp
  have hmx := hclk.map.ne hx
  have hmb := hclk.ne
  go_enter Try.func58, Try.ntmps58
  go_wp2_with (at_range; refine wpList_vrange _ rfl _ rfl tyII m _ rfl hclk.map ?_; intro w0 hit0 hf0 hs0)
  go_frame
  go_loopw [8] (fun _ wr => DropHead w b m cp cx c p wr) (fun _ wr => wr.rangeLeft m w.heap.size)
  case atStart => exact ⟨[], c.L, c.L, by simp, by simp, hit0, hclk.blk.fr hf0 (by simp), hp.fr hf0 (by simp), hx.fr hf0 (by simp), hf0.mono (by simp)⟩
  case round =>
    obtain ⟨done, rest, M, R⟩ := hrel
    have hok : ∀ q ∈ M, okI q.1 := fun q hq => hclk.keys q (R.perm.mem_iff.2 (by
      have := R.now.mem_iff.1 hq
      simp only [List.mem_append, List.mem_filter] at this ⊢
      rcases this with h | h
      · exact .inl h.1
      · exact .inr h))
    have hok' := Lib.hid hok
    clear hok
    go_wp2_with (at_next; refine wpList_vnext _ rfl _ rfl tyII m _ _ _ hok'.out rfl R.iter ?_ ?_)
    · intro hnil
      go_wp2
      go_end0
      subst hnil
      have hperm := R.perm
      rw [List.append_nil] at hperm
      have hnow := R.now
      rw [List.append_nil] at hnow
      have hM := R.iter.map.perm (hnow.trans (hperm.symm.filter _))
      refine ⟨rfl, ⟨?_, hM, fun e he => hclk.keys e (List.mem_filter.1 he).1⟩, R.fr⟩
      rw [Vm.upTo_perm p c.asOf hperm]
      exact R.blk
    · intro x u rest' w1 hp1 hm1 hit1 hf1 hs1 hen
      have hne : w.heap.size ≠ b ∧ w.heap.size ≠ cp ∧ w.heap.size ≠ cx := ⟨by omega, fun e => by have := hp.lt; omega, fun e => by have := hx.lt; omega⟩
      have hblk1 := R.blk.fr hf1 (by simpa using fun e => hne.1 e.symm)
      have hbp1 := R.bp.fr hf1 (by simpa using fun e => hne.2.1 e.symm)
      have hbx1 := R.bx.fr hf1 (by simpa using fun e => hne.2.2 e.symm)
      have hclk1 : ClkAt w1 b m ⟨c.applied, Vm.upTo p c.asOf done, c.lp, c.lt, M⟩ := ⟨hblk1, hit1.map, hok'.out⟩
      have hF1 : Fr [b, m] w w1 := R.fr.trans' hf1 (by simp)
      have hcl := Lib.hid (closure_any b m cp cx _ x u p w1 hclk1 (hbp1.cell 0) (hbx1.cell 0))
      by_cases hxp : x ≤ p
      · go_wp2_with (first
          | (go_at_call 59; refine hcl.out.mono ?_; rintro e w2 ⟨rfl, hclk2, hf2⟩; have hit2 := hit1.fr hf2 (by simpa using hmb) (by simpa using hne.1))
          | (at_delete; refine wpList_vdel_iter _ rfl _ _ rfl tyII m _ _ _ rfl hit2 _ rfl (hok'.out _ hm1) ?_; intro w3 hit3 ht3; go_frame))
        have hf3 : Fr [m] w2 w3 := turned_fr ht3 (by simp)
        have D := drop_goes R hxp hp1 hit3 (by have := hclk2.blk; rw [if_pos hxp] at this; exact this.fr hf3 (by simpa using fun e => hmb e.symm)) ((hbp1.fr hf2 (by simpa using hb1)).fr hf3 (by simpa using fun e => hmp e.symm)) ((hbx1.fr hf2 (by simpa using hb2)).fr hf3 (by simpa using fun e => hmx e.symm))
          ((hF1.trans' hf2 (by simp)).trans' hf3 (by simp))
        go_roundw
        case rel => exact D.1
        case measure => exact D.2
      · go_wp2_with (go_at_call 59; refine hcl.out.mono ?_; rintro e w2 ⟨rfl, hclk2, hf2⟩)
        have D := drop_stays R (by omega) hp1 (hit1.fr hf2 (by simpa using hmb) (by simpa using hne.1)) (by have := hclk2.blk; rw [if_neg (by omega)] at this; exact this) (hbp1.fr hf2 (by simpa using hb1)) (hbx1.fr hf2 (by simpa using hb2))
          (hF1.trans' hf2 (by simp))
        go_roundw
        case rel => exact D.1
        case measure => exact D.2
theorem applied_any (b m : Nat) (c : Vm.Clk) (p : Int) (w : World) (hclk : ClkAt w b m c) :
    Calls Try.prog 24 #[.pointer (some ⟨b, 0, none⟩), .int .i64 p] w fun e w' => e = .returned (.tuple #[]) ∧ ClkAt w' b m (Vm.applied c p) ∧ Fr [b, m] w w' := by
  have c0 : w.cell? ⟨b, 0, none⟩ = some (.int .i64 c.applied) := hclk.blk.cell 0
  have c4 : w.cell? ⟨b, 4, none⟩ = some (.map (some m)) := hclk.blk.cell 4
  have f0 : w.frozen? ⟨b, 0, none⟩ = false := hclk.blk.frozen 0
  have hbl := hclk.blk.lt
  by_cases hp : p ≤ c.applied
  · go_enter Try.func24, Try.ntmps24
    go_wp2_with fail
    go_quiet (fail)
    go_wp2
    refine bodyPost_ret (results_none rfl _ _ _) rfl ?_
    refine ⟨rfl, ?_, (((Fr.refl _ _).alloc _).alloc _).drewN _⟩
    unfold Vm.applied
    rw [if_pos hp]
    exact hclk.fr ((((Fr.refl [] w).alloc _).alloc _).drewN _) (by simp) (by simp)
  · go_enter Try.func24, Try.ntmps24
    go_wp2_with fail
    go_quiet (fail)
    go_wp2_with fail
    have hbx : Blk (w.alloc (.cells #[.pointer (some ⟨b, 0, none⟩)] 26)) w.heap.size 26 #[.pointer (some ⟨b, 0, none⟩)] := Blk.new _ _ _
    have hbp : Blk ((w.alloc (.cells #[.pointer (some ⟨b, 0, none⟩)] 26)).alloc (.cells #[.int .i64 p] 3)) (w.heap.size + 1) 3 #[.int .i64 p] := by
      have := Blk.new (w.alloc (.cells #[.pointer (some ⟨b, 0, none⟩)] 26)) 3 #[.int .i64 p]
      simpa using this
    have hF : Fr [b, m] w (((((w.alloc (.cells #[.pointer (some ⟨b, 0, none⟩)] 26)).alloc (.cells #[.int .i64 p] 3)).drewN nq)).setCell ⟨b, 0, none⟩ (.int .i64 p)) :=
      ((((Fr.refl _ _).alloc _).alloc _).drewN _).setCell (.inl (by simp)) _
    refine (deleteFunc_any b m (w.heap.size + 1) w.heap.size ⟨p, c.asOf, c.lp, c.lt, c.L⟩ p _ ⟨?_, ?_, hclk.keys⟩ ?_ ?_ ?_ ?_).mono ?_
    · exact (((hclk.blk.alloc _).alloc _).drewN nq).set_ 0 _
    · exact (((hclk.map.alloc _).alloc _).drewN nq).setCell (p := ⟨b, 0, none⟩) hclk.ne _
    · exact (hbp.drewN nq).far (by simp; omega) _
    · exact ((hbx.alloc _).drewN nq).far (by simp; omega) _
    · omega
    · omega
    · rintro e w1 ⟨rfl, hn, hf⟩
      go_wp2
      go_end0
      refine ⟨rfl, ?_, hF.trans' hf (by simp)⟩
      unfold Vm.applied
      rw [if_neg (by omega)]
      exact hn
end Go.Proofs.Ytldolhdgkbljlaa

/-
  'worst', and the clock's methods that write the map.
-/
import Derived.Test.YtldolhdgkbljlaaVouchB
namespace Go.Proofs.Ytldolhdgkbljlaa
open Go.RowKit

/-- The closure of 'Applied'. -/
theorem closure_any (b m cp cx : Nat) (c : Vm.Clk) (at_ time p : Int) (w : World) (hclk : ClkAt w b m c) (hp : w.cell? ⟨cp, 0, none⟩ = some (.int .i64 p)) (hx : w.cell? ⟨cx, 0, none⟩ = some (.pointer (some ⟨b, 0, none⟩))) :
    Calls Try.prog 59 #[.int .i64 at_, .int .i64 time, .pointer (some ⟨cp, 0, none⟩), .pointer (some ⟨cx, 0, none⟩)] w fun e w' =>
      e = .returned (.bool (decide (at_ ≤ p))) ∧ ClkAt w' b m { c with asOf := if at_ ≤ p then Vm.isMax c.asOf time else c.asOf } ∧ Fr [b] w w' := by
  go_enter Try.func59, Try.ntmps59
  go_wp2_with (go_at_call 51; refine (vouch_any _ _ _ _ _ hclk).mono ?_; rintro e w1 ⟨rfl, hn, hf⟩)
  · go_ret
    exact ⟨rfl, hclk, Fr.refl _ _⟩
  · go_ret
    exact ⟨rfl, hn, hf⟩

/-- What stands at the head of each round of 'worst'. -/
def WorstRel (w : World) (m : Nat) (c : Vm.Clk) (wr : World) : Prop := ∃ done rest, c.L.Perm (done ++ rest) ∧ Iter Try.prog 3 (Lit.int .i64) (Value.int .i64) wr m (w.heap.size + 1) c.L rest ∧
  Blk wr w.heap.size 87 #[.int .i64 (Vm.worst done).1, .int .i64 (Vm.worst done).2] ∧ Fr [] w wr
theorem worst_rel {w wr w1 W : World} {m : Nat} {c : Vm.Clk} {done rest rest' : List (Int × Int)} {x u : Int} (hm : m < w.heap.size) (hperm : c.L.Perm (done ++ rest)) (hp1 : rest.Perm ((x, u) :: rest'))
    (hit : Iter Try.prog 3 (Lit.int .i64) (Value.int .i64) wr m (w.heap.size + 1) c.L rest)
    (hit1 : Iter Try.prog 3 (Lit.int .i64) (Value.int .i64) w1 m (w.heap.size + 1) c.L rest') (hf1 : Fr [w.heap.size + 1] wr w1) (hfr : Fr [] w wr) (hF : Fr [w.heap.size] w1 W)
    (hB : Blk W w.heap.size 87 #[.int .i64 (Vm.worst (done ++ [(x, u)])).1, .int .i64 (Vm.worst (done ++ [(x, u)])).2]) : WorstRel w m c W ∧ W.rangeLeft m (w.heap.size + 1) < wr.rangeLeft m (w.heap.size + 1) := by
  have h2 := hit1.fr hF (by simp; omega) (by simp)
  refine ⟨⟨done ++ [(x, u)], rest', ?_, h2, hB, ?_⟩, ?_⟩
  · exact hperm.trans ((hp1.append_left done).trans (by simp))
  · exact (hfr.trans' hf1 (by simp)).trans' hF (by simp)
  · rw [h2.left_eq, hit.left_eq, hp1.length_eq]
    simp

/-- 'worst'. -/
theorem worst_any (b m : Nat) (c : Vm.Clk) (w : World) (hclk : ClkAt w b m c) (hpos : ∀ e ∈ c.L, 1 ≤ e.1) :
    Calls Try.prog 52 #[.pointer (some ⟨b, 0, none⟩)] w fun e w' => e = .returned (.int .i64 (Vm.worst c.L).1) ∧ Fr [] w w' := by
  have c4 : ∀ o, (w.alloc o).cell? ⟨b, 4, none⟩ = some (.map (some m)) := fun o => (hclk.blk.alloc o).cell 4
  go_enter Try.func52, Try.ntmps52
  go_wp2_with (at_range; refine wpList_vrange _ rfl _ rfl tyII m _ rfl (hclk.map.alloc _) ?_; intro w0 hit0 hf0 hs0)
  go_frame
  have e1 : (w.alloc (.cells #[.int .i64 0, .int .i64 0] 87)).heap.size = w.heap.size + 1 := by simp
  rw [e1] at hit0 hs0 ⊢
  clear e1
  go_loopw [12] (fun _ wr => WorstRel w m c wr)
    (fun _ wr => wr.rangeLeft m (w.heap.size + 1))
  case atStart =>
    refine ⟨[], c.L, by simp, hit0, ?_, ?_⟩
    · exact (Blk.new w 87 _).fr hf0 (by simp)
    · exact ((Fr.refl _ _).alloc _).trans hf0
  case round =>
    obtain ⟨done, rest, hperm, hit, hout, hfr⟩ := hrel
    go_wp2_with (at_next; refine wpList_vnext _ rfl _ rfl tyII m _ _ _ hclk.keys rfl hit ?_ ?_)
    · intro hnil
      have o0 : wr.cell? ⟨w.heap.size, 0, none⟩ = some (.int .i64 (Vm.worst done).1) := hout.cell 0
      go_wp2
      go_ret
      subst hnil
      rw [List.append_nil] at hperm
      exact ⟨by rw [Vm.worst_perm hperm hpos]; rfl, hfr⟩
    · intro x u rest' w1 hp1 hm1 hit1 hf1 hs1 hen
      have hsnoc := Lib.hid (Vm.worst_snoc done (x, u))
      have hsp := Vm.worst_spec done (fun e he => hpos e (hperm.mem_iff.2 (by simp [he])))
      have hout1 := hout.fr hf1 (by simp)
      have hw0 := hout.lt
      clear hout
      obtain ⟨⟨op, ot⟩, ho⟩ : ∃ o, o = Vm.worst done := ⟨_, rfl⟩
      rw [← ho] at hout1 hsnoc hsp
      have HO := Lib.hid ho
      clear ho
      have o0 : ∀ o, (w1.alloc o).cell? ⟨w.heap.size, 0, none⟩ = some (.int .i64 op) := fun o => (hout1.alloc o).cell 0
      have o1 : ∀ o, (w1.alloc o).cell? ⟨w.heap.size, 1, none⟩ = some (.int .i64 ot) := fun o => (hout1.alloc o).cell 1
      have f0 : ∀ o, (w1.alloc o).frozen? ⟨w.heap.size, 0, none⟩ = false := fun o => (hout1.alloc o).frozen 0
      have f1 : ∀ o, (w1.alloc o).frozen? ⟨w.heap.size, 1, none⟩ = false := fun o => (hout1.alloc o).frozen 1
      have p0 : w1.cell? ⟨w.heap.size, 0, none⟩ = some (.int .i64 op) := hout1.cell 0
      have p1 : w1.cell? ⟨w.heap.size, 1, none⟩ = some (.int .i64 ot) := hout1.cell 1
      have q0 : w1.frozen? ⟨w.heap.size, 0, none⟩ = false := hout1.frozen 0
      have q1 : w1.frozen? ⟨w.heap.size, 1, none⟩ = false := hout1.frozen 1
      have hml := hclk.map.lt
      rcases hsp with ⟨hd, h0⟩ | hsp
      · obtain ⟨rfl, rfl⟩ : op = 0 ∧ ot = 0 := by simpa using h0
        have HD := Lib.hid hd
        clear hd h0
        go_wp2_with fail
        have R := worst_rel (W := ((w1.setCell ⟨w.heap.size, 0, none⟩ (.int .i64 x)).setCell ⟨w.heap.size, 1, none⟩ (.int .i64 u)).alloc (.cells #[.int .i64 x, .int .i64 u] 87)) hml hperm hp1 hit hit1 hf1 hfr
          ((((Fr.refl _ _).setCell (.inl (by simp)) _).setCell (.inl (by simp)) _).alloc _) (by rw [hsnoc.out, if_pos (.inl rfl)]; exact (((hout1.set_ 0 _).set_ 1 _).alloc _))
        go_roundw
        case rel => exact R.1
        case measure => exact R.2
      · have hop : 1 ≤ op := hpos (op, ot) (hperm.mem_iff.2 (List.mem_append_left _ hsp.1))
        clear hsp
        cases hw : Vm.worse x u op ot
        · go_wp2_with (go_at_call 72; refine (isWorse_any _ _ _ _ _).mono ?_; rintro e w2 ⟨rfl, hf2⟩)
          have hw' := Lib.hid hw
          have R := worst_rel (W := w2) hml hperm hp1 hit hit1 hf1 hfr (((Fr.refl _ _).alloc _).trans (hf2.mono (by simp)))
            (by rw [hsnoc.out, if_neg (by rw [hw'.out]; simp; omega)]; exact ((hout1.alloc _).fr hf2 (by simp)))
          go_roundw
          case rel => exact R.1
          case measure => exact R.2
        · go_wp2_with (go_at_call 72; refine (isWorse_any _ _ _ _ _).mono ?_; rintro e w2 ⟨rfl, hf2⟩; have hbx := (Blk.new w1 87 #[.int .i64 x, .int .i64 u]).fr hf2 (by simp); rw [hs1] at hbx; have x0 := hbx.cell 0; have x1 := hbx.cell 1; have hout2 := (hout1.alloc (.cells #[.int .i64 x, .int .i64 u] 87)).fr hf2 (by simp); have y0 := hout2.cell 0; have y1 := hout2.cell 1; have z0 := hout2.frozen 0; have z1 := hout2.frozen 1)
          have R := worst_rel (W := (w2.setCell ⟨w.heap.size, 0, none⟩ (.int .i64 x)).setCell ⟨w.heap.size, 1, none⟩ (.int .i64 u)) hml hperm hp1 hit hit1 hf1 hfr
            (((((Fr.refl _ _).alloc _).trans (hf2.mono (by simp))).setCell (.inl (by simp)) _).setCell (.inl (by simp)) _) (by rw [hsnoc.out, if_pos (.inr hw)]; exact ((hout2.set_ 0 _).set_ 1 _))
          go_roundw
          case rel => exact R.1
          case measure => exact R.2
end Go.Proofs.Ytldolhdgkbljlaa

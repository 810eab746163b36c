/-
  'record', 'slices.Clone' of changes.
-/
import Derived.Test.YtfbhdmppddledaaGapA
import Derived.WalkSpells
namespace Go.Proofs.Ytfbhdmppddledaa
open Go.RowKit

/-- A block that holds just these changes. -/
theorem holds_of_blk {w : World} {g : Nat} {arr : Array Value} {cs : List Chg} {A : Option Addr} (hA : A = some ⟨g, 0, none⟩) (hB : Blk w g 59 arr) (h : cs.flatMap Chg.cells = arr.toList) : HoldsC w A cs := by
  subst hA
  refine ⟨fun hl => ⟨g, 0, rfl, hB.lt, fun i hi j hj => ?_⟩, fun hl ad e => ?_⟩
  · have e1 := flat_get Chg.len cs i hi j hj
    rw [← e1, h, Nat.zero_add, hB.cell]
    simp
  · cases e
    exact ⟨_, _, hB⟩

def recOf (p : Int) : Rec := ⟨p, [⟨0, p, false, 0, 0, 0, true, 0, 0, 0⟩]⟩
set_option maxRecDepth 100000 in
/-- 'record'. -/
theorem record_any (p : Int) (w : World) : Calls Try.prog 20 #[.int .i64 p] w fun e w' =>
    e = .returned (.agg #[.int .i64 p, .slice (some ⟨w.heap.size + 1, 0, none⟩) 1 1]) ∧ HoldsC w' (some ⟨w.heap.size + 1, 0, none⟩) (recOf p).cs ∧ Fr [] w w' := by
  go_enter Try.func20, Try.ntmps20
  go_wp2_with fail
  refine bodyPost_ret (v := .agg #[.int .i64 p, .slice (some ⟨w.heap.size + 1, 0, none⟩) 1 1]) (by simp [results, Try.results20, go_sem]) rfl ⟨rfl, ?_, ?_⟩
  · have hB := Blk.new (w.alloc (.cells #[.int .i64 p, .slice (some ⟨w.heap.size + 1, 0, none⟩) 1 1] 34)) 59 (Chg.cells ⟨0, p, false, 0, 0, 0, true, 0, 0, 0⟩).toArray
    rw [World.size_alloc] at hB
    exact holds_of_blk (cs := (recOf p).cs) rfl hB (by simp [recOf])
  · exact ((Fr.refl _ _).alloc _).alloc _

theorem etC : ∃ i z, ET Try.prog 32 59 10 80 i z := by
  have h : (Try.prog.info? 59).map (fun i => (i.zero, i.size, i.bytes)) = some (some (.agg #[.int .i64 0, .int .i64 0, .bool false, .int .i64 0, .int .i64 0, .int .i64 0, .bool false, .int .i64 0, .int .i64 0, .int .i64 0]), 10, 80) := by kernel_rfl
  obtain ⟨i0, hi, hz0, hz1, hz2⟩ := info_parts h
  exact ⟨i0, _, Try.underlying32, hi, hz0, hz1, hz2, rfl, by decide⟩

theorem reads_of_chgs {w : World} {A : Option Addr} {cs : List Chg} (h : ChgsAt w A cs) : Reads w w.heap.size 10 A cs.length (cs.flatMap Chg.cells) := by
  refine ⟨flat_len Chg.len cs, fun hl => ?_⟩
  obtain ⟨b, off, e, hb, hc⟩ := h hl
  refine ⟨_, e, hb, fun q u hu => ?_⟩
  have hq : q < cs.length * 10 := by
    rw [← flat_len Chg.len cs]
    exact (List.getElem?_eq_some_iff.1 hu).1
  have h1 := hc (q / 10) (by omega) (q % 10) (by omega)
  have h2 := flat_get Chg.len cs (q / 10) (by omega) (q % 10) (by omega)
  rw [show q / 10 * 10 + q % 10 = q by omega] at h2
  have hadd : (⟨b, off, none⟩ : Addr).add q = ⟨b, off + q, none⟩ := by unfold Addr.add; split <;> simp_all
  rw [hadd, show off + q = off + q / 10 * 10 + q % 10 by omega, h1, ← h2, hu]
theorem holds_of_own {w : World} {v : Value} {cs : List Chg} (h : OwnL 59 10 Chg.cells w v cs) : ∃ A cap, v = .slice A cs.length cap ∧ HoldsC w A cs := by
  rcases Nat.eq_zero_or_pos cs.length with h0 | h0
  · obtain ⟨A, cap, hv⟩ := h.val
    exact ⟨A, cap, hv, fun hl => absurd hl (by omega), fun hl => absurd hl (by omega)⟩
  · have h' := h
    obtain ⟨g, cap, hv, hc, hm, hlt, hcell, _⟩ := h.form Chg.len h0
    refine ⟨_, cap, hv, fun _ => ⟨g, 0, rfl, hlt, fun i hi j hj => ?_⟩, fun _ ad e => ?_⟩
    · rw [Nat.zero_add]; exact hcell i hi j hj
    · cases e
      rcases h'.2 with ⟨e1, _⟩ | ⟨g', cap', cur, e1, _, hg, _⟩
      · rw [hv] at e1; cases e1
      · rw [hv] at e1
        cases e1
        exact ⟨cur, _, hg⟩

set_option maxRecDepth 100000 in
/-- 'slices.Clone'. -/
theorem clone_any (b off cap : Nat) (cs : List Chg) (w : World) (hx : ChgsAt w (some ⟨b, off, none⟩) cs) (h1 : 1 ≤ cs.length) (h8 : cs.length ≤ 1000) :
    Calls Try.prog 30 #[.slice (some ⟨b, off, none⟩) cs.length cap] w fun e w' => ∃ A' cap', (e = .returned (.slice A' cs.length cap') ∧ HoldsC w' A' cs) ∧ Fr [] w w' := by
  obtain ⟨i0, z, T⟩ := etC
  have hr := reads_of_chgs hx
  have hlt : b < w.heap.size := by
    obtain ⟨_, _, e, hb, _⟩ := hx (by omega)
    cases e
    exact hb
  have hown : OwnL 59 10 Chg.cells (w.alloc (.cells #[] 59)) (.slice (some ⟨w.heap.size, 0, none⟩) 0 0) [] :=
    ⟨by simp, .inr ⟨w.heap.size, 0, #[], rfl, Nat.zero_le _, heap_alloc_new w _, Nat.le_refl _, by simp [maxLen], by simp, by simp⟩⟩
  have hr1 := hr.alloc (Nat.le_refl _) (.cells #[] 59)
  have hf0 : Fr [] w (w.alloc (.cells #[] 59)) := (Fr.refl _ _).alloc _
  have hnil := Lib.run_eql_slice_nil (P := Try.prog)
  go_enter Try.func30, Try.ntmps30
  go_wp2_with (at_builtin; refine wpList_appendL rfl _ _ rfl T Chg.len Chg.one rfl hown w.heap.size _ _ _ cs rfl rfl hr1 (by simp only [maxLen, List.length_nil]; omega) (by simp only [List.length_nil]; omega) ?_; intro v' w1 hown1 hg1 hat1; rw [List.nil_append] at hown1; obtain ⟨A', cap', hv', hh⟩ := holds_of_own hown1; subst hv')
  go_ret
  refine ⟨A', cap', ⟨rfl, hh⟩, ?_⟩
  exact hf0.grown hg1 (fun g e => by cases e; exact .inr (Nat.le_refl _))
end Go.Proofs.Ytfbhdmppddledaa

/-
  slices.Collect over slices.Values: a copy.
-/
import Derived.Test.YtbmakjhfoaadoaaDkV
import Derived.Test.YtbmakjhfoaadoaaRowIn
import Derived.RangeFuncFrom
namespace Go.Proofs.Ytbmakjhfoaadoaa
open Go.RowKit Go.Shelf
attribute [local go_sem] Oper.semAt_some

def encI (x : Int) : List Value := [.int .i64 x]
theorem encI_len (x : Int) : (encI x).length = 1 := rfl
theorem encI_one (x : Int) : ∀ u ∈ encI x, u.oneCell' = true := by
  intro u hu
  simp only [encI, List.mem_singleton] at hu
  subst hu
  rfl
theorem etI : ∃ i z, ET Try.prog 37 3 1 8 i z := by
  have h : (Try.prog.info? 3).map (fun i => (i.zero, i.size, i.bytes)) = some (some (.int .i64 0), 1, 8) := by kernel_rfl
  obtain ⟨i0, hi, hz0, hz1, hz2⟩ := info_parts h
  exact ⟨i0, _, Try.underlying37, hi, hz0, hz1, hz2, rfl, by decide⟩

/-- Between two rounds: what has come lies in a row of the call's own. -/
structure ApI (w0 : World) (B : Nat) (pre : List Int) (W : World) : Prop where
  box : ∃ v, Blk W B 37 #[v] ∧ OwnL 3 1 encI W v pre ∧ ∀ g, v.ownBlock = some g → w0.heap.size ≤ g
  fr : Fr [] w0 W
theorem ApI.own {w0 : World} {B C : Nat} (hC : w0.heap.size ≤ C) : OwnFrom C (ApI w0 B) := by
  rintro pre W W' row ⟨⟨v, h1, h2, h3⟩, hf⟩ hg hr
  have hr' : ∀ r, row = some r → ∃ o : Obj, W.heap[r]? = some o ∧ o.isCells = false := fun r e => (hr r e).2
  refine ⟨⟨v, (grownBy_keeps_cells hg hr' h1 rfl).trans h1, h2.of_block fun g hgg => ?_, h3⟩, hf.grown hg (fun g e => .inr (by have := (hr g e).1; omega))⟩
  rcases h2.2 with ⟨rfl, _⟩ | ⟨g', cap, cur, rfl, _, hh, _⟩
  · simp [Value.ownBlock] at hgg
  · have e : g' = g := by simpa [Value.ownBlock] using hgg
    subst e
    exact grownBy_keeps_cells hg hr' hh rfl

set_option maxRecDepth 100000 in
set_option maxHeartbeats 2000000 in
theorem appendSeq_any (Bs : Nat) (sv : Value) (zs : List Int) (w : World) (hreach : zs.length * 8 ≤ 140737488351232) (hc : w.cell? ⟨Bs, 0, none⟩ = some sv) (hI : Vl.Ints w.heap.size w sv zs) :
    Calls Try.prog 49 #[.slice none 0 0, .func (.func 47) #[] #[.pointer (some ⟨Bs, 0, none⟩)]] w fun e w' => ∃ v, (e = .returned v ∧ OwnL 3 1 encI w' v zs ∧ ∀ g, v.ownBlock = some g → w.heap.size ≤ g) ∧ Fr [] w w' := by
  have hBs : Bs < w.heap.size := World.block_lt_of_cell? w _ hc
  refine (callsIn_wide (n := 6)).1 ?_
  refine callsIn_of_wp_marks Try.func49 rfl trivial ?_ rfl
  simp only [Try.ntmps49, List.size_toArray, List.length_cons, List.length_nil, Nat.reduceAdd, Nat.reduceSub, Array.replicate_succ, Array.replicate_zero, List.push_toArray, List.append_toArray, List.nil_append, List.cons_append]
  gi_wp2
  have F0 : Fr [] w (w.alloc (.cells #[.slice none 0 0] 37)) := (Fr.refl _ _).alloc _
  have hB0 := Blk.new w 37 #[.slice none 0 0]
  have hc0 := (F0.rules.1 Bs 0 hBs).trans hc
  have hz0 : (w.alloc (.cells #[.slice none 0 0] 37)).heap.size = w.heap.size + 1 := by simp
  have hI0 : Vl.Ints w.heap.size (w.alloc (.cells #[.slice none 0 0] 37)) sv zs := hI.below F0.below
  generalize (w.alloc (.cells #[.slice none 0 0] 37)) = W0 at *
  have A0 : ApI w w.heap.size [] W0 := ⟨⟨_, hB0, OwnL.nil, by simp [Value.ownBlock]⟩, F0⟩
  have HZ0 := Lib.hid hz0
  clear hz0 hc hI
  obtain ⟨i0, z, TI⟩ := etI
  refine wpIn_rangeFunc_ownF rfl (by omega) (gf := 47) (lb := #[.pointer (some ⟨Bs, 0, none⟩)]) rfl trivial (enters_of Try.func47 (by kernel_rfl) rfl)
    (Vl.values_stops _ _ trivial rfl (by omega) Bs w.heap.size sv zs hreach W0 (by have := HZ0.out; omega) (by have := HZ0.out; omega) hc0 hI0) belowK_t (belowK_b (by have := HZ0.out; omega)) (Below.refl _ _) (fun _ => rfl)
    (ApI w w.heap.size) (fun _ _ _ => False) (ApI.own (by have := HZ0.out; omega)) (fun _ _ _ _ _ hs _ _ => hs) A0
    (fun x => { tmps := #[.slice none 0 0, .func (.func 47) #[] #[.pointer (some ⟨Bs, 0, none⟩)], .pointer (some ⟨w.heap.size, 0, none⟩), undef, .slice none 0 0, .int .i64 x, .func (.func 47) #[] #[.pointer (some ⟨Bs, 0, none⟩)], .int .i64 x, undef, undef, undef, undef, undef], defers := [] }) ?assign ?body ?done ?stop
  case assign =>
    intro l x W K hK
    gi_wp2
    exact hK
  case body =>
    rintro l pre x W ⟨⟨v, hB, hown, hvg⟩, hf⟩ hlen
    have c0 := hB.cell 0
    have hgl : ∀ g, v.ownBlock = some g → g ≠ w.heap.size := fun g hg => hown.ne hB (by decide) hg
    have hownA := hown.fr (S := []) ((Fr.refl _ W).alloc (.cells #[.int .i64 x] 3)) (by simp)
    have hlt := hB.lt
    have hBA := hB.alloc (.cells #[.int .i64 x] 3)
    have hw0 := hf.size
    have HB := Lib.hid hB
    have HF := Lib.hid hf
    clear hB hf
    gi_wp2_with (gi_at_builtin; go_loud (refine wpListIn_appendL rfl _ _ rfl TI encI_len encI_one rfl hownA (W.heap.size + 1) _ _ _ [x] rfl rfl (reads_new (enc := encI) W 3 x rfl) (by simp only [maxLen, List.length_singleton]; omega) (by simp only [List.length_singleton]; omega) ?_; intro v5 w5 hown5 hg5 hat5; have f5 : Fr (v.ownBlock.toList) (W.alloc (.cells #[.int .i64 x] 3)) w5 := (Fr.refl _ _).grown hg5 (fun g hg => .inl (Option.mem_toList.2 hg)); have hB5 := hBA.fr f5 (fun hm => hgl _ (Option.mem_toList.1 hm) rfl); have b5 := hB5.cell 0; have z5 := hB5.frozen 0; have hg5' : (W.alloc (.cells #[.int .i64 x] 3)).grownBy w5 v.ownBlock := hg5; clear hg5; obtain ⟨A5, cap5, hv5⟩ := hown5.val; obtain ⟨n5, hn5⟩ : ∃ n5, n5 = (pre ++ [x]).length := ⟨_, rfl⟩; rw [← hn5] at hv5; have HN5 := Lib.hid hn5; clear hn5; subst hv5))
    have hk5 : KeepsOthers W w5 := (KeepsOthers.alloc W _).trans (KeepsOthers.of_grownBy hg5' (fun j o hj ho => by
      rcases hownA.2 with ⟨e, _⟩ | ⟨g', cap2, cur, e, _, hh, _⟩
      · rw [e] at hj; simp [Value.ownBlock] at hj
      · rw [e] at hj
        have e2 : g' = j := by simpa [Value.ownBlock] using hj
        subst e2
        rw [hh] at ho
        cases ho
        rfl))
    have f6 : Fr (w.heap.size :: v.ownBlock.toList) W (w5.setCell ⟨w.heap.size, 0, none⟩ (.slice A5 n5 cap5)) := ((((Fr.refl _ W).alloc _).trans' f5 (fun i hi => .inl (List.mem_cons_of_mem _ hi)))).setCell (.inl (by simp)) _
    have hge : ∀ i ∈ w.heap.size :: v.ownBlock.toList, w.heap.size ≤ i := fun i hi => by
      rcases List.mem_cons.1 hi with rfl | hi
      · exact Nat.le_refl _
      · exact hvg i (Option.mem_toList.1 hi)
    have hb5 : Below w.heap.size W (w5.setCell ⟨w.heap.size, 0, none⟩ (.slice A5 n5 cap5)) := f6.belowB hge hw0
    refine ⟨hk5.trans (KeepsOthers.setCell _ _ _), hb5, ⟨.slice A5 n5 cap5, ?_, ?_, fun g hg => ?_⟩, ?_⟩
    · simpa using hB5.set_ 0 (.slice A5 n5 cap5)
    · exact hown5.fr (S := [w.heap.size]) ((Fr.refl _ _).setCell (.inl (by simp)) _) (fun g hg => by simpa using hown5.ne hB5 (by decide) hg)
    · rcases hat5 with h1 | h1
      · exact hvg g (h1 ▸ hg)
      · rw [hg] at h1
        injection h1 with h1
        rw [h1]
        simp
        omega
    · exact HF.out.trans' f6 (fun i hi => .inr (hge i hi))
  case done =>
    rintro D ys W hD rfl ⟨⟨v, hB, hown, hvg⟩, hf⟩ hK
    have c0 := hB.cell 0
    gi_wp2
    refine ⟨by simp, .inl ⟨_, _, rfl, run_takeDeferred hK, ?_⟩⟩
    have hDn : D ≠ w.heap.size := by have := HZ0.out; omega
    refine ⟨_, results_tmp rfl _ _ _, v, ⟨rfl, ?_, hvg⟩, putObj_fr hf (.inr (by have := HZ0.out; omega)) _⟩
    refine hown.fr (S := [D]) (putObj_fr (Fr.refl _ _) (.inl (by simp)) _) (fun g hg hm => ?_)
    have e : g = D := by simpa using hm
    subst e
    rcases hown.2 with ⟨e, _⟩ | ⟨g', cap2, cur, e, _, hh, _⟩
    · rw [e] at hg; simp [Value.ownBlock] at hg
    · rw [e] at hg
      have e2 : g' = g := by simpa [Value.ownBlock] using hg
      subst e2
      rw [hK] at hh
      cases hh
  case stop =>
    rintro D c pre W _ _ h _
    exact h.elim
end Go.Proofs.Ytbmakjhfoaadoaa

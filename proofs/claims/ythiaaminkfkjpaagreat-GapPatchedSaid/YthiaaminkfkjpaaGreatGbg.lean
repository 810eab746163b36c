/-
  Contracts of package gap: Highest, Announce, the nil receiver's Reset.
-/
import Derived.Test.YthiaaminkfkjpaaGreatGbe
import Derived.Shelf.Abstract
import Derived.Test.YthiaaminkfkjpaaGreatGbb
namespace Go.Proofs.YthiaaminkfkjpaaGreat
open Go.RowKit
attribute [local go_sem] Oper.semAt_some

theorem etR : ∃ i z, ET Tryz.prog 26 44 2 32 i z := by
  have h : (Tryz.prog.info? 44).map (fun i => (i.zero, i.size, i.bytes)) = some (some (.agg #[.int .i64 0, .slice none 0 0]), 2, 32) := by kernel_rfl
  obtain ⟨i0, hi, hz0, hz1, hz2⟩ := info_parts h
  exact ⟨i0, _, Tryz.underlying26, hi, hz0, hz1, hz2, rfl, by decide⟩

/-- A range over a closure: the loop's record by name. -/
theorem wpIn_range_rec {F : Fence} {n : Nat} {P : Program} {g : Operand} {ps : Array Tmp} {assign body : Code} {Q : Exit → Act → World → Prop} {a : Act} {w : World} (hro : F.round = none) (h1 : 1 ≤ n) {gf : Nat} {lb : Array Value}
    (hg : a.eval g = .func (.func gf) #[] lb) (hF : F.fn gf) (eg : ∀ args w, (callFunc gf args).run P w = .ok (.enter gf args) w)
    (h : ∀ fn, F.fn fn → ∀ rec : Loop, rec = { state := .ready, pending := none, fn, tmps := a.tmps, params := ps, assign, body, defers := w.heap.size } →
      CallsIn F (n - 1) P gf (#[.func (.yield (w.heap.size + 1)) #[] #[]] ++ lb) ((w.alloc (.deferred (some []))).alloc (.loop rec)) (rangePost F n P (w.heap.size + 1) Q { a with defers := { target := .collected w.heap.size, args := #[] } :: a.defers })) :
    (Code.rangeFunc g ps assign body).wpIn F n P Q a w := by
  refine wpIn_rangeFunc ?_
  intro fn hfn
  rw [hro]
  have hent := run_enterLoop_outer (P := P) (w := w) fn a.tmps ps assign body
  have hc := h fn hfn _ rfl
  revert hent hc
  generalize (w.alloc (.deferred (some []))).alloc (.loop { state := .ready, pending := none, fn, tmps := a.tmps, params := ps, assign, body, defers := w.heap.size }) = W1
  intro hent hc
  refine ⟨w.heap.size + 1, [{ target := .collected w.heap.size, args := #[] }], W1, { target := .fn (.func gf) lb, args := #[.func (.yield (w.heap.size + 1)) #[] #[]] }, W1, gf,
    #[.func (.yield (w.heap.size + 1)) #[] #[]] ++ lb, W1, hent, ?_, ?_, ?_, fun _ => h1, ?_⟩
  · simp only [resolve, hg]
    simp [go_sem]
  · intro f' hf'; simp [Target.leads] at hf'; subst hf'; exact hF
  · simp [invoke, go_sem, eg]
  · simp only [List.cons_append, List.nil_append]
    exact hc

set_option maxRecDepth 100000 in
theorem take_any (b m : Nat) (c : Gm.Rcv) (w : World) (h : RcvAt w b m c) : Calls Tryz.prog 11 #[.pointer (some ⟨b, 0, none⟩)] w fun e w' =>
    ∃ v, (e = .returned v ∧ OwnR w' v (Gm.take c.L.length c).1) ∧ RcvAt w' b m (Gm.take c.L.length c).2 ∧ Fr [b, m] w w' := by
  refine (callsIn_wide (n := 6)).1 ?_
  refine callsIn_of_wp_marks Tryz.func11 rfl trivial ?_ rfl
  simp only [Tryz.ntmps11, List.size_toArray, List.length_cons, List.length_nil, Nat.reduceAdd, Nat.reduceSub, Array.replicate_succ, Array.replicate_zero, List.push_toArray, List.append_toArray, List.nil_append, List.cons_append]
  gi_wp2
  refine ⟨trivial, ?_⟩
  refine (callsIn_wide.2 (ready_any _ _)).mono ?_
  rintro e w' ⟨rfl, rfl⟩
  gi_wp2
  have F0 : Fr [] w ((w.alloc (.cells #[.slice none 0 0] 26)).alloc (.cells #[.pointer (some ⟨b, 0, none⟩)] 31)) := ((Fr.refl _ _).alloc _).alloc _
  have hB0 := (Blk.new w 26 #[.slice none 0 0]).alloc (.cells #[.pointer (some ⟨b, 0, none⟩)] 31)
  have hX0 := Blk.new (w.alloc (.cells #[.slice none 0 0] 26)) 31 #[.pointer (some ⟨b, 0, none⟩)]
  rw [World.size_alloc] at hX0
  have hr0 := h.fr0 F0
  generalize ((w.alloc (.cells #[.slice none 0 0] 26)).alloc (.cells #[.pointer (some ⟨b, 0, none⟩)] 31)) = W0 at *
  refine wpIn_range_rec rfl (by omega) (gf := 61) (lb := #[.pointer (some ⟨w.heap.size + 1, 0, none⟩)]) rfl trivial (enters_of Tryz.func61 (by kernel_rfl) rfl) ?_
  intro fn hfn rec hrec
  have F1 : Fr [] W0 ((W0.alloc (.deferred (some []))).alloc (.loop rec)) := ((Fr.refl _ _).alloc _).alloc _
  have hL1 : ((W0.alloc (.deferred (some []))).alloc (.loop rec)).heap[W0.heap.size + 1]? = some (.loop rec) := by
    have := World.alloc_heap_new (W0.alloc (.deferred (some []))) (.loop rec); rwa [World.size_alloc] at this
  have hK1 : ((W0.alloc (.deferred (some []))).alloc (.loop rec)).heap[W0.heap.size]? = some (.deferred (some [])) := (Below.heap_alloc _ _ _ (by simp)).trans (World.alloc_heap_new W0 _)
  have hr1 := hr0.fr0 F1
  have hT1 : TkAt b m w.heap.size (W0.heap.size + 1) W0.heap.size (w.heap.size + 1) rec w [] ((W0.alloc (.deferred (some []))).alloc (.loop rec)) :=
    ⟨⟨_, hB0.fr F1 (by simp), OwnR.nil _, by simp [Value.ownBlock]⟩, hL1, hK1, hX0.fr F1 (by simp), (F0.trans F1).mono (by simp)⟩
  have hbl : w.heap.size < W0.heap.size := hB0.lt
  have hxl : w.heap.size + 1 < W0.heap.size := hX0.lt
  refine (callsIn_wide.2 (ready1_any b m w.heap.size (W0.heap.size + 1) W0.heap.size (w.heap.size + 1) rec w ?_ c _ hr1 hT1)).mono ?_
  · -- ONE ROUND
    clear hr1 hT1 hL1 hK1 F1 hr0 h
    intro out u W hT hu hu8 hout
    obtain ⟨i0, z, TR⟩ := etR
    have hy := run_yield (P := Tryz.prog) (args := #[u.val]) hT.L (by rw [hrec]; rfl)
    refine ⟨_, _, _, _, hy, ?_⟩
    clear hy
    refine roundIn_of_wpIn trivial ?_
    rw [congrArg Loop.assign hrec, congrArg Loop.body hrec, congrArg Loop.tmps hrec, congrArg Loop.params hrec]
    have HREC := Lib.hid hrec
    clear hrec
    obtain ⟨vv, hB, ⟨us, hown, hus, hcs⟩, hvg⟩ := hT.res
    have hL := hT.L
    have hK := hT.K
    have hX := hT.x
    have hfr := hT.fr
    have hz0 := F0.size
    have hzw := hfr.size
    have HCS := Lib.hid hcs
    have HUS := Lib.hid hus
    clear hT hcs hus
    dsimp only
    gi_wp2
    have f2 : Fr [] W (W.alloc (.cells #[.int .i64 u.r.p, .slice u.A u.r.cs.length u.cap] 44)) := (Fr.refl _ _).alloc _
    have hN2 := Blk.new W 44 #[.int .i64 u.r.p, .slice u.A u.r.cs.length u.cap]
    have hL2 : (W.alloc (.cells #[.int .i64 u.r.p, .slice u.A u.r.cs.length u.cap] 44)).heap[W0.heap.size + 1]? = some (.loop rec) := (f2.block _ (Array.getElem?_eq_some_iff.1 hL).1 (by simp)).trans hL
    have hlL := (Array.getElem?_eq_some_iff.1 hL).1
    have hlK := (Array.getElem?_eq_some_iff.1 hK).1
    have hlB := hB.lt
    have hrs : rec.state = .ready := by rw [HREC.out]
    refine ⟨_, run_beginRound hL2 hrs, ?_⟩
    have f3 : Fr [W0.heap.size + 1] W ((W.alloc (.cells #[.int .i64 u.r.p, .slice u.A u.r.cs.length u.cap] 44)).putObj (W0.heap.size + 1) (.loop { rec with state := .busy })) := putObj_fr (f2.mono (by simp)) (.inl (by simp)) _
    have hL3 : ((W.alloc (.cells #[.int .i64 u.r.p, .slice u.A u.r.cs.length u.cap] 44)).putObj (W0.heap.size + 1) (.loop { rec with state := .busy })).heap[W0.heap.size + 1]? = some (.loop { rec with state := .busy }) := World.putObj_heap_same (by simp; omega)
    have hN3 : Blk ((W.alloc (.cells #[.int .i64 u.r.p, .slice u.A u.r.cs.length u.cap] 44)).putObj (W0.heap.size + 1) (.loop { rec with state := .busy })) W.heap.size 44 #[.int .i64 u.r.p, .slice u.A u.r.cs.length u.cap] := (World.putObj_heap_other (show W.heap.size ≠ W0.heap.size + 1 by omega)).trans hN2
    have hz3 : ((W.alloc (.cells #[.int .i64 u.r.p, .slice u.A u.r.cs.length u.cap] 44)).putObj (W0.heap.size + 1) (.loop { rec with state := .busy })).heap.size = W.heap.size + 1 := by simp
    generalize (W.alloc (.cells #[.int .i64 u.r.p, .slice u.A u.r.cs.length u.cap] 44)).putObj (W0.heap.size + 1) (.loop { rec with state := .busy }) = W3 at *
    clear hN2 hL2 f2
    have HZ3 := Lib.hid hz3
    clear hz3
    -- the row's block
    have hgl : ∀ g, vv.ownBlock = some g → g ≠ W0.heap.size + 1 ∧ g ≠ W0.heap.size ∧ g < W.heap.size := by
      intro g hg
      rcases hown.2 with ⟨e, _⟩ | ⟨g', cap2, cur, e, _, hh, _⟩
      · rw [e] at hg; simp [Value.ownBlock] at hg
      · rw [e] at hg
        simp [Value.ownBlock] at hg
        subst hg
        refine ⟨?_, ?_, (Array.getElem?_eq_some_iff.1 hh).1⟩
        · rintro rfl; rw [hL] at hh; cases hh
        · rintro rfl; rw [hK] at hh; cases hh
    have hB3 := hB.fr f3 (by simp; omega)
    have hown3 : OwnL 44 2 WRec.cells W3 vv us := hown.fr f3 (fun g hg => by simpa using (hgl g hg).1)
    have hown4 := hown3.fr (S := []) ((Fr.refl _ _).alloc (.cells #[.int .i64 u.r.p, .slice u.A u.r.cs.length u.cap] 44)) (by simp)
    have hc0 := hB3.cell 0
    have hn0 := hN3.cell 0
    have hn1 := hN3.cell 1
    have hlen : us.length = out.length := by rw [← HUS.out]; simp
    have HLEN := Lib.hid hlen
    clear hlen
    have hub : us.length ≤ 255 := by rw [HLEN.out]; exact hout
    gi_wp2_with (gi_at_builtin; refine wpListIn_appendL rfl _ _ rfl TR WRec.len WRec.one rfl hown4 (W3.heap.size + 1) _ _ _ [u] rfl rfl (reads_new (enc := WRec.cells) W3 44 u rfl) (by simp only [maxLen, List.length_singleton]; omega) (by simp only [List.length_singleton]; omega) ?_; intro v5 w5 hown5 hg5 hat5; have f5 : Fr (vv.ownBlock.toList) W3 w5 := ((Fr.refl _ _).alloc _).grown hg5 (fun g hg => .inl (Option.mem_toList.2 hg)); have hB5 := hB3.fr f5 (fun hm => hown3.ne hB3 (by decide) (Option.mem_toList.1 hm) rfl); have hb5 := hB5.cell 0; have hz5 := hB5.frozen 0; obtain ⟨A5, cap5, hv5⟩ := hown5.val; obtain ⟨n5, hn5⟩ : ∃ n5, n5 = (us ++ [u]).length := ⟨_, rfl⟩; rw [← hn5] at hv5; have HN5 := Lib.hid hn5; clear hn5; subst hv5)
    have hL5 : w5.heap[W0.heap.size + 1]? = some (.loop { rec with state := .busy }) := (f5.block _ (Array.getElem?_eq_some_iff.1 hL3).1 (fun hm => (hgl _ (Option.mem_toList.1 hm)).1 rfl)).trans hL3
    have hL6 : (w5.setCell ⟨w.heap.size, 0, none⟩ (.slice A5 n5 cap5)).heap[W0.heap.size + 1]? = some (.loop { rec with state := .busy }) := (Below.heap_setCell w5 _ _ _ (show W0.heap.size + 1 ≠ w.heap.size by omega)).trans hL5
    have hend := run_endRound (P := Tryz.prog) none hL6
    have hrec : ({ ({ rec with state := .busy } : Loop) with state := if (none : Option Code).isNone = true then .ready else .done, pending := none } : Loop) = rec := by rw [HREC.out]; rfl
    rw [hrec] at hend
    refine ⟨_, _, hend, rfl, ?_⟩
    have f6 : Fr ((W0.heap.size + 1) :: w.heap.size :: vv.ownBlock.toList) W ((w5.setCell ⟨w.heap.size, 0, none⟩ (.slice A5 n5 cap5)).putObj (W0.heap.size + 1) (.loop rec)) :=
      putObj_fr (((f3.mono (by simp)).trans (f5.mono (by intro i hi; left; simp [hi]))).setCell (.inl (by simp)) _) (.inl (by simp)) _
    have n6 : NoC W ((W0.heap.size + 1) :: w.heap.size :: vv.ownBlock.toList) := NoC.cons (fun arr fz e => by rw [hL] at e; cases e) (NoC.cons (noC_blk hB (by decide)) (fun s hs arr fz e => by
      have hb : Blk W s 65 arr ∨ ∃ fz, W.heap[s]? = some (.cells arr 65 fz) := .inr ⟨fz, e⟩
      rcases hown.2 with ⟨e1, _⟩ | ⟨g', cap2, cur, e1, _, hh, _⟩
      · rw [e1] at hs; simp [Value.ownBlock] at hs
      · rw [e1] at hs
        simp [Value.ownBlock] at hs
        subst hs
        rw [hh] at e
        cases e))
    have hkeep : ∀ c', RcvAt W b m c' → RcvAt ((w5.setCell ⟨w.heap.size, 0, none⟩ (.slice A5 n5 cap5)).putObj (W0.heap.size + 1) (.loop rec)) b m c' := by
      intro c' hc'
      have hap : ∀ g, vv.ownBlock = some g → g ∉ [b, m] := OwnR.apart ⟨us, hown, HUS.out, HCS.out⟩ hc'
      obtain ⟨M', hm', _⟩ := hc'.map
      refine hc'.fr f6 ?_ ?_ n6
      · simp only [List.mem_cons, not_or]
        refine ⟨fun e => ?_, (hc'.blk.ne hB (by decide)), fun hm => hap _ (Option.mem_toList.1 hm) (by simp)⟩
        have := hc'.blk
        unfold Blk at this
        rw [e, hL] at this
        cases this
      · simp only [List.mem_cons, not_or]
        refine ⟨fun e => ?_, hm'.ne hB, fun hm => hap _ (Option.mem_toList.1 hm) (by simp)⟩
        obtain ⟨es, cl, he, _⟩ := hm'
        rw [e, hL] at he
        cases he
    refine ⟨?_, hkeep⟩
    have f7 : Fr [W0.heap.size + 1, w.heap.size] w5 ((w5.setCell ⟨w.heap.size, 0, none⟩ (.slice A5 n5 cap5)).putObj (W0.heap.size + 1) (.loop rec)) := putObj_fr ((Fr.refl _ _).setCell (.inl (by simp)) _) (.inl (by simp)) _
    have hg5' : ∀ g, (Value.slice A5 n5 cap5).ownBlock = some g → w.heap.size ≤ g ∧ g ≠ W0.heap.size + 1 := by
      intro g hg
      rcases hat5 with h1 | h1
      · rw [h1] at hg
        exact ⟨hvg g hg, (hgl g hg).1⟩
      · rw [h1] at hg
        have := HZ3.out
        simp at hg
        omega
    refine ⟨⟨_, ?_, ⟨us ++ [u], hown5.fr f7 (fun g hg => ?_), by rw [List.map_append, HUS.out]; rfl, fun x hx => ?_⟩, fun g hg => (hg5' g hg).1⟩, World.putObj_heap_same (by have := (Array.getElem?_eq_some_iff.1 hL6).1; exact this), ?_, ?_, hfr.trans' f6 ?_⟩
    · have := hB5.set_ 0 (.slice A5 n5 cap5)
      exact (World.putObj_heap_other (show w.heap.size ≠ W0.heap.size + 1 by omega)).trans this
    · simp only [List.mem_cons, List.not_mem_nil, or_false, not_or]
      exact ⟨(hg5' g hg).2, hown5.ne hB5 (by decide) hg⟩
    · rcases List.mem_append.1 hx with hx | hx
      · exact ⟨(HCS.out x hx).1.fr f6 n6, (HCS.out x hx).2⟩
      · obtain rfl : x = u := by simpa using hx
        exact ⟨hu.fr f6 n6, hu8⟩
    · refine (f6.block _ hlK ?_).trans hK
      simp only [List.mem_cons, not_or]
      exact ⟨by omega, by omega, fun hm => (hgl _ (Option.mem_toList.1 hm)).2.1 rfl⟩
    · refine hX.fr f6 ?_
      simp only [List.mem_cons, not_or]
      refine ⟨by omega, by omega, fun hm => hown.ne hX (by decide) (Option.mem_toList.1 hm) rfl⟩
    · intro i hi
      right
      simp only [List.mem_cons] at hi
      rcases hi with rfl | rfl | hi
      · omega
      · omega
      · exact hvg i (Option.mem_toList.1 hi)
  · -- BEHIND THE LOOP
    rintro e W2 ⟨⟨v, rfl⟩, hT2, hr2⟩
    have hend := run_endLoop (P := Tryz.prog) hT2.L (by rw [hrec]; simp)
    obtain ⟨v', hB2, hv2, _⟩ := hT2.res
    have F2 : Fr [b, m] w (W2.putObj (W0.heap.size + 1) (.loop { rec with state := .exhausted })) := putObj_fr hT2.fr (.inr (by have := F0.size; omega)) _
    obtain ⟨hlb, hlm⟩ := h.lt
    have hz0 := F0.size
    have hl2 : (W0.heap.size + 1) ∉ [b, m] := by simp; omega
    have f3 : Fr [W0.heap.size + 1] W2 (W2.putObj (W0.heap.size + 1) (.loop { rec with state := .exhausted })) := putObj_fr (Fr.refl _ _) (.inl (by simp)) _
    have n3 : NoC W2 [W0.heap.size + 1] := NoC.cons (fun arr fz e => by rw [hT2.L] at e; cases e) NoC.nil
    have hr3 := hr2.fr f3 (by simp; omega) (by simp; omega) n3
    have hB3 := hB2.fr f3 (by simp; omega)
    have hv3 : OwnR (W2.putObj (W0.heap.size + 1) (.loop { rec with state := .exhausted })) v' (Gm.take c.L.length c).1 := hv2.fr f3 (fun g hg hm => by
      obtain ⟨us, h1, _⟩ := hv2
      obtain rfl : g = W0.heap.size + 1 := by simpa using hm
      rcases h1.2 with ⟨rfl, _⟩ | ⟨g', cap, cur, rfl, _, hh, _⟩
      · simp [Value.ownBlock] at hg
      · simp [Value.ownBlock] at hg
        subst hg
        rw [hT2.L] at hh
        cases hh) n3
    have hK3 : (W2.putObj (W0.heap.size + 1) (.loop { rec with state := .exhausted })).heap[W0.heap.size]? = some (.deferred (some [])) := (World.putObj_heap_other (by omega)).trans hT2.K
    have hpe : rec.pending = none := by rw [hrec]
    refine ⟨none, W2.putObj (W0.heap.size + 1) (.loop { rec with state := .exhausted }), by rw [hend, hpe], ?_⟩
    clear hend
    generalize W2.putObj (W0.heap.size + 1) (.loop { rec with state := .exhausted }) = W3 at *
    obtain ⟨A', cap', hv'⟩ : ∃ A' cap', v' = .slice A' (Gm.take c.L.length c).1.length cap' := by
      obtain ⟨us, h1, h2, _⟩ := hv3
      obtain ⟨A', cap', h3⟩ := h1.val
      exact ⟨A', cap', by rw [h3, ← h2, List.length_map]⟩
    subst hv'
    have hc3 := hB3.cell 0
    have hf3 := hB3.frozen 0
    clear hrec hT2 hB2 hv2 f3 n3 hr2
    dsimp only
    gi_wp2
    have hKs : (W3.setCell ⟨w.heap.size, 0, none⟩ (.slice A' (Gm.take c.L.length c).1.length cap')).heap[W0.heap.size]? = some (.deferred (some [])) := (Below.heap_setCell W3 _ _ _ (show W0.heap.size ≠ w.heap.size by omega)).trans hK3
    refine ⟨by simp, .inl ⟨_, _, rfl, run_takeDeferred hKs, ?_⟩⟩
    have f4 : Fr [w.heap.size, W0.heap.size] W3 ((W3.setCell ⟨w.heap.size, 0, none⟩ (.slice A' (Gm.take c.L.length c).1.length cap')).putObj W0.heap.size (.deferred none)) :=
      putObj_fr ((Fr.refl _ _).setCell (.inl (by simp)) _) (.inl (by simp)) _
    have n4 : NoC W3 [w.heap.size, W0.heap.size] := NoC.cons (noC_blk hB3 (by decide)) (NoC.cons (fun arr fz e => by rw [hK3] at e; cases e) NoC.nil)
    have hr4 := hr3.fr f4 (by simp; omega) (by simp; omega) n4
    have hB4 : Blk ((W3.setCell ⟨w.heap.size, 0, none⟩ (.slice A' (Gm.take c.L.length c).1.length cap')).putObj W0.heap.size (.deferred none)) w.heap.size 26 #[.slice A' (Gm.take c.L.length c).1.length cap'] := by
      have := hB3.set_ 0 (.slice A' (Gm.take c.L.length c).1.length cap')
      exact (World.putObj_heap_other (show w.heap.size ≠ W0.heap.size by omega)).trans this
    have hv4 : OwnR ((W3.setCell ⟨w.heap.size, 0, none⟩ (.slice A' (Gm.take c.L.length c).1.length cap')).putObj W0.heap.size (.deferred none)) (.slice A' (Gm.take c.L.length c).1.length cap') (Gm.take c.L.length c).1 := hv3.fr f4 (fun g hg hm => by
      obtain ⟨us, h1, _⟩ := hv3
      simp only [List.mem_cons, List.not_mem_nil, or_false] at hm
      rcases hm with rfl | rfl
      · exact h1.ne hB3 (by decide) hg rfl
      · rcases h1.2 with ⟨e, _⟩ | ⟨g', cap2, cur, e, _, hh, _⟩
        · rw [e] at hg; simp [Value.ownBlock] at hg
        · rw [e] at hg
          simp [Value.ownBlock] at hg
          subst hg
          rw [hK3] at hh
          cases hh) n4
    have F4 : Fr [b, m] w ((W3.setCell ⟨w.heap.size, 0, none⟩ (.slice A' (Gm.take c.L.length c).1.length cap')).putObj W0.heap.size (.deferred none)) := F2.trans' f4 (by simp; omega)
    generalize (W3.setCell ⟨w.heap.size, 0, none⟩ (.slice A' (Gm.take c.L.length c).1.length cap')).putObj W0.heap.size (.deferred none) = W4 at *
    have hc4 := hB4.cell 0
    refine ⟨_, ?_, _, ⟨rfl, hv4⟩, hr4, F4⟩
    simp [results, Tryz.results11, go_sem, hc4]
end Go.Proofs.YthiaaminkfkjpaaGreat
namespace Go.Proofs.YthiaaminkfkjpaaGreat
open Go.RowKit

def encS (x : Int × Int) : List Value := [.int .i64 x.1, .int .i64 x.2]
theorem encS_len (x : Int × Int) : (encS x).length = 2 := rfl
theorem encS_one (x : Int × Int) : ∀ u ∈ encS x, u.oneCell' = true := by
  intro u hu
  simp only [encS, List.mem_cons, List.not_mem_nil, or_false] at hu
  rcases hu with rfl | rfl <;> rfl
theorem etS : ∃ i z, ET Tryz.prog 53 58 2 16 i z := by
  have h : (Tryz.prog.info? 58).map (fun i => (i.zero, i.size, i.bytes)) = some (some (.agg #[.int .i64 0, .int .i64 0]), 2, 16) := by kernel_rfl
  obtain ⟨i0, hi, hz0, hz1, hz2⟩ := info_parts h
  exact ⟨i0, _, Tryz.underlying53, hi, hz0, hz1, hz2, rfl, by decide⟩

theorem Gm.widen_len (l : List (Int × Int)) (p : Int) : (Gm.widen l p).length ≤ l.length + 1 := by
  unfold Gm.widen
  split
  · split
    · simp
    · simp
  · simp
theorem Gm.missing_len (L : List (Int × Rec)) (p : Int) (n : Nat) : (Gm.missing L p n).length ≤ n := by
  induction n with
  | zero => simp [Gm.missing]
  | succ n ih =>
    unfold Gm.missing
    split
    · omega
    · have := Gm.widen_len (Gm.missing L p n) (p + n + 1); omega
theorem Gm.widen_nil (p : Int) : Gm.widen [] p = [(p, p)] := rfl
theorem Gm.widen_touch {l : List (Int × Int)} {p x y : Int} (h0 : 0 < l.length) (h : l[l.length - 1]'(Nat.sub_lt h0 Nat.one_pos) = (x, y)) (ht : y = p - 1) : Gm.widen l p = l.set (l.length - 1) (x, p) := by
  have e : l.getLast? = some (x, y) := by rw [List.getLast?_eq_getElem?, List.getElem?_eq_getElem (Nat.sub_lt h0 Nat.one_pos), h]
  unfold Gm.widen
  rw [e]
  dsimp only
  rw [if_pos ht]
  apply List.ext_getElem
  · simp; omega
  · intro i h1 h2
    rw [List.getElem_set]
    by_cases hi : l.length - 1 = i
    · subst hi
      simp only [if_true]
      rw [List.getElem_append_right (by simp)]
      simp
    · rw [if_neg hi, List.getElem_append_left (by simp at h2 ⊢; omega)]
      simp
theorem Gm.widen_apart {l : List (Int × Int)} {p x y : Int} (h0 : 0 < l.length) (h : l[l.length - 1]'(Nat.sub_lt h0 Nat.one_pos) = (x, y)) (ht : y ≠ p - 1) : Gm.widen l p = l ++ [(p, p)] := by
  have e : l.getLast? = some (x, y) := by rw [List.getLast?_eq_getElem?, List.getElem?_eq_getElem (Nat.sub_lt h0 Nat.one_pos), h]
  unfold Gm.widen
  rw [e]
  dsimp only
  rw [if_neg ht]

/-- A row of another kind is written: the receiver stays. -/
theorem RcvAt.past_row {X : Type} {e size : Nat} {enc : X → List Value} {v : Value} {L : List X} {w w' : World} {b m : Nat} {c : Gm.Rcv} (h : RcvAt w b m c) (hown : OwnL e size enc w v L) (h1 : e ≠ 74) (h2 : e ≠ 65)
    (hf : Fr v.ownBlock.toList w w') : RcvAt w' b m c := by
  obtain ⟨M, hm, _⟩ := h.map
  refine h.fr hf (fun hb => hown.ne h.blk h1 (Option.mem_toList.1 hb) rfl) (fun hb => hown.ne_map hm (Option.mem_toList.1 hb) rfl) (fun s hs arr fz e1 => ?_)
  rcases hown.2 with ⟨e2, _⟩ | ⟨g', cap2, cur, e2, _, hh, _⟩
  · rw [e2] at hs; simp [Value.ownBlock] at hs
  · rw [e2] at hs
    simp [Value.ownBlock] at hs
    subst hs
    rw [hh] at e1
    injection e1 with e1
    injection e1 with _ e1
    exact h2 e1
theorem grown_fr {w w' : World} {row : Option Nat} (h : w.grownBy w' row) : Fr row.toList w w' := (Fr.refl _ _).grown h (fun _ hg => .inl (Option.mem_toList.2 hg))

/-- At the head of each round. -/
structure MissRel (w : World) (b m : Nat) (c : Gm.Rcv) (k : Nat) (v : Value) (wr : World) : Prop where
  rcv : RcvAt wr b m c
  row : OwnL 58 2 encS wr v (Gm.missing c.L c.pos k)
  new : ∀ g, v.ownBlock = some g → w.heap.size ≤ g
  fr : Fr [] w wr
  le : c.pos + k ≤ c.high

theorem missing_nil (w : World) : Calls Tryz.prog 18 #[.pointer none] w fun e w' => e = .returned (.slice none 0 0) ∧ w = w' := by
  go_enter Tryz.func18, Tryz.ntmps18
  go_wp2
  go_ret
  exact ⟨rfl, rfl⟩

theorem missing_any (b m : Nat) (c : Gm.Rcv) (w : World) (h : RcvAt w b m c) : Calls Tryz.prog 18 #[.pointer (some ⟨b, 0, none⟩)] w fun e w' =>
    ∃ v, (e = .returned v ∧ OwnL 58 2 encS w' v (Gm.missing c.L c.pos (c.high - c.pos).toNat)) ∧ Fr [] w w' := by
  obtain ⟨i0, z, TS⟩ := etS
  have R0 : MissRel w b m c 0 (.slice none 0 0) w := ⟨h, OwnL.nil, by simp [Value.ownBlock], Fr.refl _ _, by have := h.ok.ph; simpa using this⟩
  have hp0 := h.ok.p0
  have hph := h.ok.ph
  have hpi := h.ok.hi
  have b0 : w.cell? ⟨b, 0, none⟩ = some (.int .i64 c.pos) := h.blk.cell 0
  clear h
  go_enter Tryz.func18, Tryz.ntmps18
  go_wp2_with fail
  clear b0
  go_loopw [3, 4] (fun o p wr => ∃ k : Nat, p = .int .i64 (c.pos + 1 + k) ∧ MissRel w b m c k o wr) (fun _ p _ => (c.high + 1 - intOf p).toNat)
  case atStart => exact ⟨0, by simp, R0⟩
  case round =>
    clear R0
    obtain ⟨k, rfl, R⟩ := hrel
    obtain ⟨hr, hrow, hnew, hfr, hle⟩ := R
    have b1 : wr.cell? ⟨b, 1, none⟩ = some (.int .i64 c.high) := hr.blk.cell 1
    have b2 : wr.cell? ⟨b, 2, none⟩ = some (.map (some m)) := hr.blk.cell 2
    have hml := Lib.hid (Gm.missing_len c.L c.pos k)
    by_cases hlt : c.pos + 1 + k ≤ c.high
    · obtain ⟨M, hm, hs, hM⟩ := hr.map
      have hkey : okI (c.pos + 1 + k) := okI_mk (by omega) (by omega)
      have hgs : mget c.L (c.pos + 1 + k) = (mget M (c.pos + 1 + k)).map (·.r) := by rw [← hs, mget_shed]
      have hstep : Gm.missing c.L c.pos (k + 1) = if (mget c.L (c.pos + k + 1)).isSome = true then Gm.missing c.L c.pos k else Gm.widen (Gm.missing c.L c.pos k) (c.pos + k + 1) := rfl
      have e1 : c.pos + k + 1 = c.pos + 1 + k := by omega
      rw [e1] at hstep
      clear e1
      cases hg : mget M (c.pos + 1 + k) with
      | some u =>
        rw [hg] at hgs
        have HS : Hid (Gm.missing c.L c.pos (k + 1) = Gm.missing c.L c.pos k) := Lib.hid (by rw [hstep, hgs]; rfl)
        have hval : Hid ((if true then Value.tuple #[((mget M (c.pos + 1 + k)).map WRec.val).getD (.agg #[.int .i64 0, .slice none 0 0]), .bool (mget M (c.pos + 1 + k)).isSome] else ((mget M (c.pos + 1 + k)).map WRec.val).getD (.agg #[.int .i64 0, .slice none 0 0])) = .tuple #[.agg #[.int .i64 u.r.p, .slice u.A u.r.cs.length u.cap], .bool true]) := Lib.hid (by rw [hg]; rfl)
        clear hgs hg hstep
        go_wp2_with (at_lookup; refine wpList_vlook _ rfl _ _ true rfl tyIR m M rfl hm (c.pos + 1 + k) rfl hkey ?_; rw [hval.out])
        have f1 : Fr [] wr (wr.alloc (.cells #[.int .i64 u.r.p, .slice u.A u.r.cs.length u.cap] 44)) := (Fr.refl _ _).alloc _
        go_roundw
        case rel => exact ⟨k + 1, by go_num, hr.fr0 f1, by rw [HS.out]; exact hrow.fr f1 (by simp), hnew, hfr.trans f1, by omega⟩
        case measure => simp [intOf]; omega
      | none =>
        rw [hg] at hgs
        have HS : Hid (Gm.missing c.L c.pos (k + 1) = Gm.widen (Gm.missing c.L c.pos k) (c.pos + 1 + k)) := Lib.hid (by rw [hstep, hgs]; rfl)
        have hval : Hid ((if true then Value.tuple #[((mget M (c.pos + 1 + k)).map WRec.val).getD (.agg #[.int .i64 0, .slice none 0 0]), .bool (mget M (c.pos + 1 + k)).isSome] else ((mget M (c.pos + 1 + k)).map WRec.val).getD (.agg #[.int .i64 0, .slice none 0 0])) = .tuple #[.agg #[.int .i64 0, .slice none 0 0], .bool false]) := Lib.hid (by rw [hg]; rfl)
        clear hgs hg hstep
        have hmlen := hml.out
        generalize Gm.missing c.L c.pos k = l at *
        have f1 : Fr [] wr (wr.alloc (.cells #[.int .i64 0, .slice none 0 0] 44)) := (Fr.refl _ _).alloc _
        have hrow1 := hrow.fr f1 (by simp)
        have hr1 := hr.fr0 f1
        have hrow2 := hrow1.fr (S := []) ((Fr.refl _ _).alloc (.cells #[.int .i64 (c.pos + 1 + k), .int .i64 (c.pos + 1 + k)] 58)) (by simp)
        rcases Nat.eq_zero_or_pos l.length with hl0 | hl0
        · obtain rfl : l = [] := List.eq_nil_of_length_eq_zero hl0
          obtain ⟨A, cap, hv⟩ := hrow.val
          subst hv
          go_wp2_with (first
            | (at_lookup; refine wpList_vlook _ rfl _ _ true rfl tyIR m M rfl hm (c.pos + 1 + k) rfl hkey ?_; rw [hval.out])
            | (at_builtin; refine wpList_appendL rfl _ _ rfl TS encS_len encS_one rfl hrow2 (wr.heap.size + 1 + 1) _ _ _ [(c.pos + 1 + k, c.pos + 1 + k)] rfl rfl (by have := reads_new (enc := encS) (wr.alloc (.cells #[.int .i64 0, .slice none 0 0] 44)) 58 (c.pos + 1 + k, c.pos + 1 + k) rfl; rw [World.size_alloc] at this; exact this) (by simp only [maxLen, List.length_singleton]; omega) (by simp only [List.length_singleton]; omega) ?_; intro v5 w5 hown5 hg5 hat5))
          have f5 := grown_fr hg5
          have f2 : Fr [] wr ((wr.alloc (.cells #[.int .i64 0, .slice none 0 0] 44)).alloc (.cells #[.int .i64 (c.pos + 1 + k), .int .i64 (c.pos + 1 + k)] 58)) := f1.alloc _
          have hr5 := (hr.fr0 f2).past_row hrow2 (by decide) (by decide) f5
          have hfr5 : Fr [] w w5 := (hfr.trans f2).trans' f5 (fun i hi => .inr (hnew i (Option.mem_toList.1 hi)))
          have hnew5 : ∀ g, v5.ownBlock = some g → w.heap.size ≤ g := fun g hg => by
            rcases hat5 with h1 | h1
            · rw [h1] at hg; exact hnew g hg
            · rw [h1] at hg
              have := (hfr.trans f2).size
              injection hg with hg
              omega
          rw [List.nil_append] at hown5
          go_roundw
          case rel => exact ⟨k + 1, by go_num, hr5, by rw [HS.out]; exact hown5, hnew5, hfr5, by omega⟩
          case measure => simp [intOf]; omega
        · obtain ⟨g, cap, hv, hcap, hcm, hgl, hcell, hfz⟩ := hrow.form encS_len hl0
          subst hv
          have h0 : wr.cell? ⟨g, (l.length - 1) * 2 + 1, none⟩ = some (.int .i64 (l[l.length - 1]'(Nat.sub_lt hl0 Nat.one_pos)).2) := hcell (l.length - 1) (Nat.sub_lt hl0 Nat.one_pos) 1 (by decide)
          have hz := hfz ((l.length - 1) * 2 + 1)
          obtain ⟨x, y, hxy⟩ : ∃ x y, l[l.length - 1]'(Nat.sub_lt hl0 Nat.one_pos) = (x, y) := ⟨_, _, rfl⟩
          rw [hxy] at h0
          have HXY := Lib.hid hxy
          clear hxy hcell hfz
          have hpos : (0 : Int) < l.length := by omega
          by_cases ht : y = c.pos + 1 + k - 1
          · have HW : Hid (Gm.widen l (c.pos + 1 + k) = l.set (l.length - 1) (x, c.pos + 1 + k)) := Lib.hid (Gm.widen_touch hl0 HXY.out ht)
            have hd : (y == c.pos + 1 + k - 1) = true := by simpa using ht
            have HT := Lib.hid ht
            clear ht
            go_wp2_with (first
              | (at_lookup; refine wpList_vlook _ rfl _ _ true rfl tyIR m M rfl hm (c.pos + 1 + k) rfl hkey ?_; rw [hval.out]))
            have hset := hrow.set (g := g) (i := l.length - 1) (j := 1) encS_len rfl (Nat.sub_lt hl0 Nat.one_pos) (by decide) (.int .i64 (c.pos + 1 + k)) (x, c.pos + 1 + k) (by rw [HXY.out]; rfl)
            have f4 : Fr (Value.slice (some ⟨g, 0, none⟩) l.length cap).ownBlock.toList wr (wr.setCell ⟨g, (l.length - 1) * 2 + 1, none⟩ (.int .i64 (c.pos + 1 + k))) := (Fr.refl _ _).setCell (.inl (by simp [Value.ownBlock])) _
            have f5 : Fr [] (wr.setCell ⟨g, (l.length - 1) * 2 + 1, none⟩ (.int .i64 (c.pos + 1 + k))) ((wr.setCell ⟨g, (l.length - 1) * 2 + 1, none⟩ (.int .i64 (c.pos + 1 + k))).alloc (.cells #[.int .i64 0, .slice none 0 0] 44)) := (Fr.refl _ _).alloc _
            have hr5 := (hr.past_row hrow (by decide) (by decide) f4).fr0 f5
            have hfr5 := (hfr.trans' f4 (fun i hi => .inr (hnew i (Option.mem_toList.1 hi)))).trans f5
            replace hset := hset.fr f5 (by simp)
            go_roundw
            case rel => exact ⟨k + 1, by go_num, hr5, by rw [HS.out, HW.out]; simpa [OwnL] using hset, hnew, hfr5, by omega⟩
            case measure => simp [intOf]; omega
          · have HW : Hid (Gm.widen l (c.pos + 1 + k) = l ++ [(c.pos + 1 + k, c.pos + 1 + k)]) := Lib.hid (Gm.widen_apart hl0 HXY.out ht)
            have hd : (y == c.pos + 1 + k - 1) = false := by simpa using ht
            have HT := Lib.hid ht
            clear ht
            go_wp2_with (first
              | (at_lookup; refine wpList_vlook _ rfl _ _ true rfl tyIR m M rfl hm (c.pos + 1 + k) rfl hkey ?_; rw [hval.out])
              | (at_builtin; refine wpList_appendL rfl _ _ rfl TS encS_len encS_one rfl hrow2 (wr.heap.size + 1 + 1) _ _ _ [(c.pos + 1 + k, c.pos + 1 + k)] rfl rfl (by have := reads_new (enc := encS) (wr.alloc (.cells #[.int .i64 0, .slice none 0 0] 44)) 58 (c.pos + 1 + k, c.pos + 1 + k) rfl; rw [World.size_alloc] at this; exact this) (by simp only [maxLen, List.length_singleton]; omega) (by simp only [List.length_singleton]; omega) ?_; intro v5 w5 hown5 hg5 hat5))
            have f5 := grown_fr hg5
            have f2 : Fr [] wr ((wr.alloc (.cells #[.int .i64 0, .slice none 0 0] 44)).alloc (.cells #[.int .i64 (c.pos + 1 + k), .int .i64 (c.pos + 1 + k)] 58)) := f1.alloc _
            have hr5 := (hr.fr0 f2).past_row hrow2 (by decide) (by decide) f5
            have hfr5 : Fr [] w w5 := (hfr.trans f2).trans' f5 (fun i hi => .inr (hnew i (Option.mem_toList.1 hi)))
            have hnew5 : ∀ g, v5.ownBlock = some g → w.heap.size ≤ g := fun g hg => by
              rcases hat5 with h1 | h1
              · rw [h1] at hg; exact hnew g hg
              · rw [h1] at hg
                have := (hfr.trans f2).size
                injection hg with hg
                omega
            go_roundw
            case rel => exact ⟨k + 1, by go_num, hr5, by rw [HS.out, HW.out]; exact hown5, hnew5, hfr5, by omega⟩
            case measure => simp [intOf]; omega
    · have hk : Hid ((c.high - c.pos).toNat = k) := Lib.hid (by omega)
      go_wp2_with fail
      go_ret
      rw [hk.out]
      exact ⟨⟨_, rfl, hrow⟩, hfr⟩
end Go.Proofs.YthiaaminkfkjpaaGreat
namespace Go.Proofs.YthiaaminkfkjpaaGreat
open Go.RowKit

theorem highest_nil (w : World) : Calls Tryz.prog 19 #[.pointer none] w fun e w' => e = .returned (.int .i64 0) ∧ w = w' := by
  go_enter Tryz.func19, Tryz.ntmps19
  go_wp2
  go_ret
  exact ⟨rfl, rfl⟩
theorem highest_any (b m : Nat) (c : Gm.Rcv) (w : World) (h : RcvAt w b m c) : Calls Tryz.prog 19 #[.pointer (some ⟨b, 0, none⟩)] w fun e w' => e = .returned (.int .i64 c.high) ∧ w = w' := by
  have h1 : w.cell? ⟨b, 1, none⟩ = some (.int .i64 c.high) := h.blk.cell 1
  go_enter Tryz.func19, Tryz.ntmps19
  go_wp2
  go_ret
  exact ⟨rfl, rfl⟩
theorem announce_nil (p : Int) (w : World) : Calls Tryz.prog 20 #[.pointer none, .int .i64 p] w fun e w' => e = .returned (.tuple #[]) ∧ w = w' := by
  go_enter Tryz.func20, Tryz.ntmps20
  go_wp2
  go_end0
  exact ⟨rfl, rfl⟩
theorem greset_nil (p : Int) (w : World) : Calls Tryz.prog 21 #[.pointer none, .int .i64 p] w fun e w' => e = .returned (.tuple #[]) ∧ w = w' := by
  go_enter Tryz.func21, Tryz.ntmps21
  go_wp2
  refine bodyPost_ret (results_none rfl _ _ _) rfl ?_
  exact ⟨rfl, rfl⟩
theorem announce_any (b m : Nat) (c : Gm.Rcv) (p : Int) (w : World) (h : RcvAt w b m c) : Calls Tryz.prog 20 #[.pointer (some ⟨b, 0, none⟩), .int .i64 p] w fun e w' => e = .returned (.tuple #[]) ∧ RcvAt w' b m (Gm.announce c p) ∧ Fr [b, m] w w' := by
  have h1 : w.cell? ⟨b, 1, none⟩ = some (.int .i64 c.high) := h.blk.cell 1
  have f1 : w.frozen? ⟨b, 1, none⟩ = false := h.blk.frozen 1
  by_cases hp : p ≤ 10000
  · have ha := h.ok.announce p
    have hx : Hid (Gm.announce c p = { c with high := Gm.mx c.high p }) := Lib.hid (if_pos hp)
    rw [hx.out] at ha
    have hmx : Hid (Gm.mx c.high p = if c.high < p then p else c.high) := Lib.hid rfl
    by_cases hlt : c.high < p
    · have e1 : Hid (Gm.mx c.high p = p) := Lib.hid (if_pos hlt)
      have hm2 : max c.high p = p := by omega
      go_enter Tryz.func20, Tryz.ntmps20
      go_wp2
      go_end0
      rw [hx.out]
      rw [e1.out] at ha ⊢
      exact ⟨rfl, rcv_setHigh h _ ha, (Fr.refl _ _).setCell (.inl (by simp)) _⟩
    · have e1 : Hid (Gm.mx c.high p = c.high) := Lib.hid (if_neg hlt)
      have hm2 : max c.high p = c.high := by omega
      go_enter Tryz.func20, Tryz.ntmps20
      go_wp2
      go_end0
      rw [hx.out]
      rw [e1.out] at ha ⊢
      exact ⟨rfl, rcv_setHigh h _ ha, (Fr.refl _ _).setCell (.inl (by simp)) _⟩
  · have hx : Hid (Gm.announce c p = c) := Lib.hid (if_neg hp)
    go_enter Tryz.func20, Tryz.ntmps20
    go_wp2
    go_end0
    rw [hx.out]
    exact ⟨rfl, h, Fr.refl _ _⟩
end Go.Proofs.YthiaaminkfkjpaaGreat

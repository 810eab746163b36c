/-
  'Take': a range over the iterator.
-/
import Derived.Test.YtfbhdmppddledaaGapE
import Derived.Test.YtfbhdmppddledaaRowIn
import Derived.Shelf.Abstract
namespace Go.Proofs.Ytfbhdmppddledaa
open Go.RowKit
attribute [local go_sem] Oper.semAt_some

theorem etR : ∃ i z, ET Try.prog 25 34 2 32 i z := by
  have h : (Try.prog.info? 34).map (fun i => (i.zero, i.size, i.bytes)) = some (some (.agg #[.int .i64 0, .slice none 0 0]), 2, 32) := by kernel_rfl
  obtain ⟨i0, hi, hz0, hz1, hz2⟩ := info_parts h
  exact ⟨i0, _, Try.underlying25, hi, hz0, hz1, hz2, rfl, by decide⟩

/-- A range over a closure: the loop's record by name. -/
theorem wpIn_range_rec {F : Fence} {n : Nat} {P : Program} {g : Operand} {ps : Array Tmp} {assign body : Code} {Q : Exit → Act → World → Prop} {a : Act} {w : World} (hro : F.round = none) (h1 : 1 ≤ n) {gf : Nat} {lb : Array Value}
    (hg : a.eval g = .func (.func gf) #[] lb) (hF : F.fn gf) (eg : ∀ args w, (callFunc gf args).run P w = .ok (.enter gf args) w)
    (h : ∀ fn, F.fn fn → ∀ rec : Loop, rec = { state := .ready, pending := none, fn, tmps := a.tmps, params := ps, assign, body, defers := w.heap.size } →
      CallsIn F (n - 1) P gf (#[.func (.yield (w.heap.size + 1)) #[] #[]] ++ lb) ((w.alloc (.deferred (some []))).alloc (.loop rec)) (rangePost F n P (w.heap.size + 1) Q { a with defers := { target := .collected w.heap.size, args := #[] } :: a.defers })) :
    (Code.rangeFunc g ps assign body).wpIn F n P Q a w := by
  refine wpIn_rangeFunc ?_
  intro fn hfn
  rw [hro]
  have hent := run_enterLoop_outer (P := P) (w := w) fn a.tmps ps assign body
  have hc := h fn hfn _ rfl
  revert hent hc
  generalize (w.alloc (.deferred (some []))).alloc (.loop { state := .ready, pending := none, fn, tmps := a.tmps, params := ps, assign, body, defers := w.heap.size }) = W1
  intro hent hc
  refine ⟨w.heap.size + 1, [{ target := .collected w.heap.size, args := #[] }], W1, { target := .fn (.func gf) lb, args := #[.func (.yield (w.heap.size + 1)) #[] #[]] }, W1, gf,
    #[.func (.yield (w.heap.size + 1)) #[] #[]] ++ lb, W1, hent, ?_, ?_, ?_, fun _ => h1, ?_⟩
  · simp only [resolve, hg]
    simp [go_sem]
  · intro f' hf'; simp [Target.leads] at hf'; subst hf'; exact hF
  · simp [invoke, go_sem, eg]
  · simp only [List.cons_append, List.nil_append]
    exact hc

set_option maxRecDepth 100000 in
theorem take_any (b m : Nat) (c : Gm.Rcv) (w : World) (h : RcvAt w b m c) : Calls Try.prog 10 #[.pointer (some ⟨b, 0, none⟩)] w fun e w' =>
    ∃ v, (e = .returned v ∧ OwnR w' v (Gm.take c.L.length c).1) ∧ RcvAt w' b m (Gm.take c.L.length c).2 ∧ Fr [b, m] w w' := by
  refine (callsIn_wide (n := 6)).1 ?_
  refine callsIn_of_wp_marks Try.func10 rfl trivial ?_ rfl
  simp only [Try.ntmps10, List.size_toArray, List.length_cons, List.length_nil, Nat.reduceAdd, Nat.reduceSub, Array.replicate_succ, Array.replicate_zero, List.push_toArray, List.append_toArray, List.nil_append, List.cons_append]
  gi_wp2
  refine ⟨trivial, ?_⟩
  refine (callsIn_wide.2 (ready_any _ _)).mono ?_
  rintro e w' ⟨rfl, rfl⟩
  gi_wp2
  have F0 : Fr [] w ((w.alloc (.cells #[.slice none 0 0] 25)).alloc (.cells #[.pointer (some ⟨b, 0, none⟩)] 27)) := ((Fr.refl _ _).alloc _).alloc _
  have hB0 := (Blk.new w 25 #[.slice none 0 0]).alloc (.cells #[.pointer (some ⟨b, 0, none⟩)] 27)
  have hX0 := Blk.new (w.alloc (.cells #[.slice none 0 0] 25)) 27 #[.pointer (some ⟨b, 0, none⟩)]
  rw [World.size_alloc] at hX0
  have hr0 := h.fr0 F0
  generalize ((w.alloc (.cells #[.slice none 0 0] 25)).alloc (.cells #[.pointer (some ⟨b, 0, none⟩)] 27)) = W0 at *
  refine wpIn_range_rec rfl (by omega) (gf := 42) (lb := #[.pointer (some ⟨w.heap.size + 1, 0, none⟩)]) rfl trivial (enters_of Try.func42 (by kernel_rfl) rfl) ?_
  intro fn hfn rec hrec
  have F1 : Fr [] W0 ((W0.alloc (.deferred (some []))).alloc (.loop rec)) := ((Fr.refl _ _).alloc _).alloc _
  have hL1 : ((W0.alloc (.deferred (some []))).alloc (.loop rec)).heap[W0.heap.size + 1]? = some (.loop rec) := by
    have := World.alloc_heap_new (W0.alloc (.deferred (some []))) (.loop rec); rwa [World.size_alloc] at this
  have hK1 : ((W0.alloc (.deferred (some []))).alloc (.loop rec)).heap[W0.heap.size]? = some (.deferred (some [])) := (Below.heap_alloc _ _ _ (by simp)).trans (World.alloc_heap_new W0 _)
  have hr1 := hr0.fr0 F1
  have hT1 : TkAt b m w.heap.size (W0.heap.size + 1) W0.heap.size (w.heap.size + 1) rec w [] ((W0.alloc (.deferred (some []))).alloc (.loop rec)) :=
    ⟨⟨_, hB0.fr F1 (by simp), OwnR.nil _, by simp [Value.ownBlock]⟩, hL1, hK1, hX0.fr F1 (by simp), (F0.trans F1).mono (by simp)⟩
  have hbl : w.heap.size < W0.heap.size := hB0.lt
  have hxl : w.heap.size + 1 < W0.heap.size := hX0.lt
  refine (callsIn_wide.2 (ready1_any b m w.heap.size (W0.heap.size + 1) W0.heap.size (w.heap.size + 1) rec w ?_ c _ hr1 hT1)).mono ?_
  · -- ONE ROUND
    clear hr1 hT1 hL1 hK1 F1 hr0 h
    intro out u W hT hu hu8 hout
    obtain ⟨i0, z, TR⟩ := etR
    have hy := run_yield (P := Try.prog) (args := #[u.val]) hT.L (by rw [hrec]; rfl)
    refine ⟨_, _, _, _, hy, ?_⟩
    clear hy
    refine roundIn_of_wpIn trivial ?_
    rw [congrArg Loop.assign hrec, congrArg Loop.body hrec, congrArg Loop.tmps hrec, congrArg Loop.params hrec]
    have HREC := Lib.hid hrec
    clear hrec
    obtain ⟨vv, hB, ⟨us, hown, hus, hcs⟩, hvg⟩ := hT.res
    have hL := hT.L
    have hK := hT.K
    have hX := hT.x
    have hfr := hT.fr
    have hz0 := F0.size
    have hzw := hfr.size
    have HCS := Lib.hid hcs
    have HUS := Lib.hid hus
    clear hT hcs hus
    dsimp only
    gi_wp2
    have f2 : Fr [] W (W.alloc (.cells #[.int .i64 u.r.p, .slice u.A u.r.cs.length u.cap] 34)) := (Fr.refl _ _).alloc _
    have hN2 := Blk.new W 34 #[.int .i64 u.r.p, .slice u.A u.r.cs.length u.cap]
    have hL2 : (W.alloc (.cells #[.int .i64 u.r.p, .slice u.A u.r.cs.length u.cap] 34)).heap[W0.heap.size + 1]? = some (.loop rec) := (f2.block _ (Array.getElem?_eq_some_iff.1 hL).1 (by simp)).trans hL
    have hlL := (Array.getElem?_eq_some_iff.1 hL).1
    have hlK := (Array.getElem?_eq_some_iff.1 hK).1
    have hlB := hB.lt
    have hrs : rec.state = .ready := by rw [HREC.out]
    refine ⟨_, run_beginRound hL2 hrs, ?_⟩
    have f3 : Fr [W0.heap.size + 1] W ((W.alloc (.cells #[.int .i64 u.r.p, .slice u.A u.r.cs.length u.cap] 34)).putObj (W0.heap.size + 1) (.loop { rec with state := .busy })) := putObj_fr (f2.mono (by simp)) (.inl (by simp)) _
    have hL3 : ((W.alloc (.cells #[.int .i64 u.r.p, .slice u.A u.r.cs.length u.cap] 34)).putObj (W0.heap.size + 1) (.loop { rec with state := .busy })).heap[W0.heap.size + 1]? = some (.loop { rec with state := .busy }) := World.putObj_heap_same (by simp; omega)
    have hN3 : Blk ((W.alloc (.cells #[.int .i64 u.r.p, .slice u.A u.r.cs.length u.cap] 34)).putObj (W0.heap.size + 1) (.loop { rec with state := .busy })) W.heap.size 34 #[.int .i64 u.r.p, .slice u.A u.r.cs.length u.cap] := (World.putObj_heap_other (show W.heap.size ≠ W0.heap.size + 1 by omega)).trans hN2
    have hz3 : ((W.alloc (.cells #[.int .i64 u.r.p, .slice u.A u.r.cs.length u.cap] 34)).putObj (W0.heap.size + 1) (.loop { rec with state := .busy })).heap.size = W.heap.size + 1 := by simp
    generalize (W.alloc (.cells #[.int .i64 u.r.p, .slice u.A u.r.cs.length u.cap] 34)).putObj (W0.heap.size + 1) (.loop { rec with state := .busy }) = W3 at *
    clear hN2 hL2 f2
    have HZ3 := Lib.hid hz3
    clear hz3
    -- the row's block
    have hgl : ∀ g, vv.ownBlock = some g → g ≠ W0.heap.size + 1 ∧ g ≠ W0.heap.size ∧ g < W.heap.size := by
      intro g hg
      rcases hown.2 with ⟨e, _⟩ | ⟨g', cap2, cur, e, _, hh, _⟩
      · rw [e] at hg; simp [Value.ownBlock] at hg
      · rw [e] at hg
        simp [Value.ownBlock] at hg
        subst hg
        refine ⟨?_, ?_, (Array.getElem?_eq_some_iff.1 hh).1⟩
        · rintro rfl; rw [hL] at hh; cases hh
        · rintro rfl; rw [hK] at hh; cases hh
    have hB3 := hB.fr f3 (by simp; omega)
    have hown3 : OwnL 34 2 WRec.cells W3 vv us := hown.fr f3 (fun g hg => by simpa using (hgl g hg).1)
    have hown4 := hown3.fr (S := []) ((Fr.refl _ _).alloc (.cells #[.int .i64 u.r.p, .slice u.A u.r.cs.length u.cap] 34)) (by simp)
    have hc0 := hB3.cell 0
    have hn0 := hN3.cell 0
    have hn1 := hN3.cell 1
    have hlen : us.length = out.length := by rw [← HUS.out]; simp
    have HLEN := Lib.hid hlen
    clear hlen
    have hub : us.length ≤ 255 := by rw [HLEN.out]; exact hout
    gi_wp2_with (gi_at_builtin; refine wpListIn_appendL rfl _ _ rfl TR WRec.len WRec.one rfl hown4 (W3.heap.size + 1) _ _ _ [u] rfl rfl (reads_new (enc := WRec.cells) W3 34 u rfl) (by simp only [maxLen, List.length_singleton]; omega) (by simp only [List.length_singleton]; omega) ?_; intro v5 w5 hown5 hg5 hat5; have f5 : Fr (vv.ownBlock.toList) W3 w5 := ((Fr.refl _ _).alloc _).grown hg5 (fun g hg => .inl (Option.mem_toList.2 hg)); have hB5 := hB3.fr f5 (fun hm => hown3.ne hB3 (by decide) (Option.mem_toList.1 hm) rfl); have hb5 := hB5.cell 0; have hz5 := hB5.frozen 0; obtain ⟨A5, cap5, hv5⟩ := hown5.val; obtain ⟨n5, hn5⟩ : ∃ n5, n5 = (us ++ [u]).length := ⟨_, rfl⟩; rw [← hn5] at hv5; have HN5 := Lib.hid hn5; clear hn5; subst hv5)
    have hL5 : w5.heap[W0.heap.size + 1]? = some (.loop { rec with state := .busy }) := (f5.block _ (Array.getElem?_eq_some_iff.1 hL3).1 (fun hm => (hgl _ (Option.mem_toList.1 hm)).1 rfl)).trans hL3
    have hL6 : (w5.setCell ⟨w.heap.size, 0, none⟩ (.slice A5 n5 cap5)).heap[W0.heap.size + 1]? = some (.loop { rec with state := .busy }) := (Below.heap_setCell w5 _ _ _ (show W0.heap.size + 1 ≠ w.heap.size by omega)).trans hL5
    have hend := run_endRound (P := Try.prog) none hL6
    have hrec : ({ ({ rec with state := .busy } : Loop) with state := if (none : Option Code).isNone = true then .ready else .done, pending := none } : Loop) = rec := by rw [HREC.out]; rfl
    rw [hrec] at hend
    refine ⟨_, _, hend, rfl, ?_⟩
    have f6 : Fr ((W0.heap.size + 1) :: w.heap.size :: vv.ownBlock.toList) W ((w5.setCell ⟨w.heap.size, 0, none⟩ (.slice A5 n5 cap5)).putObj (W0.heap.size + 1) (.loop rec)) :=
      putObj_fr (((f3.mono (by simp)).trans (f5.mono (by intro i hi; left; simp [hi]))).setCell (.inl (by simp)) _) (.inl (by simp)) _
    have n6 : NoC W ((W0.heap.size + 1) :: w.heap.size :: vv.ownBlock.toList) := NoC.cons (fun arr fz e => by rw [hL] at e; cases e) (NoC.cons (noC_blk hB (by decide)) (fun s hs arr fz e => by
      have hb : Blk W s 59 arr ∨ ∃ fz, W.heap[s]? = some (.cells arr 59 fz) := .inr ⟨fz, e⟩
      rcases hown.2 with ⟨e1, _⟩ | ⟨g', cap2, cur, e1, _, hh, _⟩
      · rw [e1] at hs; simp [Value.ownBlock] at hs
      · rw [e1] at hs
        simp [Value.ownBlock] at hs
        subst hs
        rw [hh] at e
        cases e))
    have hkeep : ∀ c', RcvAt W b m c' → RcvAt ((w5.setCell ⟨w.heap.size, 0, none⟩ (.slice A5 n5 cap5)).putObj (W0.heap.size + 1) (.loop rec)) b m c' := by
      intro c' hc'
      have hap : ∀ g, vv.ownBlock = some g → g ∉ [b, m] := OwnR.apart ⟨us, hown, HUS.out, HCS.out⟩ hc'
      obtain ⟨M', hm', _⟩ := hc'.map
      refine hc'.fr f6 ?_ ?_ n6
      · simp only [List.mem_cons, not_or]
        refine ⟨fun e => ?_, (hc'.blk.ne hB (by decide)), fun hm => hap _ (Option.mem_toList.1 hm) (by simp)⟩
        have := hc'.blk
        unfold Blk at this
        rw [e, hL] at this
        cases this
      · simp only [List.mem_cons, not_or]
        refine ⟨fun e => ?_, hm'.ne hB, fun hm => hap _ (Option.mem_toList.1 hm) (by simp)⟩
        obtain ⟨es, cl, he, _⟩ := hm'
        rw [e, hL] at he
        cases he
    refine ⟨?_, hkeep⟩
    have f7 : Fr [W0.heap.size + 1, w.heap.size] w5 ((w5.setCell ⟨w.heap.size, 0, none⟩ (.slice A5 n5 cap5)).putObj (W0.heap.size + 1) (.loop rec)) := putObj_fr ((Fr.refl _ _).setCell (.inl (by simp)) _) (.inl (by simp)) _
    have hg5' : ∀ g, (Value.slice A5 n5 cap5).ownBlock = some g → w.heap.size ≤ g ∧ g ≠ W0.heap.size + 1 := by
      intro g hg
      rcases hat5 with h1 | h1
      · rw [h1] at hg
        exact ⟨hvg g hg, (hgl g hg).1⟩
      · rw [h1] at hg
        have := HZ3.out
        simp at hg
        omega
    refine ⟨⟨_, ?_, ⟨us ++ [u], hown5.fr f7 (fun g hg => ?_), by rw [List.map_append, HUS.out]; rfl, fun x hx => ?_⟩, fun g hg => (hg5' g hg).1⟩, World.putObj_heap_same (by have := (Array.getElem?_eq_some_iff.1 hL6).1; exact this), ?_, ?_, hfr.trans' f6 ?_⟩
    · have := hB5.set_ 0 (.slice A5 n5 cap5)
      exact (World.putObj_heap_other (show w.heap.size ≠ W0.heap.size + 1 by omega)).trans this
    · simp only [List.mem_cons, List.not_mem_nil, or_false, not_or]
      exact ⟨(hg5' g hg).2, hown5.ne hB5 (by decide) hg⟩
    · rcases List.mem_append.1 hx with hx | hx
      · exact ⟨(HCS.out x hx).1.fr f6 n6, (HCS.out x hx).2⟩
      · obtain rfl : x = u := by simpa using hx
        exact ⟨hu.fr f6 n6, hu8⟩
    · refine (f6.block _ hlK ?_).trans hK
      simp only [List.mem_cons, not_or]
      exact ⟨by omega, by omega, fun hm => (hgl _ (Option.mem_toList.1 hm)).2.1 rfl⟩
    · refine hX.fr f6 ?_
      simp only [List.mem_cons, not_or]
      refine ⟨by omega, by omega, fun hm => hown.ne hX (by decide) (Option.mem_toList.1 hm) rfl⟩
    · intro i hi
      right
      simp only [List.mem_cons] at hi
      rcases hi with rfl | rfl | hi
      · omega
      · omega
      · exact hvg i (Option.mem_toList.1 hi)
  · -- BEHIND THE LOOP
    rintro e W2 ⟨⟨v, rfl⟩, hT2, hr2⟩
    have hend := run_endLoop (P := Try.prog) hT2.L (by rw [hrec]; simp)
    obtain ⟨v', hB2, hv2, _⟩ := hT2.res
    have F2 : Fr [b, m] w (W2.putObj (W0.heap.size + 1) (.loop { rec with state := .exhausted })) := putObj_fr hT2.fr (.inr (by have := F0.size; omega)) _
    obtain ⟨hlb, hlm⟩ := h.lt
    have hz0 := F0.size
    have hl2 : (W0.heap.size + 1) ∉ [b, m] := by simp; omega
    have f3 : Fr [W0.heap.size + 1] W2 (W2.putObj (W0.heap.size + 1) (.loop { rec with state := .exhausted })) := putObj_fr (Fr.refl _ _) (.inl (by simp)) _
    have n3 : NoC W2 [W0.heap.size + 1] := NoC.cons (fun arr fz e => by rw [hT2.L] at e; cases e) NoC.nil
    have hr3 := hr2.fr f3 (by simp; omega) (by simp; omega) n3
    have hB3 := hB2.fr f3 (by simp; omega)
    have hv3 : OwnR (W2.putObj (W0.heap.size + 1) (.loop { rec with state := .exhausted })) v' (Gm.take c.L.length c).1 := hv2.fr f3 (fun g hg hm => by
      obtain ⟨us, h1, _⟩ := hv2
      obtain rfl : g = W0.heap.size + 1 := by simpa using hm
      rcases h1.2 with ⟨rfl, _⟩ | ⟨g', cap, cur, rfl, _, hh, _⟩
      · simp [Value.ownBlock] at hg
      · simp [Value.ownBlock] at hg
        subst hg
        rw [hT2.L] at hh
        cases hh) n3
    have hK3 : (W2.putObj (W0.heap.size + 1) (.loop { rec with state := .exhausted })).heap[W0.heap.size]? = some (.deferred (some [])) := (World.putObj_heap_other (by omega)).trans hT2.K
    have hpe : rec.pending = none := by rw [hrec]
    refine ⟨none, W2.putObj (W0.heap.size + 1) (.loop { rec with state := .exhausted }), by rw [hend, hpe], ?_⟩
    clear hend
    generalize W2.putObj (W0.heap.size + 1) (.loop { rec with state := .exhausted }) = W3 at *
    obtain ⟨A', cap', hv'⟩ : ∃ A' cap', v' = .slice A' (Gm.take c.L.length c).1.length cap' := by
      obtain ⟨us, h1, h2, _⟩ := hv3
      obtain ⟨A', cap', h3⟩ := h1.val
      exact ⟨A', cap', by rw [h3, ← h2, List.length_map]⟩
    subst hv'
    have hc3 := hB3.cell 0
    have hf3 := hB3.frozen 0
    clear hrec hT2 hB2 hv2 f3 n3 hr2
    dsimp only
    gi_wp2
    have hKs : (W3.setCell ⟨w.heap.size, 0, none⟩ (.slice A' (Gm.take c.L.length c).1.length cap')).heap[W0.heap.size]? = some (.deferred (some [])) := (Below.heap_setCell W3 _ _ _ (show W0.heap.size ≠ w.heap.size by omega)).trans hK3
    refine ⟨by simp, .inl ⟨_, _, rfl, run_takeDeferred hKs, ?_⟩⟩
    have f4 : Fr [w.heap.size, W0.heap.size] W3 ((W3.setCell ⟨w.heap.size, 0, none⟩ (.slice A' (Gm.take c.L.length c).1.length cap')).putObj W0.heap.size (.deferred none)) :=
      putObj_fr ((Fr.refl _ _).setCell (.inl (by simp)) _) (.inl (by simp)) _
    have n4 : NoC W3 [w.heap.size, W0.heap.size] := NoC.cons (noC_blk hB3 (by decide)) (NoC.cons (fun arr fz e => by rw [hK3] at e; cases e) NoC.nil)
    have hr4 := hr3.fr f4 (by simp; omega) (by simp; omega) n4
    have hB4 : Blk ((W3.setCell ⟨w.heap.size, 0, none⟩ (.slice A' (Gm.take c.L.length c).1.length cap')).putObj W0.heap.size (.deferred none)) w.heap.size 25 #[.slice A' (Gm.take c.L.length c).1.length cap'] := by
      have := hB3.set_ 0 (.slice A' (Gm.take c.L.length c).1.length cap')
      exact (World.putObj_heap_other (show w.heap.size ≠ W0.heap.size by omega)).trans this
    have hv4 : OwnR ((W3.setCell ⟨w.heap.size, 0, none⟩ (.slice A' (Gm.take c.L.length c).1.length cap')).putObj W0.heap.size (.deferred none)) (.slice A' (Gm.take c.L.length c).1.length cap') (Gm.take c.L.length c).1 := hv3.fr f4 (fun g hg hm => by
      obtain ⟨us, h1, _⟩ := hv3
      simp only [List.mem_cons, List.not_mem_nil, or_false] at hm
      rcases hm with rfl | rfl
      · exact h1.ne hB3 (by decide) hg rfl
      · rcases h1.2 with ⟨e, _⟩ | ⟨g', cap2, cur, e, _, hh, _⟩
        · rw [e] at hg; simp [Value.ownBlock] at hg
        · rw [e] at hg
          simp [Value.ownBlock] at hg
          subst hg
          rw [hK3] at hh
          cases hh) n4
    have F4 : Fr [b, m] w ((W3.setCell ⟨w.heap.size, 0, none⟩ (.slice A' (Gm.take c.L.length c).1.length cap')).putObj W0.heap.size (.deferred none)) := F2.trans' f4 (by simp; omega)
    generalize (W3.setCell ⟨w.heap.size, 0, none⟩ (.slice A' (Gm.take c.L.length c).1.length cap')).putObj W0.heap.size (.deferred none) = W4 at *
    have hc4 := hB4.cell 0
    refine ⟨_, ?_, _, ⟨rfl, hv4⟩, hr4, F4⟩
    simp [results, Try.results10, go_sem, hc4]
end Go.Proofs.Ytfbhdmppddledaa

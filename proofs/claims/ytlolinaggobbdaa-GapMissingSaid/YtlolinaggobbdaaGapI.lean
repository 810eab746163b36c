/-
  The nil receiver's 'Take'; 'sane' of law 19.
-/
import Derived.Test.YtlolinaggobbdaaGapH
namespace Go.Proofs.Ytlolinaggobbdaa
open Go.RowKit

theorem ready1_nil (bx : Nat) (W : World) (l : Nat) (hx : W.cell? ⟨bx, 0, none⟩ = some (.pointer none)) :
    Calls Try.prog 26 #[.func (.yield l) #[] #[], .pointer (some ⟨bx, 0, none⟩)] W fun e W' => (∃ v, e = .returned v) ∧ W = W' := by
  go_enter Try.func26, Try.ntmps26
  go_wp2_with fail
  refine wp_loop_rounds 1 ?_
  rw [rounds_succ]
  go_wp2_with fail
  go_end0
  exact ⟨⟨_, rfl⟩, rfl⟩
theorem take_nil (w : World) : Calls Try.prog 11 #[.pointer none] w fun e w' => e = .returned (.slice none 0 0) ∧ Fr [] w w' := by
  refine (callsIn_wide (n := 6)).1 ?_
  refine callsIn_of_wp_marks Try.func11 rfl trivial ?_ rfl
  simp only [Try.ntmps11, List.size_toArray, List.length_cons, List.length_nil, Nat.reduceAdd, Nat.reduceSub, Array.replicate_succ, Array.replicate_zero, List.push_toArray, List.append_toArray, List.nil_append, List.cons_append]
  gi_wp2
  refine ⟨trivial, ?_⟩
  refine (callsIn_wide.2 (ready_any _ _)).mono ?_
  rintro e w' ⟨rfl, rfl⟩
  gi_wp2
  have F0 : Fr [] w ((w.alloc (.cells #[.slice none 0 0] 33)).alloc (.cells #[.pointer none] 26)) := ((Fr.refl _ _).alloc _).alloc _
  have hB0 := (Blk.new w 33 #[.slice none 0 0]).alloc (.cells #[.pointer none] 26)
  have hX0 := Blk.new (w.alloc (.cells #[.slice none 0 0] 33)) 26 #[.pointer none]
  rw [World.size_alloc] at hX0
  generalize ((w.alloc (.cells #[.slice none 0 0] 33)).alloc (.cells #[.pointer none] 26)) = W0 at *
  refine wpIn_range_rec rfl (by omega) (gf := 26) (lb := #[.pointer (some ⟨w.heap.size + 1, 0, none⟩)]) rfl trivial (enters_of Try.func26 (by kernel_rfl) rfl) ?_
  intro fn hfn rec hrec
  have F1 : Fr [] W0 ((W0.alloc (.deferred (some []))).alloc (.loop rec)) := ((Fr.refl _ _).alloc _).alloc _
  have hL1 : ((W0.alloc (.deferred (some []))).alloc (.loop rec)).heap[W0.heap.size + 1]? = some (.loop rec) := by
    have := World.alloc_heap_new (W0.alloc (.deferred (some []))) (.loop rec); rwa [World.size_alloc] at this
  have hK1 : ((W0.alloc (.deferred (some []))).alloc (.loop rec)).heap[W0.heap.size]? = some (.deferred (some [])) := (Below.heap_alloc _ _ _ (by simp)).trans (World.alloc_heap_new W0 _)
  have hX1 := hX0.fr F1 (by simp)
  have hB1 := hB0.fr F1 (by simp)
  have hbl : w.heap.size < W0.heap.size := hB0.lt
  refine (callsIn_wide.2 (ready1_nil (w.heap.size + 1) _ (W0.heap.size + 1) (hX1.cell 0))).mono ?_
  rintro e W2 ⟨⟨v, rfl⟩, rfl⟩
  have F2 := F0.trans F1
  generalize (W0.alloc (.deferred (some []))).alloc (.loop rec) = W2 at *
  have hend := run_endLoop (P := Try.prog) hL1 (by rw [hrec]; simp)
  have hz0 := F0.size
  have hpe : rec.pending = none := by rw [hrec]
  have F3 : Fr [] w (W2.putObj (W0.heap.size + 1) (.loop { rec with state := .exhausted })) := putObj_fr F2 (.inr (by omega)) _
  have hB3 : Blk (W2.putObj (W0.heap.size + 1) (.loop { rec with state := .exhausted })) w.heap.size 33 #[.slice none 0 0] := (World.putObj_heap_other (show w.heap.size ≠ W0.heap.size + 1 by omega)).trans hB1
  have hK3 : (W2.putObj (W0.heap.size + 1) (.loop { rec with state := .exhausted })).heap[W0.heap.size]? = some (.deferred (some [])) := (World.putObj_heap_other (by omega)).trans hK1
  refine ⟨none, W2.putObj (W0.heap.size + 1) (.loop { rec with state := .exhausted }), by rw [hend, hpe], ?_⟩
  clear hend
  generalize W2.putObj (W0.heap.size + 1) (.loop { rec with state := .exhausted }) = W3 at *
  have hc3 := hB3.cell 0
  have hf3 := hB3.frozen 0
  clear hrec
  dsimp only
  gi_wp2
  have hKs : (W3.setCell ⟨w.heap.size, 0, none⟩ (.slice none 0 0)).heap[W0.heap.size]? = some (.deferred (some [])) := (Below.heap_setCell W3 _ _ _ (show W0.heap.size ≠ w.heap.size by omega)).trans hK3
  refine ⟨by simp, .inl ⟨_, _, rfl, run_takeDeferred hKs, ?_⟩⟩
  have hB4 : Blk ((W3.setCell ⟨w.heap.size, 0, none⟩ (.slice none 0 0)).putObj W0.heap.size (.deferred none)) w.heap.size 33 #[.slice none 0 0] := by
    have := hB3.set_ 0 (.slice none 0 0)
    exact (World.putObj_heap_other (show w.heap.size ≠ W0.heap.size by omega)).trans this
  have F4 : Fr [] w ((W3.setCell ⟨w.heap.size, 0, none⟩ (.slice none 0 0)).putObj W0.heap.size (.deferred none)) := putObj_fr (F3.setCell (.inr (by simp)) _) (.inr (by omega)) _
  generalize (W3.setCell ⟨w.heap.size, 0, none⟩ (.slice none 0 0)).putObj W0.heap.size (.deferred none) = W4 at *
  have hc4 := hB4.cell 0
  refine ⟨_, ?_, rfl, F4⟩
  simp [results, Try.results11, go_sem, hc4]

/-- A record of one change is received. -/
theorem recv_any (b m : Nat) (c : Gm.Rcv) (p : Int) (A : Option Addr) (w : World) (h : RcvAt w b m c) (hc : HoldsC w A (recOf p).cs) :
    Calls Try.prog 9 #[.pointer (some ⟨b, 0, none⟩), .agg #[.int .i64 p, .slice A 1 1]] w fun e w' =>
      e = .returned (.bool (Gm.took c (recOf p))) ∧ RcvAt w' b m (Gm.receive c (recOf p)) ∧ Fr [b, m] w w' :=
  receive_any b m 1 c (recOf p) A w h hc (by simp [recOf, maxLen])
theorem recv_nil (p : Int) (A : Option Addr) (w : World) :
    Calls Try.prog 9 #[.pointer none, .agg #[.int .i64 p, .slice A 1 1]] w fun e w' => e = .returned (.bool false) ∧ Fr [] w w' :=
  receive_nil (recOf p) A 1 w
theorem OwnL.keep {X : Type} {e size : Nat} {enc : X → List Value} {w w' : World} {v : Value} {L : List X} {b m : Nat} {c : Gm.Rcv} (h : OwnL e size enc w v L) (hr : RcvAt w b m c) (he : e ≠ 49) (hf : Fr [b, m] w w') : OwnL e size enc w' v L := by
  obtain ⟨M, hm, _⟩ := hr.map
  exact h.fr hf (fun g hg => by
    have e1 := h.ne hr.blk he hg
    have e2 := h.ne_map hm hg
    simp [e1, e2])
theorem OwnL.keep0 {X : Type} {e size : Nat} {enc : X → List Value} {w w' : World} {v : Value} {L : List X} (h : OwnL e size enc w v L) (hf : Fr [] w w') : OwnL e size enc w' v L := h.fr hf (by simp)
theorem OwnR.keep {w w' : World} {v : Value} {out : List Rec} {b m : Nat} {c : Gm.Rcv} (h : OwnR w v out) (hr : RcvAt w b m c) (hf : Fr [b, m] w w') : OwnR w' v out := h.fr hf (h.apart hr) hr.noC
theorem OwnR.keep0 {w w' : World} {v : Value} {out : List Rec} (h : OwnR w v out) (hf : Fr [] w w') : OwnR w' v out := h.fr hf (by simp) NoC.nil

theorem OwnL.at1 {X : Type} {e size : Nat} {enc : X → List Value} {w : World} {A : Option Addr} {n cap : Nat} {L : List X} (henc : ∀ x, (enc x).length = size) (h : OwnL e size enc w (.slice A n cap) L) : AtL enc size w A L ∧ n = L.length := by
  obtain ⟨A', cap', hv, ha⟩ := h.at_ henc
  cases hv
  exact ⟨ha, rfl⟩
theorem OwnR.at1 {w : World} {A : Option Addr} {n cap : Nat} {out : List Rec} (h : OwnR w (.slice A n cap) out) : ∃ us : List WRec, AtL WRec.cells 2 w A us ∧ n = us.length ∧ us.map (·.r) = out ∧ ∀ u ∈ us, ChgsAt w u.A u.r.cs ∧ u.r.cs.length ≤ 8 := by
  obtain ⟨us, h1, h2, h3⟩ := h
  obtain ⟨h4, h5⟩ := h1.at1 WRec.len
  exact ⟨us, h4, h5, h2, fun u hu => ⟨(h3 u hu).1.1, (h3 u hu).2⟩⟩
theorem sameRecords_own (a : List Rec) (b : List WRec) (A B : Option Addr) (n ca cb : Nat) (w : World) (ha : OwnR w (.slice A n ca) a) (hb : AtL WRec.cells 2 w B b) (la : n ≤ 100000) (lb : b.length ≤ 100000)
    (kb : ∀ u ∈ b, ChgsAt w u.A u.r.cs ∧ u.r.cs.length ≤ 8) :
    Calls Try.prog 19 #[.slice A n ca, .slice B b.length cb] w fun e w' => e = .returned (.bool (Gm.sameR a (b.map (·.r)))) ∧ Fr [] w w' := by
  obtain ⟨us, h1, rfl, rfl, h4⟩ := ha.at1
  exact sameRecords_any us b A B ca cb w h1 hb la lb h4 kb

set_option maxRecDepth 100000 in
set_option maxHeartbeats 4000000 in
theorem sane_any (w : World) : Calls Try.prog 6 #[] w fun e w' => e = .returned (.bool true) ∧ Fr [] w w' := by
  go_enter Try.func6, Try.ntmps6
  go_wp2_with fail
  refine (gnew_any 3 _ (by decide) (by decide)).mono ?_
  rintro e w0 ⟨rfl, h0, F0⟩
  obtain ⟨b, m, hb, hm, hbm⟩ : ∃ b m, b = w.heap.size + 1 ∧ m = w.heap.size ∧ Hid (∀ i ∈ [b, m], i ∈ ([] : List Nat) ∨ w.heap.size ≤ i) := ⟨_, _, rfl, rfl, Lib.hid (by simp)⟩
  rw [← hb, ← hm] at h0
  rw [← hb]
  clear hb hm
  rw [show Gm.new 3 = ⟨3, 3, []⟩ from rfl] at h0
  go_wp2_with fail
  refine (gnew_bad (-1) _ (by decide)).mono ?_
  rintro e w' ⟨rfl, rfl⟩
  go_wp2_with fail
  refine (gnew_bad 10001 _ (by decide)).mono ?_
  rintro e w' ⟨rfl, rfl⟩
  go_wp2_with fail
  refine (record_any 6 _).mono ?_
  rintro e w1 ⟨rfl, hc, f⟩
  have h1 := h0.fr0 f
  have F1 : Fr [] w w1 := F0.trans f
  clear f h0 F0
  go_wp2_with fail
  refine (recv_any b m ⟨3, 3, []⟩ 6 _ _ h1 hc).mono ?_
  rintro e w2 ⟨rfl, h2, f⟩
  clear hc
  rw [show Gm.took ⟨3, 3, []⟩ (recOf 6) = true from by kernel_rfl]
  rw [show Gm.receive ⟨3, 3, []⟩ (recOf 6) = ⟨3, 6, [(6, recOf 6)]⟩ from by kernel_rfl] at h2
  have F2 : Fr [] w w2 := F1.trans' f (by exact hbm.out)
  clear f h1 F1
  go_wp2_with fail
  refine (record_any 4 _).mono ?_
  rintro e w3 ⟨rfl, hc, f⟩
  have h3 := h2.fr0 f
  have F3 : Fr [] w w3 := F2.trans f
  clear f h2 F2
  go_wp2_with fail
  refine (recv_any b m ⟨3, 6, [(6, recOf 6)]⟩ 4 _ _ h3 hc).mono ?_
  rintro e w4 ⟨rfl, h4, f⟩
  clear hc
  rw [show Gm.took ⟨3, 6, [(6, recOf 6)]⟩ (recOf 4) = true from by kernel_rfl]
  rw [show Gm.receive ⟨3, 6, [(6, recOf 6)]⟩ (recOf 4) = ⟨3, 6, [(4, recOf 4), (6, recOf 6)]⟩ from by kernel_rfl] at h4
  have F4 : Fr [] w w4 := F3.trans' f (by exact hbm.out)
  clear f h3 F3
  go_wp2_with fail
  refine (record_any 6 _).mono ?_
  rintro e w5 ⟨rfl, hc, f⟩
  have h5 := h4.fr0 f
  have F5 : Fr [] w w5 := F4.trans f
  clear f h4 F4
  go_wp2_with fail
  refine (recv_any b m ⟨3, 6, [(4, recOf 4), (6, recOf 6)]⟩ 6 _ _ h5 hc).mono ?_
  rintro e w6 ⟨rfl, h6, f⟩
  clear hc
  rw [show Gm.took ⟨3, 6, [(4, recOf 4), (6, recOf 6)]⟩ (recOf 6) = false from by kernel_rfl]
  rw [show Gm.receive ⟨3, 6, [(4, recOf 4), (6, recOf 6)]⟩ (recOf 6) = ⟨3, 6, [(4, recOf 4), (6, recOf 6)]⟩ from by kernel_rfl] at h6
  have F6 : Fr [] w w6 := F5.trans' f (by exact hbm.out)
  clear f h5 F5
  go_wp2_with fail
  refine (record_any 3 _).mono ?_
  rintro e w7 ⟨rfl, hc, f⟩
  have h7 := h6.fr0 f
  have F7 : Fr [] w w7 := F6.trans f
  clear f h6 F6
  go_wp2_with fail
  refine (recv_any b m ⟨3, 6, [(4, recOf 4), (6, recOf 6)]⟩ 3 _ _ h7 hc).mono ?_
  rintro e w8 ⟨rfl, h8, f⟩
  clear hc
  rw [show Gm.took ⟨3, 6, [(4, recOf 4), (6, recOf 6)]⟩ (recOf 3) = false from by kernel_rfl]
  rw [show Gm.receive ⟨3, 6, [(4, recOf 4), (6, recOf 6)]⟩ (recOf 3) = ⟨3, 6, [(4, recOf 4), (6, recOf 6)]⟩ from by kernel_rfl] at h8
  have F8 : Fr [] w w8 := F7.trans' f (by exact hbm.out)
  clear f h7 F7
  go_wp2_with fail
  refine (missing_any b m ⟨3, 6, [(4, recOf 4), (6, recOf 6)]⟩ _ h8).mono ?_
  rintro e w9 ⟨vM, ⟨rfl, hM⟩, f⟩
  rw [show Gm.missing (⟨3, 6, [(4, recOf 4), (6, recOf 6)]⟩ : Gm.Rcv).L (⟨3, 6, [(4, recOf 4), (6, recOf 6)]⟩ : Gm.Rcv).pos ((⟨3, 6, [(4, recOf 4), (6, recOf 6)]⟩ : Gm.Rcv).high - (⟨3, 6, [(4, recOf 4), (6, recOf 6)]⟩ : Gm.Rcv).pos).toNat = [(5, 5)] from by kernel_rfl] at hM
  have h9 := h8.fr0 f
  have F9 : Fr [] w w9 := F8.trans f
  clear f h8 F8
  obtain ⟨AM, cM, eM⟩ := hM.val
  subst eM
  go_wp2_with fail
  refine (highest_any b m ⟨3, 6, [(4, recOf 4), (6, recOf 6)]⟩ _ h9).mono ?_
  rintro e w' ⟨rfl, rfl⟩
  go_wp2_with fail
  refine (take_any b m ⟨3, 6, [(4, recOf 4), (6, recOf 6)]⟩ _ h9).mono ?_
  rintro e w10 ⟨vL, ⟨rfl, hL⟩, h10, f⟩
  rw [show Gm.take (⟨3, 6, [(4, recOf 4), (6, recOf 6)]⟩ : Gm.Rcv).L.length ⟨3, 6, [(4, recOf 4), (6, recOf 6)]⟩ = ([recOf 4], ⟨4, 6, [(6, recOf 6)]⟩) from by kernel_rfl] at hL h10
  dsimp only at hL h10
  replace hM := hM.keep h9 (by decide) f
  have F10 : Fr [] w w10 := F9.trans' f (by exact hbm.out)
  clear f h9 F9
  obtain ⟨uL, oL, rL, kL⟩ := hL
  obtain ⟨AL, cL, eL⟩ := oL.val
  subst eL
  have lL : uL.length = 1 := by have := congrArg List.length rL; simpa using this
  rw [lL] at oL ⊢
  have hL : OwnR w10 (.slice AL 1 cL) [recOf 4] := ⟨uL, oL, rL, kL⟩
  clear oL rL kL lL
  go_wp2_with fail
  refine (announce_any b m ⟨4, 6, [(6, recOf 6)]⟩ 8 _ h10).mono ?_
  rintro e w11 ⟨rfl, h11, f⟩
  rw [show Gm.announce ⟨4, 6, [(6, recOf 6)]⟩ 8 = ⟨4, 8, [(6, recOf 6)]⟩ from by kernel_rfl] at h11
  replace hM := hM.keep h10 (by decide) f
  replace hL := hL.keep h10 f
  have F11 : Fr [] w w11 := F10.trans' f (by exact hbm.out)
  clear f h10 F10
  go_wp2_with fail
  refine (missing_any b m ⟨4, 8, [(6, recOf 6)]⟩ _ h11).mono ?_
  rintro e w12 ⟨vN, ⟨rfl, hN⟩, f⟩
  rw [show Gm.missing (⟨4, 8, [(6, recOf 6)]⟩ : Gm.Rcv).L (⟨4, 8, [(6, recOf 6)]⟩ : Gm.Rcv).pos ((⟨4, 8, [(6, recOf 6)]⟩ : Gm.Rcv).high - (⟨4, 8, [(6, recOf 6)]⟩ : Gm.Rcv).pos).toNat = [(5, 5), (7, 8)] from by kernel_rfl] at hN
  have h12 := h11.fr0 f
  replace hM := hM.keep0 f
  replace hL := hL.keep0 f
  have F12 : Fr [] w w12 := F11.trans f
  clear f h11 F11
  obtain ⟨AN, cN, eN⟩ := hN.val
  subst eN
  go_wp2_with fail
  refine (record_any 5 _).mono ?_
  rintro e w13 ⟨rfl, hc, f⟩
  have h13 := h12.fr0 f
  replace hM := hM.keep0 f
  replace hL := hL.keep0 f
  replace hN := hN.keep0 f
  have F13 : Fr [] w w13 := F12.trans f
  clear f h12 F12
  go_wp2_with fail
  refine (recv_any b m ⟨4, 8, [(6, recOf 6)]⟩ 5 _ _ h13 hc).mono ?_
  rintro e w14 ⟨rfl, h14, f⟩
  clear hc
  rw [show Gm.took ⟨4, 8, [(6, recOf 6)]⟩ (recOf 5) = true from by kernel_rfl]
  rw [show Gm.receive ⟨4, 8, [(6, recOf 6)]⟩ (recOf 5) = ⟨4, 8, [(5, recOf 5), (6, recOf 6)]⟩ from by kernel_rfl] at h14
  replace hM := hM.keep h13 (by decide) f
  replace hL := hL.keep h13 f
  replace hN := hN.keep h13 (by decide) f
  have F14 : Fr [] w w14 := F13.trans' f (by exact hbm.out)
  clear f h13 F13
  go_wp2_with fail
  refine (take_any b m ⟨4, 8, [(5, recOf 5), (6, recOf 6)]⟩ _ h14).mono ?_
  rintro e w15 ⟨vK, ⟨rfl, hK⟩, h15, f⟩
  rw [show Gm.take (⟨4, 8, [(5, recOf 5), (6, recOf 6)]⟩ : Gm.Rcv).L.length ⟨4, 8, [(5, recOf 5), (6, recOf 6)]⟩ = ([recOf 5, recOf 6], ⟨6, 8, []⟩) from by kernel_rfl] at hK h15
  dsimp only at hK h15
  replace hM := hM.keep h14 (by decide) f
  replace hL := hL.keep h14 f
  replace hN := hN.keep h14 (by decide) f
  have F15 : Fr [] w w15 := F14.trans' f (by exact hbm.out)
  clear f h14 F14
  obtain ⟨uK, oK, rK, kK⟩ := hK
  obtain ⟨AK, cK, eK⟩ := oK.val
  subst eK
  have lK : uK.length = 2 := by have := congrArg List.length rK; simpa using this
  rw [lK] at oK ⊢
  have hK : OwnR w15 (.slice AK 2 cK) [recOf 5, recOf 6] := ⟨uK, oK, rK, kK⟩
  clear oK rK kK lK
  go_wp2_with fail
  refine (announce_nil 5 _).mono ?_
  rintro e w' ⟨rfl, rfl⟩
  go_wp2_with fail
  refine (greset_nil 5 _).mono ?_
  rintro e w' ⟨rfl, rfl⟩
  go_wp2_with fail
  refine (record_any 1 _).mono ?_
  rintro e w16 ⟨rfl, hc, f⟩
  have h16 := h15.fr0 f
  replace hM := hM.keep0 f
  replace hL := hL.keep0 f
  replace hN := hN.keep0 f
  replace hK := hK.keep0 f
  have F16 : Fr [] w w16 := F15.trans f
  clear f h15 F15
  clear hc
  go_wp2_with fail
  refine (recv_nil 1 _ _).mono ?_
  rintro e w17 ⟨rfl, f⟩
  have h17 := h16.fr0 f
  replace hM := hM.keep0 f
  replace hL := hL.keep0 f
  replace hN := hN.keep0 f
  replace hK := hK.keep0 f
  have F17 : Fr [] w w17 := F16.trans f
  clear f h16 F16
  go_wp2_with fail
  refine (position_nil _).mono ?_
  rintro e w' ⟨rfl, rfl⟩
  go_wp2_with fail
  refine (highest_nil _).mono ?_
  rintro e w' ⟨rfl, rfl⟩
  go_wp2_with fail
  refine (take_nil _).mono ?_
  rintro e w18 ⟨rfl, f⟩
  have h18 := h17.fr0 f
  replace hM := hM.keep0 f
  replace hL := hL.keep0 f
  replace hN := hN.keep0 f
  replace hK := hK.keep0 f
  have F18 : Fr [] w w18 := F17.trans f
  clear f h17 F17
  go_wp2_with fail
  refine (missing_nil _).mono ?_
  rintro e w' ⟨rfl, rfl⟩
  go_wp2_with fail
  have f : Fr [] w18 (w18.alloc (.cells #[.int .i64 5, .int .i64 5] 42)) := (Fr.refl _ _).alloc _
  have hb := Blk.new w18 42 #[.int .i64 5, .int .i64 5]
  have h19 := h18.fr0 f
  replace hM := hM.keep0 f
  replace hL := hL.keep0 f
  replace hN := hN.keep0 f
  replace hK := hK.keep0 f
  have F19 : Fr [] w _ := F18.trans f
  clear f h18 F18
  generalize w18.alloc (.cells #[.int .i64 5, .int .i64 5] 42) = w19 at *
  refine (sameSpans_any [(5, 5)] [(5, 5)] AM _ cM 1 _ (hM.at1 encS_len).1 (AtL.of_blk encS_len hb rfl) (by decide) (by decide)).mono ?_
  rintro e w20 ⟨rfl, f⟩
  clear hb
  rw [show Gm.sameS [(5, 5)] [(5, 5)] = true from by kernel_rfl]
  have h20 := h19.fr0 f
  replace hM := hM.keep0 f
  replace hL := hL.keep0 f
  replace hN := hN.keep0 f
  replace hK := hK.keep0 f
  have F20 : Fr [] w w20 := F19.trans f
  clear f h19 F19
  go_wp2_with fail
  have f : Fr [] w20 (w20.alloc (.cells #[.int .i64 5, .int .i64 5, .int .i64 7, .int .i64 8] 42)) := (Fr.refl _ _).alloc _
  have hb := Blk.new w20 42 #[.int .i64 5, .int .i64 5, .int .i64 7, .int .i64 8]
  have h21 := h20.fr0 f
  replace hL := hL.keep0 f
  replace hN := hN.keep0 f
  replace hK := hK.keep0 f
  have F21 : Fr [] w _ := F20.trans f
  clear f h20 F20
  generalize w20.alloc (.cells #[.int .i64 5, .int .i64 5, .int .i64 7, .int .i64 8] 42) = w21 at *
  refine (sameSpans_any [(5, 5), (7, 8)] [(5, 5), (7, 8)] AN _ cN 2 _ (hN.at1 encS_len).1 (AtL.of_blk encS_len hb rfl) (by decide) (by decide)).mono ?_
  rintro e w22 ⟨rfl, f⟩
  clear hb
  rw [show Gm.sameS [(5, 5), (7, 8)] [(5, 5), (7, 8)] = true from by kernel_rfl]
  have h22 := h21.fr0 f
  replace hL := hL.keep0 f
  replace hN := hN.keep0 f
  replace hK := hK.keep0 f
  have F22 : Fr [] w w22 := F21.trans f
  clear f h21 F21
  go_wp2_with fail
  refine (record_any 4 _).mono ?_
  rintro e w23 ⟨rfl, hc4, f⟩
  have h23 := h22.fr0 f
  replace hL := hL.keep0 f
  replace hK := hK.keep0 f
  generalize w22.heap.size + 1 = g4 at *
  have F23 : Fr [] w w23 := F22.trans f
  clear f h22 F22
  go_wp2_with fail
  have f : Fr [] w23 (w23.alloc (.cells #[.int .i64 4, .slice (some ⟨g4, 0, none⟩) 1 1] 31)) := (Fr.refl _ _).alloc _
  have hb := Blk.new w23 31 #[.int .i64 4, .slice (some ⟨g4, 0, none⟩) 1 1]
  replace hc4 := hc4.fr f NoC.nil
  have h24 := h23.fr0 f
  replace hL := hL.keep0 f
  replace hK := hK.keep0 f
  have F24 : Fr [] w _ := F23.trans f
  clear f h23 F23
  generalize w23.alloc (.cells #[.int .i64 4, .slice (some ⟨g4, 0, none⟩) 1 1] 31) = w24 at *
  refine (sameRecords_own [recOf 4] [⟨recOf 4, some ⟨g4, 0, none⟩, 1⟩] AL _ 1 cL 1 _ hL (AtL.of_blk WRec.len hb rfl) (by decide) (by simp) (by
    intro u hu
    simp only [List.mem_cons, List.not_mem_nil, or_false] at hu
    subst hu
    exact ⟨hc4.1, by simp [recOf]⟩)).mono ?_
  rintro e w25 ⟨rfl, f⟩
  clear hb hc4
  rw [show Gm.sameR [recOf 4] (([⟨recOf 4, some ⟨g4, 0, none⟩, 1⟩] : List WRec).map (·.r)) = true from by simp [Gm.sameR]]
  have h25 := h24.fr0 f
  replace hL := hL.keep0 f
  replace hK := hK.keep0 f
  have F25 : Fr [] w w25 := F24.trans f
  clear f h24 F24
  go_wp2_with fail
  refine (record_any 5 _).mono ?_
  rintro e w26 ⟨rfl, hc5, f⟩
  have h26 := h25.fr0 f
  replace hK := hK.keep0 f
  generalize w25.heap.size + 1 = g5 at *
  have F26 : Fr [] w w26 := F25.trans f
  clear f h25 F25
  go_wp2_with fail
  refine (record_any 6 _).mono ?_
  rintro e w27 ⟨rfl, hc6, f⟩
  have h27 := h26.fr0 f
  replace hK := hK.keep0 f
  replace hc5 := hc5.fr f NoC.nil
  generalize w26.heap.size + 1 = g6 at *
  have F27 : Fr [] w w27 := F26.trans f
  clear f h26 F26
  go_wp2_with fail
  have f : Fr [] w27 (w27.alloc (.cells #[.int .i64 5, .slice (some ⟨g5, 0, none⟩) 1 1, .int .i64 6, .slice (some ⟨g6, 0, none⟩) 1 1] 31)) := (Fr.refl _ _).alloc _
  have hb := Blk.new w27 31 #[.int .i64 5, .slice (some ⟨g5, 0, none⟩) 1 1, .int .i64 6, .slice (some ⟨g6, 0, none⟩) 1 1]
  replace hc5 := hc5.fr f NoC.nil
  replace hc6 := hc6.fr f NoC.nil
  have h28 := h27.fr0 f
  replace hK := hK.keep0 f
  have F28 : Fr [] w _ := F27.trans f
  clear f h27 F27
  generalize w27.alloc (.cells #[.int .i64 5, .slice (some ⟨g5, 0, none⟩) 1 1, .int .i64 6, .slice (some ⟨g6, 0, none⟩) 1 1] 31) = w28 at *
  refine (sameRecords_own [recOf 5, recOf 6] [⟨recOf 5, some ⟨g5, 0, none⟩, 1⟩, ⟨recOf 6, some ⟨g6, 0, none⟩, 1⟩] AK _ 2 cK 2 _ hK (AtL.of_blk WRec.len hb rfl) (by decide) (by simp) (by
    intro u hu
    simp only [List.mem_cons, List.not_mem_nil, or_false] at hu
    rcases hu with rfl | rfl
    · exact ⟨hc5.1, by simp [recOf]⟩
    · exact ⟨hc6.1, by simp [recOf]⟩
    )).mono ?_
  rintro e w29 ⟨rfl, f⟩
  clear hb hc5 hc6
  rw [show Gm.sameR [recOf 5, recOf 6] (([⟨recOf 5, some ⟨g5, 0, none⟩, 1⟩, ⟨recOf 6, some ⟨g6, 0, none⟩, 1⟩] : List WRec).map (·.r)) = true from by simp [Gm.sameR]]
  have h29 := h28.fr0 f
  replace hK := hK.keep0 f
  have F29 : Fr [] w w29 := F28.trans f
  clear f h28 F28
  go_wp2_with fail
  refine (position_any b m ⟨6, 8, []⟩ _ h29).mono ?_
  rintro e w' ⟨rfl, rfl⟩
  go_wp2_with fail
  go_ret
  exact ⟨rfl, F29⟩
end Go.Proofs.Ytlolinaggobbdaa

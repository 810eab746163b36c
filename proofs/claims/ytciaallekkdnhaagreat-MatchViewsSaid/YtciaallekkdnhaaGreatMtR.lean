/-
  Match: the walk.
-/
import Derived.Test.YtciaallekkdnhaaGreatJs
import Derived.Test.YtciaallekkdnhaaGreatMtL
import Derived.Test.YtciaallekkdnhaaGreatMtO
import Derived.Test.YtciaallekkdnhaaGreatJq
import Derived.Test.YtciaallekkdnhaaGreatJl
import Derived.Test.YtciaallekkdnhaaGreatJe
import Derived.Test.YtciaallekkdnhaaGreatFar
import Derived.Test.YtciaallekkdnhaaGreatJj
import Derived.Sort.LoopGhostIn
namespace Go.Proofs.YtciaallekkdnhaaGreat
open Go.RowKit
attribute [local go_sem] Oper.semAt_some

/-- While the changes are gone through. -/
structure MrA (w wr : World) (b m n : Nat) (M : Mm.Ix) (cs : List Chg) (k : Nat) (D D' : List Nat) (F : List (Int × Bool)) (A : Option Addr) : Prop where
  ix : IxAt wr b m M D'
  dl : ∀ x ∈ D', x < n ∨ n + 4 ≤ x
  db : ∀ x ∈ D', (x ∈ D ∨ n ≤ x) ∧ x < wr.heap.size
  found : VMap Tryz.prog 3 (Lit.int .i64) Value.bool wr (n + 2) F
  fo : Mm.Fo M (Mm.hitO cs k) F
  b0 : Blk wr n 28 #[.pointer (some ⟨b, 0, none⟩)]
  b3 : Blk wr (n + 3) 88 #[.map (some (n + 2))]
  hc : FarC wr A cs [b, n + 2]
  fr : Fr [b] w wr
set_option maxRecDepth 100000 in
set_option maxHeartbeats 8000000 in
theorem mmatch_far (b m : Nat) (M : Mm.Ix) (D : List Nat) (at_ : Int) (A : Option Addr) (N cap : Nat) (cs : List Chg) (w : World) (h : IxAt w b m M D) (hDw : ∀ x ∈ D, x < w.heap.size) (hc : FarC w A cs [b]) (hN : N = cs.length) (hn8 : N ≤ 1000)
    (hcs : ∀ c ∈ cs, okI c.t ∧ ∀ r ∈ Mm.rows c, ∀ k, okI (r.value k)) :
    Calls Tryz.prog 22 #[.pointer (some ⟨b, 0, none⟩), .agg #[.int .i64 at_, .slice A N cap]] w fun e w' => ∃ v L, e = .returned v ∧ OwnL 3 1 encJ w' v L ∧ Mm.Hit M cs L ∧ ∃ D', IxAt w' b m M D' ∧ Fr [b] w w' ∧ ∀ x ∈ D', (x ∈ D ∨ w.heap.size ≤ x) ∧ x < w'.heap.size := by
  obtain ⟨n, hn⟩ : ∃ n, w.heap.size = n := ⟨_, rfl⟩
  have HN := Lib.hid hn
  have hmm := @run_makeMap Tryz.prog
  have f1 : Fr [] w (w.alloc (.cells #[.pointer (some ⟨b, 0, none⟩)] 28)) := (Fr.refl _ _).alloc _
  have F4 : Hid (Fr [] w ((((w.alloc (.cells #[.pointer (some ⟨b, 0, none⟩)] 28)).alloc (.cells #[.int .i64 at_, .slice A N cap] 26)).alloc (.map #[] 0)).alloc (.cells #[.map (some (n + 2))] 88))) := Lib.hid ((((f1.alloc _).alloc _)).alloc _)
  have hb := h.ne
  have HIX := Lib.hid h
  have HC : Hid (FarC w A cs [b, n + 2]) := Lib.hid ⟨hc.1, fun hl ad e hm => by
    obtain ⟨b', o', e', hb', -⟩ := hc.1 hl
    rw [e'] at e
    injection e with e
    subst e
    have h2 := hc.2 hl _ e'
    simp only [List.mem_cons, List.not_mem_nil, or_false] at hm h2
    rcases hm with hm | hm
    · exact h2 hm
    · omega⟩
  have HCS := Lib.hid hcs
  have HDW := Lib.hid hDw
  have HNL := Lib.hid hN
  clear h hc hcs hDw hN hn f1
  refine (callsIn_wide (n := 20)).1 ?_
  refine callsIn_of_wp_marks Tryz.func22 rfl trivial ?_ rfl
  simp only [Tryz.ntmps22, List.size_toArray, List.length_cons, List.length_nil, Nat.reduceAdd, Nat.reduceSub, Array.replicate_succ, Array.replicate_zero, List.push_toArray, List.append_toArray, List.nil_append, List.cons_append]
  gi_wp2
  simp only [HN.out, Nat.add_assoc, Nat.reduceAdd]
  have HA0 : Hid (MrA w ((((w.alloc (.cells #[.pointer (some ⟨b, 0, none⟩)] 28)).alloc (.cells #[.int .i64 at_, .slice A N cap] 26)).alloc (.map #[] 0)).alloc (.cells #[.map (some (n + 2))] 88)) b m n M cs 0 D D [] A) := Lib.hid (by
    have hn := HN.out
    have a0 := (((Blk.new w 28 #[.pointer (some ⟨b, 0, none⟩)]).alloc (.cells #[.int .i64 at_, .slice A N cap] 26)).alloc (.map #[] 0)).alloc (.cells #[.map (some (n + 2))] 88)
    have a2 := (VMap.made (P := Tryz.prog) (k := 3) (Lit.int .i64) Value.bool ((w.alloc (.cells #[.pointer (some ⟨b, 0, none⟩)] 28)).alloc (.cells #[.int .i64 at_, .slice A N cap] 26))).alloc (.cells #[.map (some (n + 2))] 88)
    have a3 := Blk.new (((w.alloc (.cells #[.pointer (some ⟨b, 0, none⟩)] 28)).alloc (.cells #[.int .i64 at_, .slice A N cap] 26)).alloc (.map #[] 0)) 88 #[.map (some (n + 2))]
    simp only [World.size_alloc, hn, Nat.add_assoc, Nat.reduceAdd] at a0 a2 a3
    exact ⟨HIX.out.fr F4.out (by simp), fun x hx => .inl (by rw [← hn]; exact HDW.out x hx), fun x hx => ⟨.inl hx, Nat.lt_of_lt_of_le (HDW.out x hx) F4.out.size⟩, a2, Mm.Fo.start M cs, a0, a3, HC.out.fr F4.out (by simp), F4.out.mono (by simp)⟩)
  generalize (((w.alloc (.cells #[.pointer (some ⟨b, 0, none⟩)] 28)).alloc (.cells #[.int .i64 at_, .slice A N cap] 26)).alloc (.map #[] 0)).alloc (.cells #[.map (some (n + 2))] 88) = W1 at *
  have HBN : Hid (b < n ∧ m < n) := Lib.hid (by rw [← HN.out]; exact ⟨HDW.out b HIX.out.mem.1, HDW.out m HIX.out.mem.2⟩)
  clear F4 HIX hmm HC
  refine wpIn_loop_ghost_k (fun (j : Nat) (a : Act) (wr : World) => ∃ (k : Nat) (D' : List Nat) (F : List (Int × Bool)) (ds : List Deferred) (Ds : List Nat) (u7 u16 u17 u18 u19 u20 u21 u22 u40 : Value), a = { tmps := List.toArray ((.pointer (some ⟨b, 0, none⟩) : Value) :: (.agg #[.int .i64 at_, .slice A N cap] : Value) :: (.pointer (some ⟨n, 0, none⟩) : Value) :: (.pointer (some ⟨n + 1, 0, none⟩) : Value) :: (.slice none 0 0 : Value) :: (.pointer (some ⟨n + 3, 0, none⟩) : Value) :: undef :: u7 :: undef :: (.pointer (some ⟨b, 0, none⟩) : Value) :: (.bool false : Value) :: (.map (some (n + 2)) : Value) :: (.pointer (some ⟨n + 1, 1, none⟩) : Value) :: (.slice A N cap : Value) :: (.int .i64 (N : Int) : Value) :: (.int .i64 (k : Int) : Value) :: u16 :: u17 :: u18 :: u19 :: u20 :: u21 :: u22 :: undef :: undef :: undef :: undef :: undef :: undef :: undef :: undef :: undef :: undef :: undef :: undef :: undef :: undef :: undef :: undef :: undef :: u40 :: undef :: undef :: undef :: []), defers := ds } ∧ j = N - k ∧ k ≤ N ∧ Hid (MrA w wr b m n M cs k D D' F A) ∧ Hid (Marks (n + 4) ds Ds wr ∧ ∀ d ∈ Ds, d ∉ D')) N ?start ?round
  case start => exact ⟨0, D, [], [], [], undef, undef, undef, undef, undef, undef, undef, undef, undef, rfl, by omega, by omega, HA0, Lib.hid ⟨.nil, by simp⟩⟩
  case round =>
    clear HA0
    rintro j a wr ⟨k, D', F, ds, Ds, u7, u16, u17, u18, u19, u20, u21, u22, u40, rfl, rfl, hk, R, HM⟩ J2 K2 hJ2 hK2
    have HK2 := Lib.hid hK2
    have HJ2 := Lib.hid hJ2
    clear hK2 hJ2
    try dsimp only
    by_cases h4 : k < N
    · have h4' : (k : Int) < (N : Int) := by omega
      have hkc : k < cs.length := by rw [← HNL.out]; exact h4
      obtain ⟨ba, off, eA, hba, hcx⟩ := R.out.hc.1 (by omega)
      subst eA
      obtain ⟨c, hcd⟩ : ∃ c, c = cs[k] := ⟨_, rfl⟩
      have e0 := hcx k hkc 0 (by decide)
      have e1 := hcx k hkc 1 (by decide)
      have e2 := hcx k hkc 2 (by decide)
      have e3 := hcx k hkc 3 (by decide)
      have e4 := hcx k hkc 4 (by decide)
      have e5 := hcx k hkc 5 (by decide)
      have e6 := hcx k hkc 6 (by decide)
      have e7 := hcx k hkc 7 (by decide)
      have e8 := hcx k hkc 8 (by decide)
      have e9 := hcx k hkc 9 (by decide)
      rw [← hcd] at e0 e1 e2 e3 e4 e5 e6 e7 e8 e9
      obtain ⟨hct, hcr⟩ := HCS.out c (by rw [hcd]; exact List.getElem_mem _)
      have HCD := Lib.hid hcd
      have HCT := Lib.hid hct
      have HCR := Lib.hid hcr
      clear hcx hcd hct hcr
      obtain ⟨ct, ck, chad, co0, co1, co2, chas, cn0, cn1, cn2⟩ := c
      simp only [Chg.cells, List.getElem?_cons_zero, List.getElem?_cons_succ, Nat.add_zero] at e0 e1 e2 e3 e4 e5 e6 e7 e8 e9
      have hbx := Blk.new wr 59 (chgCs ⟨ct, ck, chad, co0, co1, co2, chas, cn0, cn1, cn2⟩)
      obtain ⟨g, hg⟩ : ∃ g, wr.heap.size = g := ⟨_, rfl⟩
      rw [hg] at hbx
      have HG := Lib.hid hg
      have fx : Fr [] wr (wr.alloc (.cells (chgCs ⟨ct, ck, chad, co0, co1, co2, chas, cn0, cn1, cn2⟩) 59)) := (Fr.refl _ _).alloc _
      have HBX := Lib.hid hbx
      have HFX := Lib.hid fx
      clear hbx fx
      have hgn : n + 4 ≤ g := by have := R.out.b3.lt; omega
      have hbn := HBN.out.1
      have HS7 : Hid (∀ V, Fr [b] (wr.alloc (.cells (chgCs (⟨ct, ck, chad, co0, co1, co2, chas, cn0, cn1, cn2⟩ : Chg)) 59)) V → (fun V : World => V.cell? ⟨n, 0, none⟩ = some (.pointer (some ⟨b, 0, none⟩)) ∧ V.cell? ⟨g, 0, none⟩ = some (.int .i64 ct) ∧ V.cell? ⟨g, 1, none⟩ = some (.int .i64 ck) ∧ V.cell? ⟨g, 2, none⟩ = some (.bool chad) ∧ V.cell? ⟨g, 3, none⟩ = some (.int .i64 co0) ∧ V.cell? ⟨g, 4, none⟩ = some (.int .i64 co1) ∧ V.cell? ⟨g, 5, none⟩ = some (.int .i64 co2) ∧ V.cell? ⟨g, 6, none⟩ = some (.bool chas) ∧ V.cell? ⟨g, 7, none⟩ = some (.int .i64 cn0) ∧ V.cell? ⟨g, 8, none⟩ = some (.int .i64 cn1) ∧ V.cell? ⟨g, 9, none⟩ = some (.int .i64 cn2)) V) := Lib.hid (fun V hV => by
        have hb0 := (R.out.b0.fr HFX.out (by simp)).fr hV (by simp; omega)
        have hbx := HBX.out.fr hV (by simp; omega)
        exact ⟨hb0.cell 0, hbx.cell 0, hbx.cell 1, hbx.cell 2, hbx.cell 3, hbx.cell 4, hbx.cell 5, hbx.cell 6, hbx.cell 7, hbx.cell 8, hbx.cell 9⟩)
      have HMK := Lib.hid (mmake_any ((wr.alloc (.cells (chgCs (⟨ct, ck, chad, co0, co1, co2, chas, cn0, cn1, cn2⟩ : Chg)) 59))).drew (R.out.ix.fr (HFX.out.drew) (by simp)) (fun x hx => Nat.lt_of_lt_of_le (R.out.db x hx).2 HFX.out.size))
      gi_wp2
      refine wpIn_region_heldO (fun V : World => V.cell? ⟨n, 0, none⟩ = some (.pointer (some ⟨b, 0, none⟩)) ∧ V.cell? ⟨g, 0, none⟩ = some (.int .i64 ct) ∧ V.cell? ⟨g, 1, none⟩ = some (.int .i64 ck) ∧ V.cell? ⟨g, 2, none⟩ = some (.bool chad) ∧ V.cell? ⟨g, 3, none⟩ = some (.int .i64 co0) ∧ V.cell? ⟨g, 4, none⟩ = some (.int .i64 co1) ∧ V.cell? ⟨g, 5, none⟩ = some (.int .i64 co2) ∧ V.cell? ⟨g, 6, none⟩ = some (.bool chas) ∧ V.cell? ⟨g, 7, none⟩ = some (.int .i64 cn0) ∧ V.cell? ⟨g, 8, none⟩ = some (.int .i64 cn1) ∧ V.cell? ⟨g, 9, none⟩ = some (.int .i64 cn2)) (by kernel_rfl) (HS7.out _ ((Fr.refl _ _).drew)) (fun hHeld => ?_)
      refine wpAnyH_take (i := 0) (oi := ⟨some 19, _, _, _, _, _⟩) (v := ?_) rfl (by kernel_rfl) (by kernel_rfl) (by kernel_rfl) (fun _ _ _ h => h) (Or.inl ⟨by rfl, ?_⟩) hHeld ?_
      rotate_left
      · (intro w hSw; (try dsimp only at hSw); go_simp; try with_reducible rfl)
      try simp only [Act.put, List.setIfInBounds_toArray, List.set_cons_zero, List.set_cons_succ]
      refine wpAnyH_take (i := 2) (oi := ⟨some 21, _, _, _, _, _⟩) (v := ?_) rfl (by kernel_rfl) (by kernel_rfl) (by kernel_rfl) (fun _ _ _ h => h) (Or.inl ⟨by rfl, ?_⟩) hHeld ?_
      rotate_left
      · (intro w hSw; (try dsimp only at hSw); go_simp; try with_reducible rfl)
      try simp only [Act.put, List.setIfInBounds_toArray, List.set_cons_zero, List.set_cons_succ]
      refine wpAnyH_ready (rs := [1]) (by kernel_rfl) (by simp) (AllReadyH.cons rfl (fun K hK => ?_) AllReadyH.nil)
      go_simp
      refine HMK.out.mono ?_
      rintro e w5 ⟨bl, D2, rfl, hix, hls, hf5, hd5⟩
      have HF5 : Hid (Fr [b] wr w5) := Lib.hid (((HFX.out.drew).mono (by simp)).trans hf5)
      have HF5a : Hid (Fr [b] (wr.alloc (.cells (chgCs (⟨ct, ck, chad, co0, co1, co2, chas, cn0, cn1, cn2⟩ : Chg)) 59)) w5) := Lib.hid (((Fr.refl [b] _).drew).trans hf5)
      have HI5 := Lib.hid hix
      have HL5 := Lib.hid hls
      have hsz5 : g + 1 ≤ w5.heap.size := by have := hf5.size; have h2 : (((wr.alloc (.cells (chgCs (⟨ct, ck, chad, co0, co1, co2, chas, cn0, cn1, cn2⟩ : Chg)) 59))).drew).heap.size = wr.heap.size + 1 := (World.size_alloc _ _); omega
      have HD5 : Hid (∀ x ∈ D2, (x ∈ D' ∨ g < x) ∧ x < w5.heap.size) := Lib.hid (fun x hx => by
        have h1 := hd5 x hx
        have h2 : (((wr.alloc (.cells (chgCs (⟨ct, ck, chad, co0, co1, co2, chas, cn0, cn1, cn2⟩ : Chg)) 59))).drew).heap.size = wr.heap.size + 1 := (World.size_alloc _ _)
        refine ⟨h1.1.imp (fun h => h) (fun h => by omega), h1.2⟩)
      clear hix hls hf5 hd5 HMK
      refine hK.out _ _ (HS7.out _ HF5a.out) (fun hHeld => ?_)
      clear hK K
      try simp only [Act.put, List.setIfInBounds_toArray, List.set_cons_zero, List.set_cons_succ]
      refine wpAnyH_ready (rs := [3]) (by kernel_rfl) (by simp) (AllReadyH.cons rfl (fun K hK => ?_) AllReadyH.nil)
      go_simp
      refine (mnear_any (some ⟨bl, 0, none⟩) (⟨ct, ck, chad, co0, co1, co2, chas, cn0, cn1, cn2⟩ : Chg) w5).mono ?_
      rintro e w6 ⟨rfl, hw6⟩
      have f56 : Fr [] w5 w6 := by rw [hw6]; exact ((Fr.refl _ _).alloc _).alloc _
      have HBL6 : Hid (Blk w6 w5.heap.size 80 #[.pointer (some ⟨bl, 0, none⟩)]) := Lib.hid (by rw [hw6]; exact (Blk.new w5 80 #[.pointer (some ⟨bl, 0, none⟩)]).fr (S := []) ((Fr.refl _ _).alloc _) (by simp))
      have HBC6 : Hid (Blk w6 (w5.heap.size + 1) 59 (chgCs (⟨ct, ck, chad, co0, co1, co2, chas, cn0, cn1, cn2⟩ : Chg))) := Lib.hid (by
        rw [hw6]
        have h := Blk.new (w5.alloc (.cells #[.pointer (some ⟨bl, 0, none⟩)] 80)) 59 (chgCs (⟨ct, ck, chad, co0, co1, co2, chas, cn0, cn1, cn2⟩ : Chg))
        rw [World.size_alloc] at h
        exact h)
      have HF56 := Lib.hid f56
      clear hw6 f56
      refine hK.out _ _ (HS7.out _ ((HF5a.out.trans (HF56.out.mono (by simp))))) (fun hHeld => ?_)
      clear hK K hHeld HS7
      try simp only [Act.put, List.setIfInBounds_toArray, List.set_cons_zero, List.set_cons_succ]
      refine wpAnyH_done (by kernel_rfl) ?_ _
      dsimp only [plainQ]
      gi_wp2
      obtain ⟨ms, mj, SV, JV, hls5⟩ := HL5.out
      have HLS6 := Lib.hid (hls5.fr HF56.out (by simp))
      have HI6 := Lib.hid (HI5.out.fr HF56.out (by simp))
      have HF6 : Hid (Fr [b] wr w6) := Lib.hid (HF5.out.trans (HF56.out.mono (by simp)))
      have hz6 : w5.heap.size ≤ w6.heap.size := HF56.out.size
      have HB06 := Lib.hid (R.out.b0.fr HF6.out (by simp; omega))
      have HB36 := Lib.hid (R.out.b3.fr HF6.out (by simp; omega))
      have HFD6 := Lib.hid (R.out.found.fr HF6.out (by simp; omega))
      have HBX6 := Lib.hid ((HBX.out.fr HF5a.out (by simp; omega)).fr HF56.out (by simp))
      have HFO := Lib.hid (R.out.fo.into (⟨ct, ck, chad, co0, co1, co2, chas, cn0, cn1, cn2⟩ : Chg))
      have hmb := HBN.out.2
      have hDS : ∀ y ∈ D2, y ∉ [n + 2] := fun y hy hm => by
        have e : y = n + 2 := by simpa using hm
        rcases (HD5.out y hy).1 with h | h
        · rcases R.out.dl y h with h2 | h2 <;> omega
        · omega
      clear hls5 HL5 HI5
      refine wpIn_rangeF rfl (by omega) (gf := 63) (lb := #[.pointer (some ⟨w5.heap.size + 1, 0, none⟩), .pointer (some ⟨w5.heap.size, 0, none⟩)]) rfl trivial (enters_of Tryz.func63 (by kernel_rfl) rfl)
        (near_seq (20 - 1) (by omega) (w5.heap.size + 1) w5.heap.size bl ms mj SV JV M D2 (⟨ct, ck, chad, co0, co1, co2, chas, cn0, cn1, cn2⟩ : Chg) [n + 2] w6 HLS6.out HBC6.out HBL6.out HCT.out HCR.out (by simp; omega) (by simp; omega) hDS (fun y hy => by have e : y = n + 2 := (by simpa using hy); omega)) (Fr.refl [] _) (fun _ => rfl) (fun y hy => by have e : y = n + 2 := (by simpa using hy); omega)
        (fun pre Wk => ∃ F : List (Int × Bool), VMap Tryz.prog 3 (Lit.int .i64) Value.bool Wk (n + 2) F ∧ Mm.Fo M (Mm.hitI cs k (⟨ct, ck, chad, co0, co1, co2, chas, cn0, cn1, cn2⟩ : Chg) pre) F ∧ FrO w6.heap.size [n + 2] w6 Wk)
        (fun s A C ⟨F, k1, k2, k3⟩ hb => ⟨F, k1.of_block (hb.block (n + 2) (by omega)), k2, k3.trans (below_frO hb)⟩)
        (fun p A ⟨F, k1, k2, k3⟩ => k3.size)
        ⟨F, HFD6.out, HFO.out, FrO.refl _ _ _⟩ ?rr ?dd
      case rr =>
        rintro l pre x W3 hx hl1 hl2 ⟨F1, i1, i2, i3⟩
        gi_wp2
        refine ⟨Fr.refl _ _, ?_⟩
        rintro W4 f4 - ⟨F2, j1, j2, j3⟩
        have hox : okI x := Mm.near_okI HLS6.out.lists (by obtain ⟨r, hr⟩ := hx; rw [← hr]; simp)
        have hz4 : W3.heap.size ≤ W4.heap.size := f4.size
        have HV4 := Lib.hid j1
        have HFO4 := Lib.hid j2
        have HFR4 := Lib.hid j3
        clear hx i1 i2 i3 f4 j1 j2 j3
        have HB34 := Lib.hid (HB36.out.fr HFR4.out.fr (by simp))
        have hlk : ∀ V, Fr [] W4 V → (Instr.lookup 88 (.map (some (n + 2))) (.int .i64 x) false).run Tryz.prog V = .ok (.bool (mget F2 x).isSome) V := fun V hV => by
          have h := VMap.look tyIntBool (HV4.out.fr hV (by simp)) x hox false
          have e : ((mget F2 x).map Value.bool).getD (.bool false) = .bool (mget F2 x).isSome := by
            cases hg : mget F2 x with
            | none => rfl
            | some u =>
              have hu : u = true := HFO4.out.yes _ (mget_mem hg)
              rw [hu]
              rfl
          rw [e] at h
          simpa using h
        have HLK := Lib.hid hlk
        clear hlk
        cases hF : (mget F2 x).isSome with
        | true =>
          have HS9 : Hid (∀ V, Fr [] W4 V → (fun V : World => V.cell? ⟨n + 3, 0, none⟩ = some (.map (some (n + 2))) ∧ (Instr.lookup 88 (.map (some (n + 2))) (.int .i64 x) false).run Tryz.prog V = .ok (.bool true) V) V) := Lib.hid (fun V hV => ⟨(HB34.out.fr hV (by simp)).cell 0, by have h := HLK.out V hV; rw [hF] at h; exact h⟩)
          have HHF := Lib.hid hF
          clear hF
          gi_wp2
          refine wpIn_region_heldP (fun V : World => V.cell? ⟨n + 3, 0, none⟩ = some (.map (some (n + 2))) ∧ (Instr.lookup 88 (.map (some (n + 2))) (.int .i64 x) false).run Tryz.prog V = .ok (.bool true) V) (by kernel_rfl) (by rfl) (HS9.out _ ((Fr.refl [] W4).drew)) (fun hHeld => ?_)
          refine wpAnyH_take (i := 0) (oi := ⟨some 24, _, _, _, _, _⟩) (v := ?_) rfl (by kernel_rfl) (by kernel_rfl) (by kernel_rfl) (fun _ _ _ h => h) (Or.inl ⟨by rfl, ?_⟩) hHeld ?_
          rotate_left
          · (intro w hSw; (try dsimp only at hSw); go_simp; try with_reducible rfl)
          try simp only [Act.put, List.setIfInBounds_toArray, List.set_cons_zero, List.set_cons_succ]
          refine wpAnyH_take (i := 1) (oi := ⟨some 25, _, _, _, _, _⟩) (v := ?_) rfl (by kernel_rfl) (by kernel_rfl) (by kernel_rfl) (fun _ _ _ h => h) (Or.inl ⟨by rfl, ?_⟩) hHeld ?_
          rotate_left
          · (intro w hSw; (try dsimp only at hSw); go_simp; try with_reducible rfl)
          try simp only [Act.put, List.setIfInBounds_toArray, List.set_cons_zero, List.set_cons_succ]
          refine wpAnyH_take (i := 2) (oi := ⟨some 26, _, _, _, _, _⟩) (v := ?_) rfl (by kernel_rfl) (by kernel_rfl) (by kernel_rfl) (fun _ _ _ h => h) (Or.inl ⟨by rfl, ?_⟩) hHeld ?_
          rotate_left
          · (intro w hSw; (try dsimp only at hSw); go_simp; try with_reducible rfl)
          try simp only [Act.put, List.setIfInBounds_toArray, List.set_cons_zero, List.set_cons_succ]
          refine wpAnyH_take (i := 3) (oi := ⟨some 27, _, _, _, _, _⟩) (v := ?_) rfl (by kernel_rfl) (by kernel_rfl) (by kernel_rfl) (fun _ _ _ h => h) (Or.inl ⟨by rfl, ?_⟩) hHeld ?_
          rotate_left
          · (intro w hSw; (try dsimp only at hSw); go_simp; try with_reducible rfl)
          try simp only [Act.put, List.setIfInBounds_toArray, List.set_cons_zero, List.set_cons_succ]
          refine wpAnyH_take (i := 4) (oi := ⟨some 28, _, _, _, _, _⟩) (v := ?_) rfl (by kernel_rfl) (by kernel_rfl) (by kernel_rfl) (fun _ _ _ h => h) (Or.inl ⟨by rfl, ?_⟩) hHeld ?_
          rotate_left
          · (intro w hSw; (try dsimp only at hSw); go_simp; try with_reducible rfl)
          try simp only [Act.put, List.setIfInBounds_toArray, List.set_cons_zero, List.set_cons_succ]
          refine wpAnyH_take (i := 5) (oi := ⟨some 29, _, _, _, _, _⟩) (v := undef) rfl (by kernel_rfl) (by kernel_rfl) (by kernel_rfl) (fun _ _ _ h => h) (Or.inr ⟨by rfl, rfl⟩) hHeld ?_
          try simp only [Act.put, List.setIfInBounds_toArray, List.set_cons_zero, List.set_cons_succ]
          refine wpAnyH_take (i := 6) (oi := ⟨some 30, _, _, _, _, _⟩) (v := undef) rfl (by kernel_rfl) (by kernel_rfl) (by kernel_rfl) (fun _ _ _ h => h) (Or.inr ⟨by rfl, rfl⟩) hHeld ?_
          try simp only [Act.put, List.setIfInBounds_toArray, List.set_cons_zero, List.set_cons_succ]
          refine wpAnyH_take (i := 7) (oi := ⟨some 31, _, _, _, _, _⟩) (v := undef) rfl (by kernel_rfl) (by kernel_rfl) (by kernel_rfl) (fun _ _ _ h => h) (Or.inr ⟨by rfl, rfl⟩) hHeld ?_
          try simp only [Act.put, List.setIfInBounds_toArray, List.set_cons_zero, List.set_cons_succ]
          refine wpAnyH_take (i := 8) (oi := ⟨some 32, _, _, _, _, _⟩) (v := undef) rfl (by kernel_rfl) (by kernel_rfl) (by kernel_rfl) (fun _ _ _ h => h) (Or.inr ⟨by rfl, rfl⟩) hHeld ?_
          try simp only [Act.put, List.setIfInBounds_toArray, List.set_cons_zero, List.set_cons_succ]
          refine wpAnyH_take (i := 9) (oi := ⟨some 33, _, _, _, _, _⟩) (v := undef) rfl (by kernel_rfl) (by kernel_rfl) (by kernel_rfl) (fun _ _ _ h => h) (Or.inr ⟨by rfl, rfl⟩) hHeld ?_
          try simp only [Act.put, List.setIfInBounds_toArray, List.set_cons_zero, List.set_cons_succ]
          refine wpAnyH_take (i := 10) (oi := ⟨some 34, _, _, _, _, _⟩) (v := undef) rfl (by kernel_rfl) (by kernel_rfl) (by kernel_rfl) (fun _ _ _ h => h) (Or.inr ⟨by rfl, rfl⟩) hHeld ?_
          try simp only [Act.put, List.setIfInBounds_toArray, List.set_cons_zero, List.set_cons_succ]
          refine wpAnyH_take (i := 11) (oi := ⟨some 35, _, _, _, _, _⟩) (v := undef) rfl (by kernel_rfl) (by kernel_rfl) (by kernel_rfl) (fun _ _ _ h => h) (Or.inr ⟨by rfl, rfl⟩) hHeld ?_
          try simp only [Act.put, List.setIfInBounds_toArray, List.set_cons_zero, List.set_cons_succ]
          refine wpAnyH_take (i := 12) (oi := ⟨some 36, _, _, _, _, _⟩) (v := undef) rfl (by kernel_rfl) (by kernel_rfl) (by kernel_rfl) (fun _ _ _ h => h) (Or.inr ⟨by rfl, rfl⟩) hHeld ?_
          try simp only [Act.put, List.setIfInBounds_toArray, List.set_cons_zero, List.set_cons_succ]
          refine wpAnyH_take (i := 13) (oi := ⟨some 37, _, _, _, _, _⟩) (v := ?_) rfl (by kernel_rfl) (by kernel_rfl) (by kernel_rfl) (fun _ _ _ h => h) (Or.inl ⟨by rfl, ?_⟩) hHeld ?_
          rotate_left
          · (intro w hSw; (try dsimp only at hSw); go_simp; try with_reducible rfl)
          try simp only [Act.put, List.setIfInBounds_toArray, List.set_cons_zero, List.set_cons_succ]
          refine wpAnyH_done (by kernel_rfl) ?_ _
          dsimp only [plainQ]
          clear hHeld HS9
          gi_wp2
          exact ⟨((Fr.refl [] W4).drew).frO hz4 (by simp), F2, HV4.out.drew, HFO4.out.same (fun _ _ _ => HHF.out), HFR4.out.trans (((Fr.refl [] W4).drew).frO HFR4.out.size (by simp))⟩
        | false =>
          obtain ⟨q0, hq0, hq1, hq2⟩ : ∃ q0 : Qry, ((mget M x).map Qry.val).getD (.agg #[.int .i64 0, .int .i64 0, .int .i64 0, .int .i64 0, .int .i64 0, .int .i64 0, .int .i64 0]) = q0.val ∧ (∀ q, mget M x = some q → q0 = q) ∧ (mget M x = none → Em.valid q0 = false ∧ okI q0.kind) := by
            cases mget M x with
            | none => exact ⟨⟨0, 0, 0, 0, 0, 0, 0⟩, rfl, fun q h => (by cases h), fun _ => ⟨by decide, okI_mk (by decide) (by decide)⟩⟩
            | some q => exact ⟨q, rfl, fun q' h => (by injection h), fun h => (by cases h)⟩
          have hqk : okI q0.kind := by
            cases hg : mget M x with
            | none => exact (hq2 hg).2
            | some q =>
              have hv := HI6.out.ok.valid _ (mget_mem hg)
              rw [hq1 q hg]
              dsimp only at hv
              unfold Em.valid at hv
              refine okI_mk ?_ ?_ <;> (repeat' split at hv) <;> first | omega | (simp at hv)
          have htM : Pm.touches q0 (⟨ct, ck, chad, co0, co1, co2, chas, cn0, cn1, cn2⟩ : Chg) = true → mget M x = some q0 := fun ht => by
            cases hg : mget M x with
            | none =>
              unfold Pm.touches at ht
              rw [(hq2 hg).1] at ht
              cases ht
            | some q => rw [hq1 q hg]
          have HT := Lib.hid (fun W => touches_any q0 (⟨ct, ck, chad, co0, co1, co2, chas, cn0, cn1, cn2⟩ : Chg) hqk W)
          obtain ⟨tt, htt⟩ : ∃ t, Hid (Pm.touches q0 (⟨ct, ck, chad, co0, co1, co2, chas, cn0, cn1, cn2⟩ : Chg) = t) := ⟨_, Lib.hid rfl⟩
          rw [htt.out] at HT
          have HTM := Lib.hid htM
          have HQ1 := Lib.hid hq1
          have hlkq : ∀ V, Fr [] W4 V → (Instr.lookup 79 (.map (some m)) (.int .i64 x) false).run Tryz.prog V = .ok q0.val V := fun V hV => by
            have h := VMap.look tyIntQry ((HI6.out.map.fr HFR4.out.fr (by simp; omega)).fr hV (by simp)) x hox false
            rw [hq0] at h
            simpa using h
          obtain ⟨lp, hbk, -⟩ := HI6.out.blk
          have HBK := Lib.hid (hbk.fr HFR4.out.fr (by simp; omega))
          have HHF := Lib.hid hF
          obtain ⟨qk, qt, qc, ql, qh, qb, qo⟩ := q0
          have HS9 : Hid (∀ V, Fr [] W4 V → (fun V : World => V.cell? ⟨n + 3, 0, none⟩ = some (.map (some (n + 2))) ∧ (Instr.lookup 88 (.map (some (n + 2))) (.int .i64 x) false).run Tryz.prog V = .ok (.bool false) V ∧ V.cell? ⟨n, 0, none⟩ = some (.pointer (some ⟨b, 0, none⟩)) ∧ V.cell? ⟨b, 0, none⟩ = some (.map (some m)) ∧ (Instr.lookup 79 (.map (some m)) (.int .i64 x) false).run Tryz.prog V = .ok (.agg #[.int .i64 qk, .int .i64 qt, .int .i64 qc, .int .i64 ql, .int .i64 qh, .int .i64 qb, .int .i64 qo]) V ∧ V.cell? ⟨g, 0, none⟩ = some (.int .i64 ct) ∧ V.cell? ⟨g, 1, none⟩ = some (.int .i64 ck) ∧ V.cell? ⟨g, 2, none⟩ = some (.bool chad) ∧ V.cell? ⟨g, 3, none⟩ = some (.int .i64 co0) ∧ V.cell? ⟨g, 4, none⟩ = some (.int .i64 co1) ∧ V.cell? ⟨g, 5, none⟩ = some (.int .i64 co2) ∧ V.cell? ⟨g, 6, none⟩ = some (.bool chas) ∧ V.cell? ⟨g, 7, none⟩ = some (.int .i64 cn0) ∧ V.cell? ⟨g, 8, none⟩ = some (.int .i64 cn1) ∧ V.cell? ⟨g, 9, none⟩ = some (.int .i64 cn2)) V) := Lib.hid (fun V hV => by
            have h := HLK.out V hV
            rw [HHF.out] at h
            have hx := (HBX6.out.fr HFR4.out.fr (by simp; omega)).fr hV (by simp)
            exact ⟨(HB34.out.fr hV (by simp)).cell 0, h, ((HB06.out.fr HFR4.out.fr (by simp)).fr hV (by simp)).cell 0, (HBK.out.fr hV (by simp)).cell 0, hlkq V hV, hx.cell 0, hx.cell 1, hx.cell 2, hx.cell 3, hx.cell 4, hx.cell 5, hx.cell 6, hx.cell 7, hx.cell 8, hx.cell 9⟩)
          clear hF hq0 hq1 hq2 hqk htM hlkq hbk
          gi_wp2
          refine wpIn_region_heldP (fun V : World => V.cell? ⟨n + 3, 0, none⟩ = some (.map (some (n + 2))) ∧ (Instr.lookup 88 (.map (some (n + 2))) (.int .i64 x) false).run Tryz.prog V = .ok (.bool false) V ∧ V.cell? ⟨n, 0, none⟩ = some (.pointer (some ⟨b, 0, none⟩)) ∧ V.cell? ⟨b, 0, none⟩ = some (.map (some m)) ∧ (Instr.lookup 79 (.map (some m)) (.int .i64 x) false).run Tryz.prog V = .ok (.agg #[.int .i64 qk, .int .i64 qt, .int .i64 qc, .int .i64 ql, .int .i64 qh, .int .i64 qb, .int .i64 qo]) V ∧ V.cell? ⟨g, 0, none⟩ = some (.int .i64 ct) ∧ V.cell? ⟨g, 1, none⟩ = some (.int .i64 ck) ∧ V.cell? ⟨g, 2, none⟩ = some (.bool chad) ∧ V.cell? ⟨g, 3, none⟩ = some (.int .i64 co0) ∧ V.cell? ⟨g, 4, none⟩ = some (.int .i64 co1) ∧ V.cell? ⟨g, 5, none⟩ = some (.int .i64 co2) ∧ V.cell? ⟨g, 6, none⟩ = some (.bool chas) ∧ V.cell? ⟨g, 7, none⟩ = some (.int .i64 cn0) ∧ V.cell? ⟨g, 8, none⟩ = some (.int .i64 cn1) ∧ V.cell? ⟨g, 9, none⟩ = some (.int .i64 cn2)) (by kernel_rfl) (by rfl) (HS9.out _ ((Fr.refl [] W4).drew)) (fun hHeld => ?_)
          refine wpAnyH_take (i := 0) (oi := ⟨some 24, _, _, _, _, _⟩) (v := ?_) rfl (by kernel_rfl) (by kernel_rfl) (by kernel_rfl) (fun _ _ _ h => h) (Or.inl ⟨by rfl, ?_⟩) hHeld ?_
          rotate_left
          · (intro w hSw; (try dsimp only at hSw); go_simp; try with_reducible rfl)
          try simp only [Act.put, List.setIfInBounds_toArray, List.set_cons_zero, List.set_cons_succ]
          refine wpAnyH_take (i := 1) (oi := ⟨some 25, _, _, _, _, _⟩) (v := ?_) rfl (by kernel_rfl) (by kernel_rfl) (by kernel_rfl) (fun _ _ _ h => h) (Or.inl ⟨by rfl, ?_⟩) hHeld ?_
          rotate_left
          · (intro w hSw; (try dsimp only at hSw); go_simp; try with_reducible rfl)
          try simp only [Act.put, List.setIfInBounds_toArray, List.set_cons_zero, List.set_cons_succ]
          refine wpAnyH_take (i := 2) (oi := ⟨some 26, _, _, _, _, _⟩) (v := ?_) rfl (by kernel_rfl) (by kernel_rfl) (by kernel_rfl) (fun _ _ _ h => h) (Or.inl ⟨by rfl, ?_⟩) hHeld ?_
          rotate_left
          · (intro w hSw; (try dsimp only at hSw); go_simp; try with_reducible rfl)
          try simp only [Act.put, List.setIfInBounds_toArray, List.set_cons_zero, List.set_cons_succ]
          refine wpAnyH_take (i := 3) (oi := ⟨some 27, _, _, _, _, _⟩) (v := ?_) rfl (by kernel_rfl) (by kernel_rfl) (by kernel_rfl) (fun _ _ _ h => h) (Or.inl ⟨by rfl, ?_⟩) hHeld ?_
          rotate_left
          · (intro w hSw; (try dsimp only at hSw); go_simp; try with_reducible rfl)
          try simp only [Act.put, List.setIfInBounds_toArray, List.set_cons_zero, List.set_cons_succ]
          refine wpAnyH_take (i := 4) (oi := ⟨some 28, _, _, _, _, _⟩) (v := ?_) rfl (by kernel_rfl) (by kernel_rfl) (by kernel_rfl) (fun _ _ _ h => h) (Or.inl ⟨by rfl, ?_⟩) hHeld ?_
          rotate_left
          · (intro w hSw; (try dsimp only at hSw); go_simp; try with_reducible rfl)
          try simp only [Act.put, List.setIfInBounds_toArray, List.set_cons_zero, List.set_cons_succ]
          refine wpAnyH_take (i := 5) (oi := ⟨some 29, _, _, _, _, _⟩) (v := ?_) rfl (by kernel_rfl) (by kernel_rfl) (by kernel_rfl) (fun _ _ _ h => h) (Or.inl ⟨by rfl, ?_⟩) hHeld ?_
          rotate_left
          · (intro w hSw; (try dsimp only at hSw); go_simp; try with_reducible rfl)
          try simp only [Act.put, List.setIfInBounds_toArray, List.set_cons_zero, List.set_cons_succ]
          refine wpAnyH_take (i := 6) (oi := ⟨some 30, _, _, _, _, _⟩) (v := ?_) rfl (by kernel_rfl) (by kernel_rfl) (by kernel_rfl) (fun _ _ _ h => h) (Or.inl ⟨by rfl, ?_⟩) hHeld ?_
          rotate_left
          · (intro w hSw; (try dsimp only at hSw); go_simp; try with_reducible rfl)
          try simp only [Act.put, List.setIfInBounds_toArray, List.set_cons_zero, List.set_cons_succ]
          refine wpAnyH_take (i := 7) (oi := ⟨some 31, _, _, _, _, _⟩) (v := ?_) rfl (by kernel_rfl) (by kernel_rfl) (by kernel_rfl) (fun _ _ _ h => h) (Or.inl ⟨by rfl, ?_⟩) hHeld ?_
          rotate_left
          · (intro w hSw; (try dsimp only at hSw); go_simp; try with_reducible rfl)
          try simp only [Act.put, List.setIfInBounds_toArray, List.set_cons_zero, List.set_cons_succ]
          refine wpAnyH_take (i := 8) (oi := ⟨some 32, _, _, _, _, _⟩) (v := ?_) rfl (by kernel_rfl) (by kernel_rfl) (by kernel_rfl) (fun _ _ _ h => h) (Or.inl ⟨by rfl, ?_⟩) hHeld ?_
          rotate_left
          · (intro w hSw; (try dsimp only at hSw); go_simp; try with_reducible rfl)
          try simp only [Act.put, List.setIfInBounds_toArray, List.set_cons_zero, List.set_cons_succ]
          refine wpAnyH_take (i := 9) (oi := ⟨some 33, _, _, _, _, _⟩) (v := ?_) rfl (by kernel_rfl) (by kernel_rfl) (by kernel_rfl) (fun _ _ _ h => h) (Or.inl ⟨by rfl, ?_⟩) hHeld ?_
          rotate_left
          · (intro w hSw; (try dsimp only at hSw); go_simp; try with_reducible rfl)
          try simp only [Act.put, List.setIfInBounds_toArray, List.set_cons_zero, List.set_cons_succ]
          refine wpAnyH_take (i := 10) (oi := ⟨some 34, _, _, _, _, _⟩) (v := ?_) rfl (by kernel_rfl) (by kernel_rfl) (by kernel_rfl) (fun _ _ _ h => h) (Or.inl ⟨by rfl, ?_⟩) hHeld ?_
          rotate_left
          · (intro w hSw; (try dsimp only at hSw); go_simp; try with_reducible rfl)
          try simp only [Act.put, List.setIfInBounds_toArray, List.set_cons_zero, List.set_cons_succ]
          refine wpAnyH_take (i := 11) (oi := ⟨some 35, _, _, _, _, _⟩) (v := ?_) rfl (by kernel_rfl) (by kernel_rfl) (by kernel_rfl) (fun _ _ _ h => h) (Or.inl ⟨by rfl, ?_⟩) hHeld ?_
          rotate_left
          · (intro w hSw; (try dsimp only at hSw); go_simp; try with_reducible rfl)
          try simp only [Act.put, List.setIfInBounds_toArray, List.set_cons_zero, List.set_cons_succ]
          refine wpAnyH_ready (rs := [12]) (by kernel_rfl) (by simp) (AllReadyH.cons rfl (fun K hK => ?_) AllReadyH.nil)
          go_simp
          refine (HT.out _).mono ?_
          rintro e w7 ⟨rfl, f7⟩
          have HF7 : Hid (Fr [] W4 w7) := Lib.hid (((Fr.refl [] W4).drew).trans f7)
          clear f7 HT
          refine hK.out _ _ (HS9.out _ HF7.out) (fun hHeld => ?_)
          clear hK K
          try simp only [Act.put, List.setIfInBounds_toArray, List.set_cons_zero, List.set_cons_succ]
          refine wpAnyH_take (i := 13) (oi := ⟨some 37, _, _, _, _, _⟩) (v := ?_) rfl (by kernel_rfl) (by kernel_rfl) (by kernel_rfl) (fun _ _ _ h => h) (Or.inl ⟨by rfl, ?_⟩) hHeld ?_
          rotate_left
          · (intro w hSw; (try dsimp only at hSw); go_simp; try with_reducible rfl)
          try simp only [Act.put, List.setIfInBounds_toArray, List.set_cons_zero, List.set_cons_succ]
          refine wpAnyH_done (by kernel_rfl) ?_ _
          dsimp only [plainQ]
          have c3 := hHeld.1
          clear hHeld HS9
          have hz7 : W3.heap.size ≤ W4.heap.size := hz4
          cases tt with
          | true =>
            obtain ⟨w8, hrun, hm8, ht8⟩ := VMap.store tyIntBool (HV4.out.fr HF7.out (by simp)) x hox true (by have h1 := HFO4.out.le (HV4.out.nd tyIntBool); have h2 := HI6.out.ok.len; simp only [maxLen]; omega)
            have ht8' := turned_fr (S := [n + 2]) ht8 (by simp)
            have HM8 := Lib.hid hm8
            have HT8 := Lib.hid ht8'
            clear hm8 ht8 ht8'
            gi_wp2
            exact ⟨((HF7.out.mono (by simp)).trans HT8.out).frO hz4 (fun y hy => .inl hy), mput F2 x true, HM8.out, HFO4.out.more (HTM.out htt.out) htt.out, HFR4.out.trans (((HF7.out.mono (by simp)).trans HT8.out).frO HFR4.out.size (fun y hy => .inl hy))⟩
          | false =>
            gi_wp2
            exact ⟨HF7.out.frO hz4 (by simp), F2, HV4.out.fr HF7.out (by simp), HFO4.out.same (fun q h1 h2 => by rw [← HQ1.out q h1, htt.out] at h2; cases h2), HFR4.out.trans (HF7.out.frO HFR4.out.size (by simp))⟩
      case dd =>
        rintro Dn W hD ⟨F3, i1, i2, i3⟩ hK
        have hfo : Mm.Fo M (Mm.hitO cs (k + 1)) F3 := by
          have h := i2
          rw [HCD.out] at h
          exact Mm.Fo.out hkc HLS6.out.lists h
        have f6W : Fr [b, n + 2] wr W := (HF6.out.mono (by simp)).trans (i3.fr.mono (by simp))
        have hg6 : g + 1 ≤ w6.heap.size := by omega
        have hDl : ∀ d ∈ Ds, d < g := fun d hd => by have := HM.out.1.lt hd; omega
        have hMR : Hid (MrA w W b m n M cs (k + 1) D D2 F3 (some ⟨ba, off, none⟩)) := Lib.hid
          ⟨HI6.out.fr i3.fr hDS, fun y hy => by
              rcases (HD5.out y hy).1 with h | h
              · exact R.out.dl y h
              · exact .inr (by omega), fun y hy => by
              have h2 := (HD5.out y hy).2
              have h3 := i3.size
              refine ⟨?_, by omega⟩
              rcases (HD5.out y hy).1 with h | h
              · exact (R.out.db y h).1
              · exact .inr (by omega), i1, hfo, HB06.out.fr i3.fr (by simp), HB36.out.fr i3.fr (by simp), R.out.hc.fr f6W (fun _ h => h), (R.out.fr.trans' f6W (fun y hy => by
              rcases List.mem_cons.1 hy with rfl | hy
              · exact .inl (by simp)
              · exact .inr (by have e : y = n + 2 := (by simpa using hy); have := HN.out; omega)))⟩
        have hMM : Hid (Marks (n + 4) ({ target := .collected Dn, args := #[] } :: ds) (Dn :: Ds) W ∧ ∀ d ∈ Dn :: Ds, d ∉ D2) := Lib.hid
          ⟨(HM.out.1.fr f6W (fun d hd hm => by
              have h1 := HM.out.1.low d hd
              rcases List.mem_cons.1 hm with rfl | hm
              · omega
              · have e : d = n + 2 := (by simpa using hm)
                omega)).cons hK (by omega) (fun hm => by have := hDl _ hm; omega), fun d hd hm => by
            have h1 := HD5.out d hm
            rcases List.mem_cons.1 hd with rfl | hd
            · omega
            · have h2 := hDl d hd
              rcases h1.1 with h | h
              · exact HM.out.2 d hd h
              · omega⟩
        clear i1 i2 i3 hK hfo f6W
        gi_wp2
        refine HK2.out _ _ ⟨N - (k + 1), by omega, HJ2.out _ _ _ ⟨k + 1, D2, F3, _, Dn :: Ds, _, _, _, _, _, _, _, _, _, rfl, rfl, by omega, hMR, hMM⟩⟩
    · have hkN : k = N := by omega
      have hkn : (k : Int) = (N : Int) := by omega
      have c3 : wr.cell? ⟨n + 3, 0, none⟩ = some (.map (some (n + 2))) := R.out.b3.cell 0
      have hfl : F.length ≤ 100000 := by have h1 := R.out.fo.le (R.out.found.nd tyIntBool); have h2 := R.out.ix.ok.len; omega
      have HSO := Lib.hid (sortedI_any (n + 2) F wr R.out.found hfl)
      clear hfl
      gi_wp2
      refine ⟨trivial, ?_⟩
      refine (callsIn_wide.2 (keysI_any (n + 2) wr)).mono ?_
      rintro e w1 ⟨rfl, rfl⟩
      clear c3
      gi_wp2
      refine ⟨trivial, ?_⟩
      refine (callsIn_wide.2 HSO.out).mono ?_
      rintro e w2 ⟨v, ss, rfl, hp, ho, hf2⟩
      have HP2 := Lib.hid hp
      have HO2 := Lib.hid ho
      have HF2 := Lib.hid hf2
      clear hp ho hf2 HSO
      gi_wp2
      have hm2 := HM.out.1.fr HF2.out (by simp)
      refine Marks.leaves Ds ds _ hm2 (fun W' hf' => ?_)
      have hh : Mm.Hit M cs (ss.mergeSort (fun x y => decide (x ≤ y))) := by
        have h := R.out.fo
        rw [hkN, HNL.out] at h
        exact h.hit (R.out.found.nd tyIntBool) HP2.out
      have hix := (R.out.ix.fr HF2.out (by simp)).fr hf' (fun y hy hm => HM.out.2 y hm hy)
      exact ⟨_, results_tmp rfl _ _ _, v, _, rfl, HO2.out.fr hf' (fun gg hgg hm => by
        have h1 := hm2.at_ gg hm
        rcases HO2.out.2 with ⟨e2, _⟩ | ⟨g2, cap2, cur2, e2, _, hh2, _⟩
        · rw [e2] at hgg
          simp [Value.ownBlock] at hgg
        · rw [e2] at hgg
          simp [Value.ownBlock] at hgg
          subst hgg
          rw [h1] at hh2
          cases hh2), hh, D', hix, (R.out.fr.trans (HF2.out.mono (by simp))).trans' hf' (fun y hy => .inr (by have := hm2.low y hy; have := HN.out; omega)), fun y hy => by
          have h1 := R.out.db y hy
          have h2 := HF2.out.size
          have h3 := hf'.size
          exact ⟨by rw [HN.out]; exact h1.1, by omega⟩⟩
theorem mmatch_any (b m : Nat) (M : Mm.Ix) (D : List Nat) (at_ : Int) (A : Option Addr) (N cap : Nat) (cs : List Chg) (w : World) (h : IxAt w b m M D) (hDw : ∀ x ∈ D, x < w.heap.size) (hc : HoldsC w A cs) (hN : N = cs.length) (hn8 : N ≤ 1000)
    (hcs : ∀ c ∈ cs, okI c.t ∧ ∀ r ∈ Mm.rows c, ∀ k, okI (r.value k)) :
    Calls Tryz.prog 22 #[.pointer (some ⟨b, 0, none⟩), .agg #[.int .i64 at_, .slice A N cap]] w fun e w' => ∃ v L, e = .returned v ∧ OwnL 3 1 encJ w' v L ∧ Mm.Hit M cs L ∧ ∃ D', IxAt w' b m M D' ∧ Fr [b] w w' ∧ ∀ x ∈ D', (x ∈ D ∨ w.heap.size ≤ x) ∧ x < w'.heap.size :=
  mmatch_far b m M D at_ A N cap cs w h hDw ⟨hc.1, fun hl ad e hm => by
    obtain ⟨lp, hb, -⟩ := h.blk
    obtain ⟨arr, fz, h2⟩ := hc.2 hl ad e
    have hm' : ad.block = b := by simpa using hm
    rw [hm'] at h2
    exact noC_blk hb (by decide) arr fz h2⟩ hN hn8 hcs
end Go.Proofs.YtciaallekkdnhaaGreat

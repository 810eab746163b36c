/-
  The reference's disk: Write, Sync, Cut, Read.
-/
import Derived.Test.YtbmakjhfoaadoaaRdA
namespace Go.Proofs.Ytbmakjhfoaadoaa
open Go.RowKit

/-- At block r lies the reference's disk d; G is the list of the blocks that it owns. -/
def Rsk (w : World) (G : List Nat) (r : Nat) (d : Dm.Dk) : Prop := ∃ sv lv, G = r :: (sv.ownBlock.toList ++ lv.ownBlock.toList) ∧ RdAt w r sv lv d
def RskTo (w w' : World) (G : List Nat) (r : Nat) (d : Dm.Dk) : Prop := ∃ G', Rsk w' G' r d ∧ Fr G w w' ∧ ∀ g ∈ G', g ∈ G ∨ w.heap.size ≤ g
theorem Rsk.fr {w w' : World} {G S : List Nat} {r : Nat} {d : Dm.Dk} (h : Rsk w G r d) (hf : Fr S w w') (hs : ∀ g ∈ G, g ∉ S) : Rsk w' G r d := by
  obtain ⟨sv, lv, rfl, h⟩ := h
  exact ⟨sv, lv, rfl, h.blk.fr hf (hs _ (by simp)), h.sure.fr hf (fun g hg => hs _ (by simp [hg])), h.pend.fr hf (fun g hg => hs _ (by simp [hg])), h.ok⟩
theorem Rsk.lt {w : World} {G : List Nat} {r : Nat} {d : Dm.Dk} (h : Rsk w G r d) : ∀ g ∈ G, g < w.heap.size := by
  obtain ⟨sv, lv, rfl, h⟩ := h
  intro g hg
  simp only [List.mem_cons, List.mem_append, Option.mem_toList] at hg
  rcases hg with rfl | hg | hg
  · exact h.blk.lt
  · exact h.sure.lt hg
  · exact h.pend.lt hg
theorem Rsk.same {w : World} {G : List Nat} {r : Nat} {d : Dm.Dk} (h : Rsk w G r d) : RskTo w w G r d := ⟨G, h, Fr.refl _ _, fun _ hg => .inl hg⟩
theorem rwrite_end {w w5 w6 : World} {r : Nat} {sv v5 : Value} {Al : Option Addr} {n cl : Nat} {d d' : Dm.Dk} {u : Dm.Wr} {cells : Array Value} (hr : RdAt w r sv (.slice Al n cl) d) (f5 : Fr (Value.slice Al n cl).ownBlock.toList (w.alloc (.cells cells 80)) w5) (f6 : Fr [r] w5 w6)
    (hb : Blk w6 r 43 (refDisk d' sv v5)) (ho : OwnL 80 2 Dm.Wr.cells w5 v5 (d.pend ++ [u])) (hat : v5.ownBlock = (Value.slice Al n cl).ownBlock ∨ v5.ownBlock = some (w.alloc (.cells cells 80)).heap.size) (e1 : d'.sure = d.sure) (e2 : d'.pend = d.pend ++ [u]) (hok : Dm.Ok d') :
    RskTo w w6 (r :: (sv.ownBlock.toList ++ (Value.slice Al n cl).ownBlock.toList)) r d' := by
  have fa : Fr (Value.slice Al n cl).ownBlock.toList w w5 := ((Fr.refl _ w).alloc _).trans' f5 (fun i hi => .inl hi)
  have hbr : Blk w5 r 43 _ := hr.blk.fr fa (fun hm => hr.pend.ne hr.blk (by decide) (Option.mem_toList.1 hm) rfl)
  have hsn : ∀ g, sv.ownBlock = some g → g ∉ (Value.slice Al n cl).ownBlock.toList := fun g hg hm => by
    rcases hr.pend.2 with ⟨e, _⟩ | ⟨g', cap2, cur, e, _, hh, _⟩
    · rw [e] at hm; simp [Value.ownBlock] at hm
    · rw [e] at hm
      have e3 : g = g' := by simpa [Value.ownBlock] using hm
      exact hr.sure.ne (show Blk w g' _ cur from hh) (by decide) hg e3
  refine ⟨_, ⟨sv, v5, rfl, hb, ?_, ?_, hok⟩, (fa.mono (fun i hi => .inl (by simp at hi ⊢; exact .inr (.inr hi)))).trans (f6.mono (by simp)), fun g hg => ?_⟩
  · rw [e1]
    exact (hr.sure.fr fa hsn).fr f6 (fun g hg => by simpa using hr.sure.ne hr.blk (by decide) hg)
  · rw [e2]
    exact ho.fr f6 (fun g hg => by simpa using ho.ne hbr (by decide) hg)
  · simp only [List.mem_cons, List.mem_append, Option.mem_toList] at hg ⊢
    rcases hg with hg | hg | hg
    · exact .inl (.inl hg)
    · exact .inl (.inr (.inl hg))
    · rcases hat with h1 | h1
      · exact .inl (.inr (.inr (h1 ▸ hg)))
      · right
        rw [hg] at h1
        injection h1 with h1
        rw [h1]
        simp
set_option maxRecDepth 100000 in
set_option maxHeartbeats 2000000 in
theorem rwrite_any (r : Nat) (G : List Nat) (d : Dm.Dk) (off : Int) (s : List UInt8) (w : World) (h : Rsk w G r d) (ho : okI off) (hs : s.length ≤ maxLen) (hpl : d.pend.length ≤ 100000) (hlf : okI d.left) :
    Calls Try.prog 30 #[.pointer (some ⟨r, 0, none⟩), .int .i64 off, .string ⟨s.toArray⟩] w fun e w' => e = .returned (.int .i64 (Dm.writeCode d off s)) ∧ RskTo w w' G r (Dm.write d off s) := by
  have H := Lib.hid h
  obtain ⟨sv, lv, rfl, hr⟩ := h
  obtain ⟨As, cs, hsv⟩ := hr.sure.val
  obtain ⟨Al, cl, hlv⟩ := hr.pend.val
  subst hsv hlv
  have b0 : w.cell? ⟨r, 0, none⟩ = some (.slice As d.sure.length cs) := hr.blk.cell 0
  have b1 : w.cell? ⟨r, 1, none⟩ = some (.slice Al d.pend.length cl) := hr.blk.cell 1
  have b2 : w.cell? ⟨r, 2, none⟩ = some (.bool d.off) := hr.blk.cell 2
  have b3 : w.cell? ⟨r, 3, none⟩ = some (.int .i64 d.left) := hr.blk.cell 3
  obtain ⟨o1, o2⟩ := okI_bounds ho
  have hn2 := hr.ok.n2
  unfold maxLen at hs
  have HR := Lib.hid hr
  have HW : Hid (Dm.write d off s = if Dm.writes d off s = true then ⟨d.sure, d.pend ++ [⟨off.toNat, s⟩], (Dm.used d.off d.left).1, (Dm.used d.off d.left).2⟩ else d) := Lib.hid rfl
  have HWS : Hid (Dm.writes d off s = (!d.off && Dm.inside d off s.length)) := Lib.hid rfl
  have HWC : Hid (Dm.writeCode d off s = if d.off = true then 221 else if Dm.inside d off s.length = true then 0 else 220) := Lib.hid rfl
  have HI : Hid (Dm.inside d off s.length = decide (0 ≤ off ∧ (0 : Int) ≤ s.length ∧ off ≤ d.sure.length ∧ (s.length : Int) ≤ (d.sure.length : Int) - off)) := Lib.hid rfl
  clear hr ho
  cases hd : d.off
  · rw [hd] at b2
    by_cases hin : 0 ≤ off ∧ off ≤ d.sure.length ∧ (s.length : Int) ≤ (d.sure.length : Int) - off
    · obtain ⟨h1, h2, h3⟩ := hin
      have hi : Dm.inside d off s.length = true := by rw [HI.out]; exact decide_eq_true ⟨h1, by omega, h2, h3⟩
      have EC : Hid (Dm.writeCode d off s = 0) := Lib.hid (by rw [HWC.out, hd, hi]; rfl)
      have EW : Hid (Dm.write d off s = ⟨d.sure, d.pend ++ [⟨off.toNat, s⟩], (Dm.used false d.left).1, (Dm.used false d.left).2⟩) := Lib.hid (by rw [HW.out, HWS.out, hd, hi]; rfl)
      obtain ⟨o, rfl⟩ : ∃ o : Nat, off = (o : Int) := ⟨off.toNat, by omega⟩
      rw [Int.toNat_natCast] at EW
      have hlo := HR.out.ok.left
      have HOK := Lib.hid (HR.out.ok.write (o : Int) s)
      obtain ⟨i0, z, TC⟩ := etC
      have HL := Lib.hid (HR.out.pend.fr (S := []) ((Fr.refl _ w).alloc (.cells #[.int .i64 o, .string ⟨s.toArray⟩] 80)) (by simp))
      have HBA := Lib.hid (HR.out.blk.alloc (.cells #[.int .i64 o, .string ⟨s.toArray⟩] 80))
      have HNR : Hid (r ∉ (Value.slice Al d.pend.length cl).ownBlock.toList) := Lib.hid (fun hm => HR.out.pend.ne HR.out.blk (by decide) (Option.mem_toList.1 hm) rfl)
      have HDF := Lib.hid hd
      clear hi hd
      by_cases hl0 : d.left = 0
      · rw [hl0] at b3 EW
        have HL0 := Lib.hid hl0
        clear hl0
        go_enter Try.func30, Try.ntmps30
        go_wp2_with (at_builtin; refine wpList_appendL rfl _ _ rfl TC Dm.Wr.cells_len Dm.Wr.cells_one rfl HL.out (w.heap.size + 1) _ _ _ [⟨o, s⟩] rfl rfl (reads_new (enc := Dm.Wr.cells) w 80 ⟨o, s⟩ rfl) (by simp only [maxLen, List.length_singleton]; omega) (by simp only [List.length_singleton]; omega) ?_; intro v5 w5 hown5 hg5 hat5; have f5 : Fr (Value.slice Al d.pend.length cl).ownBlock.toList (w.alloc (.cells #[.int .i64 o, .string ⟨s.toArray⟩] 80)) w5 := (Fr.refl _ _).grown hg5 (fun g hg => .inl (Option.mem_toList.2 hg)); have hb5 := HBA.out.fr f5 HNR.out; have HO5 := Lib.hid hown5; have HB5 := Lib.hid hb5; have F5 := Lib.hid f5; have HA5 := Lib.hid hat5; have z1 := hb5.frozen 1; have z2 := hb5.frozen 2; have z3 := hb5.frozen 3; have q1 := hb5.cell 1; have q2 := hb5.cell 2; have q3 : w5.cell? ⟨r, 3, none⟩ = some (.int .i64 0) := (hb5.cell 3).trans (by rw [show (refDisk d (.slice As d.sure.length cs) (.slice Al d.pend.length cl))[3]? = some (.int .i64 d.left) from rfl, HL0.out]); have hlt := hb5.lt; obtain ⟨A5, c5, hv5⟩ := hown5.val; obtain ⟨n5, hn5⟩ : ∃ n5, n5 = (d.pend ++ [(⟨o, s⟩ : Dm.Wr)]).length := ⟨_, rfl⟩; rw [← hn5] at hv5; have HN5 := Lib.hid hn5; clear hn5 hown5 hb5 f5 hg5 hat5; subst hv5)
        have HB6 : Hid (Blk ((w5.setCell ⟨r, 1, none⟩ (.slice A5 n5 c5))) r 43 (refDisk (Dm.write d o s) (.slice As d.sure.length cs) (.slice A5 n5 c5))) := Lib.hid (by
          have h5 := HB5.out.set_ 1 (.slice A5 n5 c5)
          rw [EW.out]
          simpa [refDisk, Dm.used, HL0.out, HDF.out] using h5)
        have F6 : Hid (Fr [r] w5 ((w5.setCell ⟨r, 1, none⟩ (.slice A5 n5 c5)))) := Lib.hid ((Fr.refl _ _).setCell (.inl (by simp)) _)
        go_ret
        exact ⟨by rw [EC.out]; rfl, rwrite_end HR.out F5.out F6.out HB6.out HO5.out HA5.out (by rw [EW.out]) (by rw [EW.out]) HOK.out⟩
      · by_cases hl1 : d.left = 1
        · rw [hl1] at b3 EW
          have HL0 := Lib.hid hl1
          clear hl1 hl0
          go_enter Try.func30, Try.ntmps30
          go_wp2_with (at_builtin; refine wpList_appendL rfl _ _ rfl TC Dm.Wr.cells_len Dm.Wr.cells_one rfl HL.out (w.heap.size + 1) _ _ _ [⟨o, s⟩] rfl rfl (reads_new (enc := Dm.Wr.cells) w 80 ⟨o, s⟩ rfl) (by simp only [maxLen, List.length_singleton]; omega) (by simp only [List.length_singleton]; omega) ?_; intro v5 w5 hown5 hg5 hat5; have f5 : Fr (Value.slice Al d.pend.length cl).ownBlock.toList (w.alloc (.cells #[.int .i64 o, .string ⟨s.toArray⟩] 80)) w5 := (Fr.refl _ _).grown hg5 (fun g hg => .inl (Option.mem_toList.2 hg)); have hb5 := HBA.out.fr f5 HNR.out; have HO5 := Lib.hid hown5; have HB5 := Lib.hid hb5; have F5 := Lib.hid f5; have HA5 := Lib.hid hat5; have z1 := hb5.frozen 1; have z2 := hb5.frozen 2; have z3 := hb5.frozen 3; have q1 := hb5.cell 1; have q2 := hb5.cell 2; have q3 : w5.cell? ⟨r, 3, none⟩ = some (.int .i64 1) := (hb5.cell 3).trans (by rw [show (refDisk d (.slice As d.sure.length cs) (.slice Al d.pend.length cl))[3]? = some (.int .i64 d.left) from rfl, HL0.out]); have hlt := hb5.lt; obtain ⟨A5, c5, hv5⟩ := hown5.val; obtain ⟨n5, hn5⟩ : ∃ n5, n5 = (d.pend ++ [(⟨o, s⟩ : Dm.Wr)]).length := ⟨_, rfl⟩; rw [← hn5] at hv5; have HN5 := Lib.hid hn5; clear hn5 hown5 hb5 f5 hg5 hat5; subst hv5)
          have HB6 : Hid (Blk (((w5.setCell ⟨r, 1, none⟩ (.slice A5 n5 c5)).setCell ⟨r, 3, none⟩ (.int .i64 0)).setCell ⟨r, 2, none⟩ (.bool true)) r 43 (refDisk (Dm.write d o s) (.slice As d.sure.length cs) (.slice A5 n5 c5))) := Lib.hid (by
            have h5 := ((HB5.out.set_ 1 (.slice A5 n5 c5)).set_ 3 (.int .i64 0)).set_ 2 (.bool true)
            rw [EW.out]
            simpa [refDisk, Dm.used, HL0.out, HDF.out] using h5)
          have F6 : Hid (Fr [r] w5 (((w5.setCell ⟨r, 1, none⟩ (.slice A5 n5 c5)).setCell ⟨r, 3, none⟩ (.int .i64 0)).setCell ⟨r, 2, none⟩ (.bool true))) := Lib.hid ((((Fr.refl _ _).setCell (.inl (by simp)) _).setCell (.inl (by simp)) _).setCell (.inl (by simp)) _)
          go_ret
          exact ⟨by rw [EC.out]; rfl, rwrite_end HR.out F5.out F6.out HB6.out HO5.out HA5.out (by rw [EW.out]) (by rw [EW.out]) HOK.out⟩
        · have hl2 : 1 < d.left := by omega
          have hl3 := (okI_bounds hlf).2
          have EU : Hid (Dm.used false d.left = (false, d.left - 1)) := Lib.hid (by unfold Dm.used; rw [if_neg hl0, decide_eq_false (by omega)])
          rw [EU.out] at EW
          clear hl0 hl1
          go_enter Try.func30, Try.ntmps30
          go_wp2_with (at_builtin; refine wpList_appendL rfl _ _ rfl TC Dm.Wr.cells_len Dm.Wr.cells_one rfl HL.out (w.heap.size + 1) _ _ _ [⟨o, s⟩] rfl rfl (reads_new (enc := Dm.Wr.cells) w 80 ⟨o, s⟩ rfl) (by simp only [maxLen, List.length_singleton]; omega) (by simp only [List.length_singleton]; omega) ?_; intro v5 w5 hown5 hg5 hat5; have f5 : Fr (Value.slice Al d.pend.length cl).ownBlock.toList (w.alloc (.cells #[.int .i64 o, .string ⟨s.toArray⟩] 80)) w5 := (Fr.refl _ _).grown hg5 (fun g hg => .inl (Option.mem_toList.2 hg)); have hb5 := HBA.out.fr f5 HNR.out; have HO5 := Lib.hid hown5; have HB5 := Lib.hid hb5; have F5 := Lib.hid f5; have HA5 := Lib.hid hat5; have z1 := hb5.frozen 1; have z2 := hb5.frozen 2; have z3 := hb5.frozen 3; have q1 := hb5.cell 1; have q2 := hb5.cell 2; have q3 : w5.cell? ⟨r, 3, none⟩ = some (.int .i64 d.left) := hb5.cell 3; have hlt := hb5.lt; obtain ⟨A5, c5, hv5⟩ := hown5.val; obtain ⟨n5, hn5⟩ : ∃ n5, n5 = (d.pend ++ [(⟨o, s⟩ : Dm.Wr)]).length := ⟨_, rfl⟩; rw [← hn5] at hv5; have HN5 := Lib.hid hn5; clear hn5 hown5 hb5 f5 hg5 hat5; subst hv5)
          have HB6 : Hid (Blk ((w5.setCell ⟨r, 1, none⟩ (.slice A5 n5 c5)).setCell ⟨r, 3, none⟩ (.int .i64 (d.left - 1))) r 43 (refDisk (Dm.write d o s) (.slice As d.sure.length cs) (.slice A5 n5 c5))) := Lib.hid (by
            have h5 := (HB5.out.set_ 1 (.slice A5 n5 c5)).set_ 3 (.int .i64 (d.left - 1))
            rw [EW.out]
            simpa [refDisk, Dm.used, HDF.out] using h5)
          have F6 : Hid (Fr [r] w5 ((w5.setCell ⟨r, 1, none⟩ (.slice A5 n5 c5)).setCell ⟨r, 3, none⟩ (.int .i64 (d.left - 1)))) := Lib.hid (((Fr.refl _ _).setCell (.inl (by simp)) _).setCell (.inl (by simp)) _)
          go_ret
          exact ⟨by rw [EC.out]; rfl, rwrite_end HR.out F5.out F6.out HB6.out HO5.out HA5.out (by rw [EW.out]) (by rw [EW.out]) HOK.out⟩
    · have hi : Dm.inside d off s.length = false := by rw [HI.out]; exact decide_eq_false (fun h => hin ⟨h.1, h.2.2.1, h.2.2.2⟩)
      have EC : Hid (Dm.writeCode d off s = 220) := Lib.hid (by rw [HWC.out, hd, hi]; rfl)
      have EW : Hid (Dm.write d off s = d) := Lib.hid (by rw [HW.out, HWS.out, hd, hi]; rfl)
      clear hi
      by_cases h1 : off < 0
      · clear hin
        go_enter Try.func30, Try.ntmps30
        go_wp2_with fail
        go_ret
        exact ⟨by rw [EC.out]; rfl, by rw [EW.out]; exact H.out.same⟩
      · by_cases h2 : (d.sure.length : Int) < off
        · clear hin
          go_enter Try.func30, Try.ntmps30
          go_wp2_with fail
          go_ret
          exact ⟨by rw [EC.out]; rfl, by rw [EW.out]; exact H.out.same⟩
        · have h3 : (d.sure.length : Int) - off < (s.length : Int) := by omega
          have h4 : 0 ≤ off := by omega
          have h5 : off ≤ d.sure.length := by omega
          clear hin h1 h2
          go_enter Try.func30, Try.ntmps30
          go_wp2_with fail
          go_ret
          exact ⟨by rw [EC.out]; rfl, by rw [EW.out]; exact H.out.same⟩
  · rw [hd] at b2
    have EC : Hid (Dm.writeCode d off s = 221) := Lib.hid (by rw [HWC.out, hd]; rfl)
    have EW : Hid (Dm.write d off s = d) := Lib.hid (by rw [HW.out, HWS.out, hd]; rfl)
    go_enter Try.func30, Try.ntmps30
    go_wp2_with fail
    go_ret
    exact ⟨by rw [EC.out]; rfl, by rw [EW.out]; exact H.out.same⟩
set_option maxRecDepth 100000 in
set_option maxHeartbeats 2000000 in
theorem rsync_any (r : Nat) (G : List Nat) (d : Dm.Dk) (w : World) (h : Rsk w G r d) : Calls Try.prog 31 #[.pointer (some ⟨r, 0, none⟩)] w fun e w' => e = .returned (.int .i64 (Dm.syncCode d)) ∧ RskTo w w' G r (Dm.sync d) := by
  have H := Lib.hid h
  obtain ⟨sv, lv, rfl, hr⟩ := h
  have b2 : w.cell? ⟨r, 2, none⟩ = some (.bool d.off) := hr.blk.cell 2
  have HR := Lib.hid hr
  have HS : Hid (Dm.sync d = if d.off = true then d else { d with sure := d.vis, pend := [] }) := Lib.hid rfl
  have HC : Hid (Dm.syncCode d = if d.off = true then 221 else 0) := Lib.hid rfl
  have HOK := Lib.hid hr.ok.sync
  clear hr
  cases hd : d.off
  · rw [hd] at b2
    have EC : Hid (Dm.syncCode d = 0) := Lib.hid (by rw [HC.out, hd]; rfl)
    have ES : Hid (Dm.sync d = { d with sure := d.vis, pend := [] }) := Lib.hid (by rw [HS.out, hd]; rfl)
    have HDF := Lib.hid hd
    clear hd
    go_enter Try.func31, Try.ntmps31
    go_wp2_with fail
    refine (visible_any r _ _ d w HR.out).mono ?_
    rintro e w1 ⟨g, c, ⟨rfl, ho, hg⟩, f1⟩
    have hr1 := HR.out.fr0 f1
    have hb := hr1.blk
    have z0 := hb.frozen 0
    have z1 := hb.frozen 1
    have hlt := hb.lt
    have c0 := hb.cell 0
    have c1 := hb.cell 1
    have HB : Hid (Blk ((w1.setCell ⟨r, 0, none⟩ (.slice (some ⟨g, 0, none⟩) d.sure.length c)).setCell ⟨r, 1, none⟩ (.slice none 0 0)) r 43 (refDisk (Dm.sync d) (.slice (some ⟨g, 0, none⟩) d.sure.length c) (.slice none 0 0))) := Lib.hid (by
      have h5 := (hb.set_ 0 (.slice (some ⟨g, 0, none⟩) d.sure.length c)).set_ 1 (.slice none 0 0)
      rw [ES.out]
      simpa [refDisk] using h5)
    have f2 : Fr [r] w1 ((w1.setCell ⟨r, 0, none⟩ (.slice (some ⟨g, 0, none⟩) d.sure.length c)).setCell ⟨r, 1, none⟩ (.slice none 0 0)) := ((Fr.refl _ _).setCell (.inl (by simp)) _).setCell (.inl (by simp)) _
    have HO : Hid (OwnL 5 1 encB ((w1.setCell ⟨r, 0, none⟩ (.slice (some ⟨g, 0, none⟩) d.sure.length c)).setCell ⟨r, 1, none⟩ (.slice none 0 0)) (.slice (some ⟨g, 0, none⟩) d.sure.length c) d.vis) := Lib.hid (ho.fr f2 (fun x hx => by simpa using ho.ne hb (by decide) hx))
    have HFF := Lib.hid ((f1.mono (S' := r :: (sv.ownBlock.toList ++ lv.ownBlock.toList)) (by simp)).trans (f2.mono (by simp)))
    have HG := Lib.hid hg
    clear ho hr1 hb f1 f2 hg
    go_wp2_with fail
    go_ret
    refine ⟨by rw [EC.out]; rfl, _, ⟨.slice (some ⟨g, 0, none⟩) d.sure.length c, .slice none 0 0, rfl, HB.out, by rw [ES.out]; exact HO.out, by rw [ES.out]; exact OwnL.nil, HOK.out⟩, HFF.out, fun x hx => ?_⟩
    simp only [Value.ownBlock, Option.toList, List.cons_append, List.nil_append, List.append_nil, List.mem_cons, List.not_mem_nil, or_false] at hx
    rcases hx with rfl | rfl
    · exact .inl (by simp)
    · exact .inr HG.out
  · rw [hd] at b2
    have EC : Hid (Dm.syncCode d = 221) := Lib.hid (by rw [HC.out, hd]; rfl)
    have ES : Hid (Dm.sync d = d) := Lib.hid (by rw [HS.out, hd]; rfl)
    go_enter Try.func31, Try.ntmps31
    go_wp2_with fail
    go_ret
    exact ⟨by rw [EC.out]; rfl, by rw [ES.out]; exact H.out.same⟩
set_option maxRecDepth 100000 in
set_option maxHeartbeats 2000000 in
theorem rcut_any (r : Nat) (G : List Nat) (d : Dm.Dk) (n : Int) (w : World) (h : Rsk w G r d) : Calls Try.prog 32 #[.pointer (some ⟨r, 0, none⟩), .int .i64 n] w fun e w' => e = .returned (.int .i64 (Dm.cutCode d n)) ∧ RskTo w w' G r (Dm.cut d n) := by
  have H := Lib.hid h
  obtain ⟨sv, lv, rfl, hr⟩ := h
  have b2 : w.cell? ⟨r, 2, none⟩ = some (.bool d.off) := hr.blk.cell 2
  have b3 : w.cell? ⟨r, 3, none⟩ = some (.int .i64 d.left) := hr.blk.cell 3
  have z2 := hr.blk.frozen 2
  have z3 := hr.blk.frozen 3
  have hlt := hr.blk.lt
  have HR := Lib.hid hr
  have HC : Hid (Dm.cut d n = if d.off = true ∨ n < 0 then d else { d with off := decide (n = 0), left := n }) := Lib.hid rfl
  have HD : Hid (Dm.cutCode d n = if d.off = true then 221 else if n < 0 then 2 else 0) := Lib.hid rfl
  have HOK := Lib.hid (hr.ok.cut n)
  clear hr
  cases hd : d.off
  · rw [hd] at b2
    by_cases hn : n < 0
    · have EC : Hid (Dm.cutCode d n = 2) := Lib.hid (by rw [HD.out, hd]; simp [hn])
      have ES : Hid (Dm.cut d n = d) := Lib.hid (by rw [HC.out, if_pos (.inr hn)])
      go_enter Try.func32, Try.ntmps32
      go_wp2_with fail
      go_ret
      exact ⟨by rw [EC.out]; rfl, by rw [ES.out]; exact H.out.same⟩
    · have EC : Hid (Dm.cutCode d n = 0) := Lib.hid (by rw [HD.out, hd]; simp [hn])
      have ES : Hid (Dm.cut d n = { d with off := decide (n = 0), left := n }) := Lib.hid (by rw [HC.out, if_neg (fun h => by rcases h with h | h; (rw [hd] at h; cases h); exact hn h)])
      have HB : Hid (Blk ((w.setCell ⟨r, 3, none⟩ (.int .i64 n)).setCell ⟨r, 2, none⟩ (.bool (decide (n = 0)))) r 43 (refDisk (Dm.cut d n) sv lv)) := Lib.hid (by
        have h2 := (HR.out.blk.set_ 3 (.int .i64 n)).set_ 2 (.bool (decide (n = 0)))
        rw [ES.out]
        simpa [refDisk] using h2)
      have HF := Lib.hid (((Fr.refl [r] w).setCell (p := ⟨r, 3, none⟩) (.inl (by simp)) (.int .i64 n)).setCell (p := ⟨r, 2, none⟩) (.inl (by simp)) (.bool (decide (n = 0))))
      have hn0 : 0 ≤ n := by omega
      clear hn hd
      go_enter Try.func32, Try.ntmps32
      go_wp2_with fail
      go_ret
      refine ⟨by rw [EC.out]; rfl, _, ⟨sv, lv, rfl, HB.out, ?_, ?_, HOK.out⟩, HF.out.mono (by simp), fun g hg => .inl hg⟩
      · rw [ES.out]; exact HR.out.sure.fr HF.out (fun g hg => by simpa using HR.out.sure.ne HR.out.blk (by decide) hg)
      · rw [ES.out]; exact HR.out.pend.fr HF.out (fun g hg => by simpa using HR.out.pend.ne HR.out.blk (by decide) hg)
  · rw [hd] at b2
    have EC : Hid (Dm.cutCode d n = 221) := Lib.hid (by rw [HD.out, hd]; rfl)
    have ES : Hid (Dm.cut d n = d) := Lib.hid (by rw [HC.out, if_pos (.inl hd)])
    go_enter Try.func32, Try.ntmps32
    go_wp2_with fail
    go_ret
    exact ⟨by rw [EC.out]; rfl, by rw [ES.out]; exact H.out.same⟩
end Go.Proofs.Ytbmakjhfoaadoaa

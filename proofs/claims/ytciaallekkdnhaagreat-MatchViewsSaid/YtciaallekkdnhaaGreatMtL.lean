/-
  make: the lists of an index.
-/
import Derived.Test.YtciaallekkdnhaaGreatMtJ
import Derived.Test.YtciaallekkdnhaaGreatJq
import Derived.Test.YtciaallekkdnhaaGreatJm
import Derived.Test.YtciaallekkdnhaaGreatJs
namespace Go.Proofs.YtciaallekkdnhaaGreat
open Go.RowKit

theorem etIv : ∃ i z, ET Tryz.prog 142 144 4 32 i z := by
  have h : (Tryz.prog.info? 144).map (fun i => (i.zero, i.size, i.bytes)) = some (some (.agg #[.int .i64 0, .int .i64 0, .int .i64 0, .int .i64 0]), 4, 32) := by kernel_rfl
  obtain ⟨i0, hi, hz0, hz1, hz2⟩ := info_parts h
  exact ⟨i0, _, Tryz.underlying142, hi, hz0, hz1, hz2, rfl, by decide⟩
theorem etJ : ∃ i z, ET Tryz.prog 49 3 1 8 i z := by
  have h : (Tryz.prog.info? 3).map (fun i => (i.zero, i.size, i.bytes)) = some (some (.int .i64 0), 1, 8) := by kernel_rfl
  obtain ⟨i0, hi, hz0, hz1, hz2⟩ := info_parts h
  exact ⟨i0, _, Tryz.underlying49, hi, hz0, hz1, hz2, rfl, by decide⟩
/-- While the queries are gone through: n the number of blocks ahead. -/
structure MkA (w wr : World) (n m : Nat) (M done rest : Mm.Ix) (RV : List (IdK × RvL Mm.Iv)) (JV : List (Int × RvL Int)) : Prop where
  perm : M.Perm (done ++ rest)
  iter : Iter Tryz.prog 3 (Lit.int .i64) Qry.val wr m (n + 4) M rest
  raw : VMap Tryz.prog 141 klPl (fun u : RvL Mm.Iv => u.1) wr n RV
  scans : VMap Tryz.prog 141 klPl (fun u : RvL Mm.Iv => u.1) wr (n + 1) []
  joins : VMap Tryz.prog 3 (Lit.int .i64) (fun u : RvL Int => u.1) wr (n + 2) JV
  box : Blk wr (n + 3) 137 #[.map (some (n + 1)), .map (some (n + 2))]
  rows : QRows 144 4 Mm.Iv.cells (n + 5) wr RV
  rowsJ : QRows 3 1 encJ (n + 5) wr JV
  fact : Mm.Raw done (shedP RV) (shedJ JV)
  lens : RV.length ≤ done.length ∧ JV.length ≤ done.length
  fr : Fr [] w wr
/-- While the rows are sorted: those that are, and those still to come. -/
structure MkC (w wr : World) (n r : Nat) (RV done rest SV : List (IdK × RvL Mm.Iv)) (JV : List (Int × RvL Int)) : Prop where
  perm : RV.Perm (done ++ rest)
  iter : Iter Tryz.prog 141 klPl (fun u : RvL Mm.Iv => u.1) wr n r RV rest
  scans : VMap Tryz.prog 141 klPl (fun u : RvL Mm.Iv => u.1) wr (n + 1) SV
  joins : VMap Tryz.prog 3 (Lit.int .i64) (fun u : RvL Int => u.1) wr (n + 2) JV
  box : Blk wr (n + 3) 137 #[.map (some (n + 1)), .map (some (n + 2))]
  rows : QRows 144 4 Mm.Iv.cells (n + 5) wr (SV ++ rest)
  rowsJ : QRows 3 1 encJ (n + 5) wr JV
  scd : Mm.Scd (shedP done) (shedP SV)
  keys : ∀ e ∈ SV, ∃ d ∈ done, d.1 = e.1
  len : SV.length ≤ done.length
  fr : Fr [] w wr
section
variable {K X : Type} {e size B : Nat} {enc : X → List Value} {w w' : World}
theorem QRows.touch {C0 : List (K × RvL X)} {x : K} {u : RvL X} {R' : List X} (h : QRows e size enc B w ((x, u) :: C0)) (hk : ∀ p ∈ C0, p.1 ≠ x) (ho : OwnL e size enc w' u.1 R') (hf : Fr u.1.ownBlock.toList w w') : QRows e size enc B w' ((x, (u.1, R')) :: C0) := by
  have hx := h.apart (x, u) (by simp)
  refine ⟨fun p hp => ?_, fun p hp => ?_, fun p hp q hq hne => ?_⟩
  · rcases List.mem_cons.1 hp with rfl | hp
    · exact ho
    · exact (h.own p (List.mem_cons_of_mem _ hp)).fr hf (fun g hg hm => hx p (List.mem_cons_of_mem _ hp) (Ne.symm (hk p hp)) g (by simpa using hm) hg)
  · rcases List.mem_cons.1 hp with rfl | hp
    · exact h.low (x, u) (by simp)
    · exact h.low p (List.mem_cons_of_mem _ hp)
  · rcases List.mem_cons.1 hp with rfl | hp'
    · rcases List.mem_cons.1 hq with rfl | hq'
      · exact absurd rfl hne
      · exact hx q (List.mem_cons_of_mem _ hq') hne
    · rcases List.mem_cons.1 hq with rfl | hq'
      · exact h.apart p (List.mem_cons_of_mem _ hp') (x, u) (by simp) hne
      · exact h.apart p (List.mem_cons_of_mem _ hp') q (List.mem_cons_of_mem _ hq') hne
theorem QRows.sub {C C' : List (K × RvL X)} (h : QRows e size enc B w C) (hs : ∀ p ∈ C', p ∈ C) : QRows e size enc B w C' := ⟨fun p hp => h.own p (hs p hp), fun p hp => h.low p (hs p hp), fun p hp q hq => h.apart p (hs p hp) q (hs q hq)⟩
theorem QRows.besideF {C : List (K × RvL X)} (h : QRows e size enc B w C) {Y : Type} {e2 size2 : Nat} {enc2 : Y → List Value} {v : Value} {L : List Y} (hv : OwnL e2 size2 enc2 w v L) (hne : e ≠ e2) (hf : Fr v.ownBlock.toList w w') : QRows e size enc B w' C := by
  refine ⟨fun p hp => (h.own p hp).fr hf (fun g hg hm => ?_), h.low, h.apart⟩
  have e3 : v.ownBlock = some g := by simpa using hm
  rcases hv.2 with ⟨rfl, _⟩ | ⟨g2, cap2, cur2, rfl, _, hh2, _⟩
  · simp [Value.ownBlock] at e3
  · simp [Value.ownBlock] at e3
    subst e3
    exact (h.own p hp).ne hh2 hne hg rfl
theorem QRows.frI {C : List (K × RvL X)} (h : QRows e size enc B w C) {K2 V2 : Type} {P : Program} {k2 : TypeId} {kl2 : K2 → Lit} {ev2 : V2 → Value} {b2 r : Nat} {M2 rest2 : List (K2 × V2)} (hi : Iter P k2 kl2 ev2 w b2 r M2 rest2) (hf : Fr [r] w w') : QRows e size enc B w' C := by
  refine ⟨fun p hp => (h.own p hp).fr hf (fun g hg hm => ?_), h.low, h.apart⟩
  have e1 : g = r := by simpa using hm
  subst e1
  rcases (h.own p hp).2 with ⟨e2, _⟩ | ⟨g2, cap2, cur2, e2, _, hh2, _⟩
  · rw [e2] at hg
    simp [Value.ownBlock] at hg
  · rw [e2] at hg
    simp [Value.ownBlock] at hg
    subst hg
    exact hi.ne_cells hh2 rfl
theorem RowD.of_own {u : RvL X} {D : List Nat} (henc : ∀ x, (enc x).length = size) (h : OwnL e size enc w u.1 u.2) (hD : ∀ g, u.1.ownBlock = some g → g ∈ D) : RowD enc size w D u := by
  obtain ⟨A, cap, hv⟩ := h.val
  obtain ⟨v, L⟩ := u
  dsimp only at h hv hD ⊢
  subst hv
  obtain ⟨hn, h0 | ⟨g, cur, hA, hb, hc, hm, hs, ht⟩⟩ := h.blk
  · obtain ⟨rfl, rfl, rfl⟩ := h0
    exact ⟨Option.none, 0, rfl, Nat.le_refl _, Nat.zero_le _, fun hl => absurd hl (by simp), fun ad e => (by cases e)⟩
  · exact ⟨A, cap, rfl, hc, hm, (h.at1 henc).1, fun ad e => by subst hA; injection e with e; subst e; exact hD g rfl⟩
end
theorem shedP_perm {RV done : List (IdK × RvL Mm.Iv)} (hp : RV.Perm done) (hn : Nd RV) (k : Int × Int) (L : List Mm.Iv) : mget (shedP RV) k = some L ↔ (k, L) ∈ shedP done := by
  have hs : Nd (shedP RV) := by
    unfold Nd shedP
    rw [List.pairwise_map]
    exact List.Pairwise.imp (fun h e => h (Subtype.ext e)) hn
  rw [mget_iff hs]
  exact (hp.map _).mem_iff
theorem nd_shedP {SV : List (IdK × RvL Mm.Iv)} (hn : Nd SV) : Nd (shedP SV) := by
  unfold Nd shedP
  rw [List.pairwise_map]
  exact List.Pairwise.imp (fun h e => h (Subtype.ext e)) hn
theorem nd_shedJ {JV : List (Int × RvL Int)} (hn : Nd JV) : Nd (shedJ JV) := by
  unfold Nd shedJ
  rw [List.pairwise_map]
  exact hn
theorem other_of {q : Qry} (h : Em.valid q = true) (h7 : q.kind = 7) : 0 ≤ q.other ∧ q.other ≤ 3 := by
  unfold Em.valid at h
  rw [if_neg (by omega), if_pos h7] at h
  unfold Em.within at h
  simp only [Bool.and_eq_true, decide_eq_true_eq] at h
  exact h.2.1
theorem mmake_hit (b m bl : Nat) (_M : Mm.Ix) (w : World) (hb : Blk w b 82 #[.map (some m), .pointer (some ⟨bl, 0, none⟩)]) :
    Calls Tryz.prog 39 #[.pointer (some ⟨b, 0, none⟩)] w fun e w' => e = .returned (.pointer (some ⟨bl, 0, none⟩)) ∧ w' = w := by
  have b1 : w.cell? ⟨b, 1, none⟩ = some (.pointer (some ⟨bl, 0, none⟩)) := hb.cell 1
  clear hb
  go_enter Tryz.func39, Tryz.ntmps39
  go_wp2
  go_ret
  exact ⟨rfl, rfl⟩
set_option maxRecDepth 100000 in
set_option maxHeartbeats 8000000 in
theorem mmake_miss (b m : Nat) (M : Mm.Ix) (w : World) (hm : VMap Tryz.prog 3 (Lit.int .i64) Qry.val w m M) (ho : Mm.Ok M) (hb : Blk w b 82 #[.map (some m), .pointer none]) :
    Calls Tryz.prog 39 #[.pointer (some ⟨b, 0, none⟩)] w fun e w' => ∃ bl D, e = .returned (.pointer (some ⟨bl, 0, none⟩)) ∧ Blk w' b 82 #[.map (some m), .pointer (some ⟨bl, 0, none⟩)] ∧ LsAt w' bl M D ∧ Fr [b] w w' ∧ ∀ x ∈ D, w.heap.size ≤ x ∧ x < w'.heap.size := by
  have b1 : w.cell? ⟨b, 1, none⟩ = some (.pointer none) := hb.cell 1
  obtain ⟨n, hn⟩ : ∃ n, w.heap.size = n := ⟨_, rfl⟩
  have hmn : m < n := by rw [← hn]; exact hm.lt
  have hbn : b < n := by rw [← hn]; exact hb.lt
  have a1 := VMap.made (P := Tryz.prog) (k := 141) klPl (fun u : RvL Mm.Iv => u.1) w
  have a2 := VMap.made (P := Tryz.prog) (k := 141) klPl (fun u : RvL Mm.Iv => u.1) (w.alloc (.map #[] 0))
  have a3 := VMap.made (P := Tryz.prog) (k := 3) (Lit.int .i64) (fun u : RvL Int => u.1) ((w.alloc (.map #[] 0)).alloc (.map #[] 0))
  have a4 := Blk.new (((w.alloc (.map #[] 0)).alloc (.map #[] 0)).alloc (.map #[] 0)) 137 #[.map (some (n + 1)), .map (some (n + 2))]
  have HW4 : Hid (Fr [] w ((((w.alloc (.map #[] 0)).alloc (.map #[] 0)).alloc (.map #[] 0)).alloc (.cells #[.map (some (n + 1)), .map (some (n + 2))] 137))) := Lib.hid (((((Fr.refl _ _).alloc _).alloc _).alloc _).alloc _)
  have A1 := Lib.hid (((a1.alloc (.map #[] 0)).alloc (.map #[] 0)).alloc (.cells #[.map (some (n + 1)), .map (some (n + 2))] 137))
  have A2 := Lib.hid ((a2.alloc (.map #[] 0)).alloc (.cells #[.map (some (n + 1)), .map (some (n + 2))] 137))
  have A3 := Lib.hid (a3.alloc (.cells #[.map (some (n + 1)), .map (some (n + 2))] 137))
  have A4 := Lib.hid a4
  simp only [World.size_alloc, hn] at A1 A2 A3 A4
  have c0 : ((((w.alloc (.map #[] 0)).alloc (.map #[] 0)).alloc (.map #[] 0)).alloc (.cells #[.map (some (n + 1)), .map (some (n + 2))] 137)).cell? ⟨b, 0, none⟩ = some (.map (some m)) := (hb.fr HW4.out (by simp)).cell 0
  have HM := Lib.hid (hm.fr HW4.out (by simp))
  have HB := Lib.hid hb
  have HOK := Lib.hid ho
  have HN := Lib.hid hn
  have hmm := @run_makeMap Tryz.prog
  clear a1 a2 a3 a4 hm ho hb
  go_enter Tryz.func39, Tryz.ntmps39
  go_wp2_with (at_range; refine wpList_vrange _ rfl _ rfl tyIntQry m _ rfl HM.out ?_; intro W0 hit0 hf0 hs0)
  go_frame
  simp only [World.size_alloc, HN.out, Nat.add_assoc, Nat.reduceAdd] at hit0 hs0 A3 A4 ⊢
  have HA0 : Hid (MkA w W0 n m M [] M [] []) := Lib.hid ⟨by simp, hit0, A1.out.fr hf0 (by simp), A2.out.fr hf0 (by simp), A3.out.fr hf0 (by simp), A4.out.fr hf0 (by simp), .nil, .nil, Mm.Raw.nil, by simp, HW4.out.trans hf0⟩
  clear hit0 hf0 hmm b1 c0 HM hs0 A1 A2 A3 A4 HW4 hn
  obtain ⟨i0, z0, TV⟩ := etIv
  obtain ⟨i1, z1, TJ⟩ := etJ
  go_loopw [6] (fun _ wr => ∃ done rest RV JV, Hid (MkA w wr n m M done rest RV JV)) (fun _ wr => wr.rangeLeft m (n + 4))
  case atStart => exact ⟨[], M, [], [], HA0⟩
  case round =>
    clear HA0
    obtain ⟨done, rest, RV, JV, R⟩ := hrel
    go_wp2_with (at_next; refine wpList_vnext _ rfl _ rfl tyIntQry m _ _ _ HOK.out.id rfl R.out.iter ?_ ?_)
    · intro hnil
      subst hnil
      have hpd := R.out.perm
      rw [List.append_nil] at hpd
      have HPD := Lib.hid hpd
      have HFACT := Lib.hid R.out.fact
      have HNR := Lib.hid (R.out.raw.nd tyPlRaw)
      have hrl : RV.length ≤ 500 := by
        have h1 := R.out.lens.1
        have h2 := HOK.out.len
        have h3 := hpd.length_eq
        omega
      have HRL := Lib.hid hrl
      clear hpd hrl
      go_wp2_with (at_range; refine wpList_vrange _ rfl _ rfl tyPlRaw n _ rfl R.out.raw ?_; intro W2 hit2 hf2 hsz2)
      go_frame
      obtain ⟨r2, hr2⟩ : ∃ r, r = wr.heap.size := ⟨_, rfl⟩
      have hr5 : n + 5 ≤ r2 := by rw [hr2]; have := R.out.iter.lt; omega
      rw [← hr2] at hit2 ⊢
      have HC0 : Hid (MkC w W2 n r2 RV [] RV [] JV) := Lib.hid ⟨by simp, hit2, R.out.scans.fr hf2 (by simp), R.out.joins.fr hf2 (by simp), R.out.box.fr hf2 (by simp), by rw [List.nil_append]; exact R.out.rows.fr hf2 (by simp), R.out.rowsJ.fr hf2 (by simp), Mm.Scd.nil, by simp, by simp, R.out.fr.trans hf2⟩
      clear hit2 hf2 hsz2 hr2 R
      go_loopw [12] (fun _ wr => ∃ done2 rest2 SV, Hid (MkC w wr n r2 RV done2 rest2 SV JV)) (fun _ wr => wr.rangeLeft n r2)
      case atStart => exact ⟨[], RV, [], HC0⟩
      case round =>
        clear HC0
        obtain ⟨done2, rest2, SV, R⟩ := hrel
        go_wp2_with (at_next; refine wpList_vnext _ rfl _ rfl tyPlRaw n _ _ _ (fun _ _ => trivial) rfl R.out.iter ?_ ?_)
        · intro hnil
          subst hnil
          have hpd := R.out.perm
          rw [List.append_nil] at hpd
          have hrows := R.out.rows
          rw [List.append_nil] at hrows
          have hnS := R.out.scans.nd tyPlIvs
          have hnJ := R.out.joins.nd tyIntRow
          have hlists : Mm.Lists M (shedP SV) (shedJ JV) := Mm.Lists.of HOK.out HFACT.out HPD.out.symm R.out.scd (shedP_perm hpd HNR.out) (nd_shedP hnS) (nd_shedJ hnJ)
          have hbw := HB.out.fr R.out.fr (by simp)
          have b1 : wr.cell? ⟨b, 1, none⟩ = some (.pointer none) := hbw.cell 1
          have z1 := hbw.frozen 1
          have HLI : Hid (LsIn wr (n + 3) (n + 1) (n + 2) SV JV M ((n + 3) :: (n + 1) :: (n + 2) :: (SV.flatMap (fun e => e.2.1.ownBlock.toList) ++ JV.flatMap (fun e => e.2.1.ownBlock.toList)))) := Lib.hid
            ⟨R.out.box, R.out.scans, R.out.joins,
              fun e he => RowD.of_own Mm.Iv.len (hrows.own e he) (fun g hg => by
                have : g ∈ SV.flatMap (fun e => e.2.1.ownBlock.toList) := List.mem_flatMap.2 ⟨e, he, by simp [hg]⟩
                simp [this]),
              fun e he => RowD.of_own encJ_len (R.out.rowsJ.own e he) (fun g hg => by
                have : g ∈ JV.flatMap (fun e => e.2.1.ownBlock.toList) := List.mem_flatMap.2 ⟨e, he, by simp [hg]⟩
                simp [this]),
              hlists, by simp⟩
          have HDD : Hid (∀ x ∈ ((n + 3) :: (n + 1) :: (n + 2) :: (SV.flatMap (fun e => e.2.1.ownBlock.toList) ++ JV.flatMap (fun e => e.2.1.ownBlock.toList))), n ≤ x ∧ x < wr.heap.size) := Lib.hid (fun x hx => by
            have g1 := R.out.box.lt
            have g2 := R.out.scans.lt
            have g3 := R.out.joins.lt
            simp only [List.mem_cons, List.mem_append, List.mem_flatMap] at hx
            rcases hx with rfl | rfl | rfl | ⟨e, he, hg⟩ | ⟨e, he, hg⟩
            · omega
            · omega
            · omega
            · have := hrows.low e he x (by simpa using hg); have := (hrows.own e he).lt (g := x) (by simpa using hg); omega
            · have := R.out.rowsJ.low e he x (by simpa using hg); have := (R.out.rowsJ.own e he).lt (g := x) (by simpa using hg); omega)
          have HBW := Lib.hid hbw
          have HFW := Lib.hid R.out.fr
          clear hpd hrows hnS hnJ hlists hbw R
          go_wp2
          go_ret
          refine ⟨n + 3, _, rfl, by simpa using HBW.out.set_ 1 (.pointer (some ⟨n + 3, 0, none⟩)), ⟨_, _, SV, JV, HLI.out.fr (S := [b]) ((Fr.refl _ _).setCell (.inl (by simp)) _) (fun x hx hm => by have := (HDD.out x hx).1; simp at hm; omega)⟩, ((HFW.out.mono (by simp)).setCell (.inl (by simp)) _), fun x hx => by rw [HN.out]; simpa using HDD.out x hx⟩
        · intro xt xk hx uv uL rest' w1 hp1 hm1 hit1 hf1 hs2 hen
          obtain ⟨x, hxd⟩ : ∃ x : IdK, x = ⟨(xt, xk), hx⟩ := ⟨_, rfl⟩
          have hnr := HNR.out
          have hnd2 : Nd (done2 ++ (x, ((uv, uL) : RvL Mm.Iv)) :: rest') := by
            rw [hxd]
            exact (List.Perm.pairwise_iff (fun h => Ne.symm h) (R.out.perm.trans (hp1.append_left done2))).1 hnr
          obtain ⟨-, hndr, hndx⟩ := List.pairwise_append.1 hnd2
          have hkS : ∀ p ∈ mdel SV x ++ rest', p.1 ≠ x := fun p hp => by
            rcases List.mem_append.1 hp with h | h
            · exact (mem_mdel.1 h).2
            · exact fun e => (List.pairwise_cons.1 hndr).1 p h e.symm
          have hkD : ∀ p ∈ shedP done2, p.1 ≠ x.1 := fun p hp e => by
            obtain ⟨d, hd, rfl⟩ := List.mem_map.1 hp
            exact hndx d hd (x, ((uv, uL) : RvL Mm.Iv)) (by simp) (Subtype.ext e)
          have hrw : QRows 144 4 Mm.Iv.cells (n + 5) w1 ((x, ((uv, uL) : RvL Mm.Iv)) :: (mdel SV x ++ rest')) := (R.out.rows.frI R.out.iter hf1).sub (fun p hp => by
            have hr : ∀ p, p ∈ rest2 ↔ p ∈ (x, ((uv, uL) : RvL Mm.Iv)) :: rest' := fun p => by rw [hxd]; exact hp1.mem_iff
            rcases List.mem_cons.1 hp with rfl | hp
            · exact List.mem_append.2 (.inr ((hr _).2 (by simp)))
            · rcases List.mem_append.1 hp with h | h
              · exact List.mem_append.2 (.inl (mem_mdel.1 h).1)
              · exact List.mem_append.2 (.inr ((hr _).2 (List.mem_cons_of_mem _ h))))
          have hown := hrw.own (x, ((uv, uL) : RvL Mm.Iv)) (by simp)
          have hlow := hrw.low (x, ((uv, uL) : RvL Mm.Iv)) (by simp)
          dsimp only at hown hlow
          obtain ⟨A, cap, hv⟩ := hown.val
          subst hv
          have hl5 : uL.length ≤ 500 := by
            have h1 : mget (shedP RV) x.1 = some uL := (shedP_perm (List.Perm.refl RV) hnr x.1 uL).2 (List.mem_map.2 ⟨_, hm1, by rw [hxd]⟩)
            have h2 := (HFACT.out.ok _ _ h1).1
            have h3 := HPD.out.length_eq
            have h4 := HOK.out.len
            omega
          have hOS : ∀ g ∈ (Value.slice A uL.length cap).ownBlock.toList, n + 5 ≤ g ∧ g < w1.heap.size ∧ g ≠ r2 := fun g hg => by
            have e3 : (Value.slice A uL.length cap).ownBlock = some g := by simpa using hg
            refine ⟨hlow g e3, hown.lt e3, fun e4 => ?_⟩
            rcases hown.2 with ⟨e5, _⟩ | ⟨g2, cap2, cur2, e5, _, hh2, _⟩
            · rw [e5] at e3
              simp [Value.ownBlock] at e3
            · rw [e5] at e3
              simp [Value.ownBlock] at e3
              subst e3
              exact hit1.ne_cells hh2 e4.symm
          have hbx := Blk.new w1 141 #[.int .i64 xt, .int .i64 xk]
          rw [hs2] at hbx
          have f2 : Fr [] w1 (w1.alloc (.cells #[.int .i64 xt, .int .i64 xk] 141)) := (Fr.refl _ _).alloc _
          have HX1 := Lib.hid (R.out.box.fr hf1 (by simp; omega))
          have HSW : Hid (∀ W, Fr (Value.slice A uL.length cap).ownBlock.toList (w1.alloc (.cells #[.int .i64 xt, .int .i64 xk] 141)) W → (fun W : World => W.cell? ⟨n + 3, 0, none⟩ = some (.map (some (n + 1))) ∧ W.cell? ⟨wr.heap.size, 0, none⟩ = some (.int .i64 xt) ∧ W.cell? ⟨wr.heap.size, 1, none⟩ = some (.int .i64 xk)) W) := Lib.hid (fun W hW => by
            have hb2 := hbx.fr hW (fun hm => by have := (hOS _ hm).2.1; omega)
            exact ⟨((HX1.out.fr f2 (by simp)).fr hW (fun hm => by have := (hOS _ hm).1; omega)).cell 0, hb2.cell 0, hb2.cell 1⟩)
          have HNI := Lib.hid (newIv_any A uL.length cap uL _ ((hown.fr f2 (by simp)).fr ((Fr.refl [] _).drew) (by simp)) hl5)
          have HSC1 := Lib.hid (R.out.scans.fr hf1 (by simp; omega))
          have HJ1 := Lib.hid (R.out.joins.fr hf1 (by simp; omega))
          have HRJ1 := Lib.hid (R.out.rowsJ.frI R.out.iter hf1)
          have HRW := Lib.hid hrw
          have HOWN := Lib.hid hown
          have HOS := Lib.hid hOS
          have HIT := Lib.hid hit1
          have HF1 := Lib.hid hf1
          have HKS := Lib.hid hkS
          have HKD := Lib.hid hkD
          have HXD := Lib.hid hxd
          have HP1 := Lib.hid hp1
          have hsv : SV.length < maxLen := by
            have h1 := R.out.len
            have h2 := R.out.perm.length_eq
            have h3 := HRL.out
            rw [List.length_append] at h2
            simp only [maxLen]
            omega
          clear hl5 hOS hbx f2 hrw hown hlow hit1 hf1 hkS hkD hxd hnr hnd2 hndr hndx hp1 hm1
          go_upto_region 16 with (fail)
          refine wp_region_head (fun W : World => W.cell? ⟨n + 3, 0, none⟩ = some (.map (some (n + 1))) ∧ W.cell? ⟨wr.heap.size, 0, none⟩ = some (.int .i64 xt) ∧ W.cell? ⟨wr.heap.size, 1, none⟩ = some (.int .i64 xk)) 7 (by kernel_rfl) (by rfl) (HSW.out _ ((Fr.refl _ _).drew)) (fun hHeld => ?_)
          refine wpHead_take (i := 0) (oi := ⟨some 85, _, _, _, _, _⟩) (v := ?_) rfl (by kernel_rfl) (fun _ _ _ h => h) (Or.inl ⟨by rfl, ?_⟩) hHeld ?_
          rotate_left
          · (intro w hSw; (try dsimp only at hSw); go_simp; try with_reducible rfl)
          try simp only [Act.put, List.setIfInBounds_toArray, List.set_cons_zero, List.set_cons_succ]
          refine wpHead_take (i := 1) (oi := ⟨some 86, _, _, _, _, _⟩) (v := ?_) rfl (by kernel_rfl) (fun _ _ _ h => h) (Or.inl ⟨by rfl, ?_⟩) hHeld ?_
          rotate_left
          · (intro w hSw; (try dsimp only at hSw); go_simp; try with_reducible rfl)
          try simp only [Act.put, List.setIfInBounds_toArray, List.set_cons_zero, List.set_cons_succ]
          refine wpHead_take (i := 2) (oi := ⟨some 87, _, _, _, _, _⟩) (v := ?_) rfl (by kernel_rfl) (fun _ _ _ h => h) (Or.inl ⟨by rfl, ?_⟩) hHeld ?_
          rotate_left
          · (intro w hSw; (try dsimp only at hSw); go_simp; try with_reducible rfl)
          try simp only [Act.put, List.setIfInBounds_toArray, List.set_cons_zero, List.set_cons_succ]
          refine wpHead_take (i := 3) (oi := ⟨some 88, _, _, _, _, _⟩) (v := ?_) rfl (by kernel_rfl) (fun _ _ _ h => h) (Or.inl ⟨by rfl, ?_⟩) hHeld ?_
          rotate_left
          · (intro w hSw; (try dsimp only at hSw); go_simp; try with_reducible rfl)
          try simp only [Act.put, List.setIfInBounds_toArray, List.set_cons_zero, List.set_cons_succ]
          refine wpHead_take (i := 4) (oi := ⟨some 89, _, _, _, _, _⟩) (v := ?_) rfl (by kernel_rfl) (fun _ _ _ h => h) (Or.inl ⟨by rfl, ?_⟩) hHeld ?_
          rotate_left
          · (intro w hSw; (try dsimp only at hSw); go_simp; try with_reducible rfl)
          try simp only [Act.put, List.setIfInBounds_toArray, List.set_cons_zero, List.set_cons_succ]
          refine wpHead_take (i := 5) (oi := ⟨some 90, _, _, _, _, _⟩) (v := ?_) rfl (by kernel_rfl) (fun _ _ _ h => h) (Or.inl ⟨by rfl, ?_⟩) hHeld ?_
          rotate_left
          · (intro w hSw; (try dsimp only at hSw); go_simp; try with_reducible rfl)
          try simp only [Act.put, List.setIfInBounds_toArray, List.set_cons_zero, List.set_cons_succ]
          refine wpHead_one (i := 6) (o := ⟨some 91, _, _, _, _, _⟩) rfl (by kernel_rfl) (by decide) (fun K hK => ?_)
          go_simp
          refine HNI.out.mono ?_
          rintro e w3 ⟨rfl, R', ho3, hx3, hf3⟩
          have HO3 := Lib.hid ho3
          have HFX := Lib.hid hx3
          have HF3 := Lib.hid hf3
          clear ho3 hx3 hf3 HNI
          refine hK.out _ _ (HSW.out w3 (((Fr.refl _ _).drew).trans HF3.out)) (fun hHeld => ?_)
          clear hK K
          try simp only [Act.put, List.setIfInBounds_toArray, List.set_cons_zero, List.set_cons_succ]
          refine wpHead_done (by kernel_rfl) ?_
          simp only [List.drop_succ_cons, List.drop_zero]
          clear HSW hHeld
          have F13 : Hid (Fr (Value.slice A uL.length cap).ownBlock.toList w1 w3) := Lib.hid (((((Fr.refl [] w1).alloc _).drew).mono (by simp)).trans HF3.out)
          refine wpList_vstore _ rfl _ _ _ rfl tyPlIvs (n + 1) SV rfl (HSC1.out.fr F13.out (fun hm => by have := (HOS.out _ hm).1; omega)) (⟨(xt, xk), hx⟩ : IdK) ((.slice A uL.length cap, R') : RvL Mm.Iv) rfl rfl trivial hsv ?_
          intro w4 hm4 ht4
          have ht4' := turned_fr (S := [n + 1]) ht4 (by simp)
          have HI4 := Lib.hid ((HIT.out.fr F13.out (fun hm => by have := (HOS.out _ hm).1; omega) (fun hm => (HOS.out _ hm).2.2 rfl)).fr ht4' (by simp) (by simp; omega))
          have hr4 := ((HRW.out.fr (((Fr.refl [] w1).alloc (.cells #[.int .i64 xt, .int .i64 xk] 141)).drew) (by simp)).touch HKS.out HO3.out HF3.out).fr ht4' (by simp)
          have hfr4 : Fr [] w w4 := (((R.out.fr.trans' HF1.out (fun x hx => .inr (by have := HN.out; have : x = r2 := (by simpa using hx); omega))).trans' F13.out (fun x hx => .inr (by have := HN.out; have := (HOS.out x hx).1; omega)))).trans' ht4' (by have := HN.out; simp; omega)
          have hpm : RV.Perm ((done2 ++ [(x, ((.slice A uL.length cap, uL) : RvL Mm.Iv))]) ++ rest') := by
            rw [HXD.out]
            exact R.out.perm.trans ((HP1.out.append_left done2).trans (by simp))
          have hscd : Mm.Scd (shedP (done2 ++ [(x, ((.slice A uL.length cap, uL) : RvL Mm.Iv))])) (shedP (mput SV x ((.slice A uL.length cap, R') : RvL Mm.Iv))) := by
            rw [shedP_mput]
            have e : shedP (done2 ++ [(x, ((.slice A uL.length cap, uL) : RvL Mm.Iv))]) = shedP done2 ++ [(x.1, uL)] := by simp [shedP]
            rw [e]
            exact R.out.scd.step HKD.out HFX.out
          rw [← HXD.out] at hm4
          have HC4 : Hid (MkC w w4 n r2 RV (done2 ++ [(x, ((.slice A uL.length cap, uL) : RvL Mm.Iv))]) rest' (mput SV x ((.slice A uL.length cap, R') : RvL Mm.Iv)) JV) := Lib.hid
            ⟨hpm, HI4.out, hm4, (HJ1.out.fr F13.out (fun hm => by have := (HOS.out _ hm).1; omega)).fr ht4' (by simp), (HX1.out.fr F13.out (fun hm => by have := (HOS.out _ hm).1; omega)).fr ht4' (by simp), hr4,
              (HRJ1.out.besideF HOWN.out (by decide) F13.out).fr ht4' (by simp), hscd, fun e he => by
                rcases mem_mput.1 he with rfl | ⟨he', -⟩
                · exact ⟨_, List.mem_append.2 (.inr (List.mem_singleton.2 rfl)), rfl⟩
                · obtain ⟨d, hd, e2⟩ := R.out.keys e he'
                  exact ⟨d, List.mem_append.2 (.inl hd), e2⟩, by
                have h1 := R.out.len
                have h2 : (mdel SV x).length ≤ SV.length := length_mdel_le
                unfold mput
                rw [List.length_cons, List.length_append, List.length_singleton]
                omega, hfr4⟩
          have HLF : Hid (wr.rangeLeft n r2 = rest'.length + 1) := Lib.hid (by rw [R.out.iter.left_eq, HP1.out.length_eq]; simp)
          clear hm4 ht4 ht4' hr4 hfr4 hpm hscd
          try simp only [Act.put]
          go_wp2
          go_roundw
          case rel => exact ⟨_, rest', _, HC4⟩
          case measure => rw [HI4.out.left_eq, HLF.out]; omega
    · intro id q rest' w1 hp1 hm1 hit1 hf1 hs2 hen
      have hqv := HOK.out.valid _ hm1
      have hid := HOK.out.id _ hm1
      have HOT : Hid (q.kind = 7 → okI q.other) := Lib.hid (fun h => by obtain ⟨h1, h2⟩ := other_of (q := q) hqv h; exact okI_mk (by omega) (by omega))
      have HSC := Lib.hid (fun W => qscan_any q hqv W)
      have hbd := Mm.bounds_of hqv
      have HQB := Lib.hid (QAt.new w1 q)
      have HSTEP := Lib.hid (R.out.fact.step (e := (id, q)) hqv hid 0)
      have hw1 : n + 5 ≤ w1.heap.size := by rw [hs2]; have := R.out.iter.lt; omega
      have hdl : done.length + 1 ≤ 500 := by
        have h1 := HOK.out.len
        have h2 := R.out.perm.length_eq
        have h3 := hp1.length_eq
        rw [List.length_append] at h2
        rw [List.length_cons] at h3
        omega
      obtain ⟨qk, qt, qc, ql, qh, qb, qo⟩ := q
      dsimp only at hbd HQB HSTEP HOT
      have hkt : okI qt := okI_mk (by omega) (by omega)
      have hkc : okI qc := okI_mk (by omega) (by omega)
      obtain ⟨pl, hpl⟩ : ∃ pl : IdK, pl = ⟨(qt, qc), hkt, hkc⟩ := ⟨_, rfl⟩
      obtain ⟨v0, hv0⟩ : ∃ v0, v0 = ((mget RV pl).map (fun u : RvL Mm.Iv => u.1)).getD (.slice Option.none 0 0) := ⟨_, rfl⟩
      obtain ⟨L0, hL0⟩ : ∃ L0, L0 = ((mget RV pl).map (fun u : RvL Mm.Iv => u.2)).getD [] := ⟨_, rfl⟩
      have hat := R.out.rows.at_ pl
      rw [← hv0, ← hL0] at hat
      have HLOW : Hid (∀ g, v0.ownBlock = some g → n + 5 ≤ g ∧ g < wr.heap.size) := Lib.hid (fun g hg => ⟨(hat.2 g hg).1, hat.1.lt hg⟩)
      have hll : L0.length ≤ done.length := by
        have h := (Mm.getD_mem (fun L hL => R.out.fact.ok pl.1 L hL)).1
        rw [mget_shedP, ← hL0] at h
        exact h
      have HR1 : Hid (∀ W, Fr [n] w1 W → QRows 144 4 Mm.Iv.cells (n + 5) W RV ∧ QRows 3 1 encJ (n + 5) W JV) := Lib.hid (fun W hW => ⟨(R.out.rows.fr hf1 (by simp)).fr hW (by simp), (R.out.rowsJ.fr hf1 (by simp)).fr hW (by simp)⟩)
      have HRW : Hid (∀ W, Fr [] w1 W → VMap Tryz.prog 141 klPl (fun u : RvL Mm.Iv => u.1) W n RV) := Lib.hid (fun W hW => (R.out.raw.fr hf1 (by simp)).fr hW (by simp))
      have HRL : Hid (RV.length < maxLen) := Lib.hid (by have := R.out.lens.1; simp only [maxLen]; omega)
      have HIT := Lib.hid hit1
      have HF1 := Lib.hid hf1
      have HPL := Lib.hid hpl
      have HV0 := Lib.hid hv0
      have HL0 := Lib.hid hL0
      have HLL := Lib.hid hll
      have HDL := Lib.hid hdl
      have HP1 := Lib.hid hp1
      clear hit1 hf1 hpl hv0 hL0 hll hdl hat hbd hp1 hqv
      dsimp only [Qry.val] at HSC
      go_upto_region 11 with (first
        | (go_at_call 61; refine (HSC.out _).mono ?_; rintro e w3 ⟨rfl, f3⟩; have HQ3 := Lib.hid (QAt.fr HQB.out f3 (by simp)); have F3 : Hid (Fr [] w1 w3) := Lib.hid (((Fr.refl [] w1).alloc _).trans f3); clear f3)
        | (refine wpList_ventry _ rfl _ _ rfl tyPlRaw n RV rfl (HRW.out _ ((F3.out.alloc _).alloc _)) (⟨(qt, qc), hkt, hkc⟩ : IdK) rfl trivial HRL.out ?_; intro st w6 ht6 hl6; rw [← HPL.out] at hl6 ⊢; rw [← HV0.out]; have F6 : Hid (Fr [n] w1 w6) := Lib.hid ((((F3.out.alloc _).alloc _).mono (by simp)).trans (turned_fr ht6 (by simp)));
            have RD6 : Hid (Reads w6 (w3.heap.size + 2) 4 (some ⟨w3.heap.size + 1, 0, none⟩) 1 ([(⟨ql, qh, 0, id⟩ : Mm.Iv)].flatMap Mm.Iv.cells)) := (by
              have h := reads_new (enc := Mm.Iv.cells) (w3.alloc (.cells #[.int .i64 qt, .int .i64 qc] 141)) 144 (⟨ql, qh, 0, id⟩ : Mm.Iv) rfl
              rw [World.size_alloc] at h
              exact Lib.hid (h.fr (by simp) (turned_fr ht6 (S := [n]) (by simp)) (fun ad e => by cases e; have := F3.out.size; simp; omega)));
            have HQ5 := Lib.hid (QAt.fr HQ3.out (((Fr.refl [] w3).alloc (.cells #[.int .i64 qt, .int .i64 qc] 141)).alloc (.cells #[.int .i64 ql, .int .i64 qh, .int .i64 0, .int .i64 id] 144)) (by simp)); have HQ6 := Lib.hid (QAt.fr HQ5.out (turned_fr ht6 (S := [n]) (by simp)) (by simp; omega)); have L6 := Lib.hid hl6; clear ht6 hl6 HQ3 HQ5)
        | (at_builtin; refine wpList_appendL rfl _ _ rfl TV Mm.Iv.len Mm.Iv.one rfl (by rw [HV0.out]; exact ((HR1.out _ F6.out).1.at_ pl).1) (w3.heap.size + 2) _ _ _ [(⟨ql, qh, 0, id⟩ : Mm.Iv)] rfl rfl RD6.out (by rw [← HL0.out]; have := HLL.out; have := HDL.out; simp only [maxLen, List.length_singleton]; omega) (by rw [← HL0.out]; have := HLL.out; have := HDL.out; simp only [List.length_singleton]; omega) ?_; intro v7 w7 ho7 hg7 hat7; have HO7 := Lib.hid ho7; have HG7 := Lib.hid hg7; have HA7 := Lib.hid hat7; clear ho7 hg7 hat7)
        | (refine wpList_vsave (kl := klPl) (k := 141) (ev := fun u : RvL Mm.Iv => u.1) _ _ rfl _ _ _ rfl n rfl _ rfl L6.out (HG7.out.block n (Nat.lt_of_lt_of_le (by omega) F6.out.size) (fun e => by have := (HLOW.out n e.symm).1; omega)) ((v7, L0 ++ [(⟨ql, qh, 0, id⟩ : Mm.Iv)]) : RvL Mm.Iv) rfl ?_; intro w8 hm8 ht8; have HM8 := Lib.hid hm8; have HT8 := Lib.hid (turned_fr (S := [n]) ht8 (by simp)); clear hm8 ht8))
      have hS8 : ∀ x ∈ n :: v0.ownBlock.toList, x = n ∨ n + 5 ≤ x := by
        intro x hx
        rcases List.mem_cons.1 hx with rfl | hx
        · exact .inl rfl
        · exact .inr (HLOW.out x (by simpa using hx)).1
      have hno8 : ∀ k, k ≠ n → k < n + 5 → k ∉ n :: v0.ownBlock.toList := fun k h1 h2 hm => by
        rcases hS8 k hm with h | h <;> omega
      have F8 : Hid (Fr (n :: v0.ownBlock.toList) w1 w8) := Lib.hid (((F6.out.mono (by simp)).grown HG7.out (fun g hg => .inl (by have h : v0.ownBlock = some g := hg; simp [h]))).trans (HT8.out.mono (by simp)))
      have hRR8 := ((HR1.out _ F6.out).1.put (x := pl) (by have := F6.out.size; omega) HO7.out (by rw [← HV0.out]; exact HG7.out) (by rw [← HV0.out]; exact HA7.out)).fr HT8.out (by simp)
      rw [← HL0.out] at hRR8
      have HRR8 := Lib.hid hRR8
      clear hRR8
      have HRJ8 : Hid (QRows 3 1 encJ (n + 5) w8 JV) := Lib.hid (((HR1.out _ F6.out).2.beside ((HR1.out _ F6.out).1.at_ pl).1 (by decide) (by rw [← HV0.out]; exact HG7.out)).fr HT8.out (by simp))
      have HI8 := Lib.hid (HIT.out.fr F8.out (hno8 m (by omega) (by omega)) (hno8 (n + 4) (by omega) (by omega)))
      have HS8 := Lib.hid ((R.out.scans.fr HF1.out (by simp)).fr F8.out (hno8 (n + 1) (by omega) (by omega)))
      have HJ8 := Lib.hid ((R.out.joins.fr HF1.out (by simp)).fr F8.out (hno8 (n + 2) (by omega) (by omega)))
      have HX8 := Lib.hid ((R.out.box.fr HF1.out (by simp)).fr F8.out (hno8 (n + 3) (by omega) (by omega)))
      have HQ8 : Hid (QAt w8 wr.heap.size ⟨qk, qt, qc, ql, qh, qb, qo⟩) := Lib.hid (by
        have h := HQ6.out
        rw [hs2] at h
        exact QAt.fr (Blk.grown h HG7.out (fun e => by have := (HLOW.out _ e.symm).2; omega)) HT8.out (by simp; omega))
      have HFR8 : Hid (Fr [] w w8) := Lib.hid ((R.out.fr.trans' HF1.out (by have := HN.out; simp; omega)).trans' F8.out (fun x hx => .inr (by have := HN.out; rcases hS8 x hx with h | h <;> omega)))
      have hsp : shedP (mput RV pl (v7, L0 ++ [(⟨ql, qh, 0, id⟩ : Mm.Iv)])) = Mm.putR (shedP RV) (qt, qc) ⟨ql, qh, 0, id⟩ := by
        rw [shedP_mput]
        unfold Mm.putR
        have e : pl.1 = (qt, qc) := by rw [HPL.out]
        rw [← e, mget_shedP, ← HL0.out]
      have hstp := HSTEP.out
      rw [← hsp] at hstp
      have HST := Lib.hid hstp
      have HPM : Hid (M.Perm ((done ++ [(id, (⟨qk, qt, qc, ql, qh, qb, qo⟩ : Qry))]) ++ rest')) := Lib.hid (R.out.perm.trans ((HP1.out.append_left done).trans (by simp)))
      have HLN : Hid ((mput RV pl (v7, L0 ++ [(⟨ql, qh, 0, id⟩ : Mm.Iv)])).length ≤ (done ++ [(id, (⟨qk, qt, qc, ql, qh, qb, qo⟩ : Qry))]).length) := Lib.hid (by
        have h1 := R.out.lens.1
        have h2 : (mdel RV pl).length ≤ RV.length := length_mdel_le
        unfold mput
        rw [List.length_cons, List.length_append, List.length_singleton]
        omega)
      have HLJ : Hid (JV.length ≤ done.length) := Lib.hid R.out.lens.2
      have HRL0 : Hid (wr.rangeLeft m (n + 4) = rest'.length + 1) := Lib.hid (by rw [R.out.iter.left_eq, HP1.out.length_eq]; simp)
      have HJF : Hid (∀ k L, mget (shedJ JV) k = some L → L.length ≤ done.length ∧ ∀ x ∈ L, okI x) := Lib.hid R.out.fact.okJ
      clear hsp hstp hno8 hS8 F8 HO7 HG7 HA7 HT8 L6 RD6 HQ6 F6 F3 HIT HF1 HR1 HRW HRL HSC HQB HSTEP HP1 R HPL HV0 HL0 HLL HLOW
      have k0 : w8.cell? ⟨wr.heap.size, 0, none⟩ = some (.int .i64 qk) := HQ8.out.c0
      by_cases h7 : qk = 7
      · have H7 := Lib.hid h7
        have hqo := HOT.out h7
        obtain ⟨vj, hvj⟩ : ∃ v, v = ((mget JV qo).map (fun u : RvL Int => u.1)).getD (.slice Option.none 0 0) := ⟨_, rfl⟩
        obtain ⟨Lj, hLj⟩ : ∃ v, v = ((mget JV qo).map (fun u : RvL Int => u.2)).getD [] := ⟨_, rfl⟩
        have hat := HRJ8.out.at_ qo
        rw [← hvj, ← hLj] at hat
        have HVJ := Lib.hid hvj
        have HLJ0 := Lib.hid hLj
        have HATJ := Lib.hid hat
        have hljl : Lj.length ≤ done.length := by
          have h := (Mm.getD_mem (fun L hL => HJF.out qo L hL)).1
          rw [mget_shedJ, ← hLj] at h
          exact h
        have HLJL := Lib.hid hljl
        have HSW : Hid (∀ W, (∃ r : Option Nat, w8.grownBy W r ∧ (r = none ∨ r = vj.ownBlock)) → (fun W : World => W.cell? ⟨n + 3, 1, none⟩ = some (.map (some (n + 2))) ∧ W.cell? ⟨wr.heap.size, 6, none⟩ = some (.int .i64 qo) ∧ (Instr.lookup 135 (.map (some (n + 2))) (.int .i64 qo) false).run Tryz.prog W = .ok vj W) W) := Lib.hid (fun W ⟨r, hg, hr⟩ => by
          have hrb : ∀ k, k < n + 5 → some k ≠ r := fun k hk e => by
            rcases hr with rfl | rfl
            · cases e
            · have := (hat.2 k e.symm).1
              omega
          have hrq : some wr.heap.size ≠ r := fun e => by
            rcases hr with rfl | rfl
            · cases e
            · exact (hat.1.ne HQ8.out (by decide) e.symm) rfl
          have hj := HJ8.out.grown hg (hrb (n + 2) (by omega))
          have h := VMap.look tyIntRow hj qo hqo false
          rw [← hvj] at h
          exact ⟨(Blk.grown HX8.out hg (hrb (n + 3) (by omega))).cell 1, QAt.c6 (q := ⟨qk, qt, qc, ql, qh, qb, qo⟩) (Blk.grown HQ8.out hg hrq), by simpa using h⟩)
        have HHJ : Hid (∀ W, (∃ r : Option Nat, w8.grownBy W r ∧ (r = none ∨ r = vj.ownBlock)) → VMap Tryz.prog 3 (Lit.int .i64) (fun u : RvL Int => u.1) W (n + 2) JV) := Lib.hid (fun W ⟨r, hg, hr⟩ => HJ8.out.grown hg (fun e => by
            rcases hr with rfl | rfl
            · cases e
            · have := (hat.2 _ e.symm).1
              omega))
        have hg0 : ∀ W, Fr [] w8 W → ∃ r : Option Nat, w8.grownBy W r ∧ (r = none ∨ r = vj.ownBlock) := fun W hf => ⟨none, ⟨hf.os, hf.tape, hf.output, hf.size, fun k hk _ => hf.block k hk (by simp)⟩, .inl rfl⟩
        have HG0 := Lib.hid hg0
        have h7' : (qk == 7) = true := by simpa using h7
        clear hvj hLj hat hljl hg0 h7
        go_upto_region 12 with (fail)
        clear k0 h7'
        refine wp_region_head (fun W : World => W.cell? ⟨n + 3, 1, none⟩ = some (.map (some (n + 2))) ∧ W.cell? ⟨wr.heap.size, 6, none⟩ = some (.int .i64 qo) ∧ (Instr.lookup 135 (.map (some (n + 2))) (.int .i64 qo) false).run Tryz.prog W = .ok vj W) 16 (by kernel_rfl) (by rfl) (HSW.out _ (HG0.out _ ((Fr.refl [] w8).drew))) (fun hHeld => ?_)
        refine wpHead_take (i := 0) (oi := ⟨some 62, _, _, _, _, _⟩) (v := ?_) rfl (by kernel_rfl) (fun _ _ _ h => h) (Or.inl ⟨by rfl, ?_⟩) hHeld ?_
        rotate_left
        · (intro w hSw; (try dsimp only at hSw); go_simp; try with_reducible rfl)
        try simp only [Act.put, List.setIfInBounds_toArray, List.set_cons_zero, List.set_cons_succ]
        refine wpHead_take (i := 1) (oi := ⟨some 63, _, _, _, _, _⟩) (v := ?_) rfl (by kernel_rfl) (fun _ _ _ h => h) (Or.inl ⟨by rfl, ?_⟩) hHeld ?_
        rotate_left
        · (intro w hSw; (try dsimp only at hSw); go_simp; try with_reducible rfl)
        try simp only [Act.put, List.setIfInBounds_toArray, List.set_cons_zero, List.set_cons_succ]
        refine wpHead_take (i := 2) (oi := ⟨some 64, _, _, _, _, _⟩) (v := ?_) rfl (by kernel_rfl) (fun _ _ _ h => h) (Or.inl ⟨by rfl, ?_⟩) hHeld ?_
        rotate_left
        · (intro w hSw; (try dsimp only at hSw); go_simp; try with_reducible rfl)
        try simp only [Act.put, List.setIfInBounds_toArray, List.set_cons_zero, List.set_cons_succ]
        refine wpHead_take (i := 3) (oi := ⟨some 65, _, _, _, _, _⟩) (v := ?_) rfl (by kernel_rfl) (fun _ _ _ h => h) (Or.inl ⟨by rfl, ?_⟩) hHeld ?_
        rotate_left
        · (intro w hSw; (try dsimp only at hSw); go_simp; try with_reducible rfl)
        try simp only [Act.put, List.setIfInBounds_toArray, List.set_cons_zero, List.set_cons_succ]
        refine wpHead_take (i := 4) (oi := ⟨some 66, _, _, _, _, _⟩) (v := ?_) rfl (by kernel_rfl) (fun _ _ _ h => h) (Or.inl ⟨by rfl, ?_⟩) hHeld ?_
        rotate_left
        · (intro w hSw; (try dsimp only at hSw); go_simp; try with_reducible rfl)
        try simp only [Act.put, List.setIfInBounds_toArray, List.set_cons_zero, List.set_cons_succ]
        refine wpHead_take (i := 5) (oi := ⟨some 67, _, _, _, _, _⟩) (v := ?_) rfl (by kernel_rfl) (fun _ _ _ h => h) (Or.inl ⟨by rfl, ?_⟩) hHeld ?_
        rotate_left
        · (intro w hSw; (try dsimp only at hSw); go_simp; try with_reducible rfl)
        try simp only [Act.put, List.setIfInBounds_toArray, List.set_cons_zero, List.set_cons_succ]
        refine wpHead_take (i := 6) (oi := ⟨some 68, _, _, _, _, _⟩) (v := ?_) rfl (by kernel_rfl) (fun _ _ _ h => h) (Or.inl ⟨by rfl, ?_⟩) hHeld ?_
        rotate_left
        · (intro w hSw; (try dsimp only at hSw); go_simp; try with_reducible rfl)
        try simp only [Act.put, List.setIfInBounds_toArray, List.set_cons_zero, List.set_cons_succ]
        refine wpHead_take (i := 7) (oi := ⟨some 69, _, _, _, _, _⟩) (v := ?_) rfl (by kernel_rfl) (fun _ _ _ h => h) (Or.inl ⟨by rfl, ?_⟩) hHeld ?_
        rotate_left
        · (intro w hSw; (try dsimp only at hSw); go_simp; try with_reducible rfl)
        try simp only [Act.put, List.setIfInBounds_toArray, List.set_cons_zero, List.set_cons_succ]
        refine wpHead_take (i := 8) (oi := ⟨some 70, _, _, _, _, _⟩) (v := ?_) rfl (by kernel_rfl) (fun _ _ _ h => h) (Or.inl ⟨by rfl, ?_⟩) hHeld ?_
        rotate_left
        · (intro w hSw; (try dsimp only at hSw); go_simp; try with_reducible rfl)
        try simp only [Act.put, List.setIfInBounds_toArray, List.set_cons_zero, List.set_cons_succ]
        refine wpHead_take (i := 9) (oi := ⟨some 71, _, _, _, _, _⟩) (v := ?_) rfl (by kernel_rfl) (fun _ _ _ h => h) (Or.inl ⟨by rfl, ?_⟩) hHeld ?_
        rotate_left
        · (intro w hSw; (try dsimp only at hSw); go_simp; try with_reducible rfl)
        try simp only [Act.put, List.setIfInBounds_toArray, List.set_cons_zero, List.set_cons_succ]
        refine wpHead_take (i := 10) (oi := ⟨some 72, _, _, _, _, _⟩) (v := ?_) rfl (by kernel_rfl) (fun _ _ _ h => h) (Or.inl ⟨by rfl, ?_⟩) hHeld ?_
        rotate_left
        · (intro w hSw; (try dsimp only at hSw); go_simp; try with_reducible rfl)
        try simp only [Act.put, List.setIfInBounds_toArray, List.set_cons_zero, List.set_cons_succ]
        refine wpHead_take (i := 11) (oi := ⟨some 73, _, _, _, _, _⟩) (v := ?_) rfl (by kernel_rfl) (fun _ _ _ h => h) (Or.inl ⟨by rfl, ?_⟩) hHeld ?_
        rotate_left
        · (intro w hSw; (try dsimp only at hSw); go_simp; try with_reducible rfl)
        try simp only [Act.put, List.setIfInBounds_toArray, List.set_cons_zero, List.set_cons_succ]
        refine wpHead_take (i := 12) (oi := ⟨some 74, _, _, _, _, _⟩) (v := ?_) rfl (by kernel_rfl) (fun _ _ _ h => h) (Or.inl ⟨by rfl, ?_⟩) hHeld ?_
        rotate_left
        · (intro w hSw; (try dsimp only at hSw); go_simp; try with_reducible rfl)
        try simp only [Act.put, List.setIfInBounds_toArray, List.set_cons_zero, List.set_cons_succ]
        refine wpHead_take (i := 13) (oi := ⟨some 75, _, _, _, _, _⟩) (v := ?_) rfl (by kernel_rfl) (fun _ _ _ h => h) (Or.inl ⟨by rfl, ?_⟩) hHeld ?_
        rotate_left
        · (intro w hSw; (try dsimp only at hSw); go_simp; try with_reducible rfl)
        try simp only [Act.put, List.setIfInBounds_toArray, List.set_cons_zero, List.set_cons_succ]
        refine wpHead_one (i := 14) (o := ⟨some 76, _, _, _, _, _⟩) rfl (by kernel_rfl) (by decide) (fun K hK => ?_)
        go_simp
        refine hK.out _ _ (HSW.out _ (HG0.out _ (((Fr.refl [] w8).drew).alloc _))) (fun hHeld => ?_)
        clear hK K
        try simp only [Act.put, List.setIfInBounds_toArray, List.set_cons_zero, List.set_cons_succ]
        refine wpHead_one (i := 15) (o := ⟨some 77, _, _, _, _, _⟩) rfl (by kernel_rfl) (by decide) (fun K hK => ?_)
        refine step_appendL rfl _ _ rfl TJ encJ_len encJ_one rfl ((HATJ.out.1.fr ((Fr.refl [] w8).drew) (by simp)).fr ((Fr.refl [] _).alloc (.cells #[.int .i64 id] 3)) (by simp)) (w8.heap.size + 1) _ _ _ [id] rfl rfl (reads_new (enc := encJ) w8.drew 3 id rfl) (by have := HLJL.out; have := HDL.out; simp only [maxLen, List.length_singleton]; omega) (by have := HLJL.out; have := HDL.out; simp only [List.length_singleton]; omega) ?_
        intro v9 w9 ho9 hg9 hat9
        have hg9' : World.grownBy (w8.drew.alloc (.cells #[.int .i64 id] 3)) w9 vj.ownBlock := hg9
        have hat9' : v9.ownBlock = vj.ownBlock ∨ v9.ownBlock = some (w8.drew.alloc (.cells #[.int .i64 id] 3)).heap.size := hat9
        have fd : Fr [] w8 (w8.drew.alloc (.cells #[.int .i64 id] 3)) := ((Fr.refl [] w8).drew).alloc _
        have hgg : w8.grownBy w9 vj.ownBlock := ⟨hg9'.os.trans fd.os, hg9'.tape.trans fd.tape, hg9'.output.trans fd.output, Nat.le_trans fd.size hg9'.size, fun k hk hr => (hg9'.block k (Nat.lt_of_lt_of_le hk fd.size) hr).trans (fd.block k hk (by simp))⟩
        have hrj := ((HRJ8.out.fr fd (by simp)).put (x := qo) (by have := HRL0.out; have h2 := HQ8.out.lt; simp; omega) ho9 (by rw [← HVJ.out]; exact hg9') (by rw [← HVJ.out]; exact hat9'))
        have HGG := Lib.hid hgg
        have HRJ9 := Lib.hid hrj
        clear hg9 hat9 hg9' hat9' fd hgg hrj
        refine hK.out _ _ (HSW.out w9 ⟨_, HGG.out, .inr rfl⟩) (fun hHeld => ?_)
        clear hK K
        try simp only [Act.put, List.setIfInBounds_toArray, List.set_cons_zero, List.set_cons_succ]
        refine wpHead_done (by kernel_rfl) ?_
        simp only [List.drop_succ_cons, List.drop_zero]
        clear HSW hHeld
        refine wpList_vstore _ rfl _ _ _ rfl tyIntRow (n + 2) JV rfl (HHJ.out _ ⟨_, HGG.out, .inr rfl⟩) qo ((v9, Lj ++ [id]) : RvL Int) rfl rfl hqo (by have := HLJ.out; have := HDL.out; simp only [maxLen]; omega) ?_
        intro w10 hm10 ht10
        have HM10 := Lib.hid hm10
        have HT10 := Lib.hid (turned_fr (S := [n + 2]) ht10 (by simp))
        clear hm10 ht10
        have hno : ∀ k, k < n + 5 → some k ≠ vj.ownBlock := fun k hk e => by have := (HATJ.out.2 k e.symm).1; omega
        have HNO := Lib.hid hno
        clear hno
        have HI10 := Lib.hid ((HI8.out.of_blocks (HGG.out.block m (by have := HI8.out.map.lt; omega) (HNO.out m (by omega))) (HGG.out.block (n + 4) HI8.out.lt (HNO.out _ (by omega)))).fr HT10.out (by simp; omega) (by simp))
        have hsj : shedJ (mput JV qo (v9, Lj ++ [id])) = Mm.putR (shedJ JV) qo id := by
          rw [shedJ_mput]
          unfold Mm.putR
          rw [mget_shedJ, ← HLJ0.out]
        have hst := HST.out
        rw [if_pos H7.out, ← hsj] at hst
        have hrr := (HRR8.out.beside HATJ.out.1 (by decide) HGG.out).fr HT10.out (by simp)
        have hlj : (mput JV qo (v9, Lj ++ [id])).length ≤ (done ++ [(id, (⟨qk, qt, qc, ql, qh, qb, qo⟩ : Qry))]).length := by
          have h1 := HLJ.out
          have h2 : (mdel JV qo).length ≤ JV.length := length_mdel_le
          unfold mput
          rw [List.length_cons, List.length_append, List.length_singleton]
          omega
        have hfr : Fr [] w w10 := (HFR8.out.grown HGG.out (fun g hg => .inr (by have := (HATJ.out.2 g hg).1; have := HN.out; omega))).trans' HT10.out (by have := HN.out; simp; omega)
        have HA10 : Hid (MkA w w10 n m M (done ++ [(id, (⟨qk, qt, qc, ql, qh, qb, qo⟩ : Qry))]) rest' (mput RV pl (v7, L0 ++ [(⟨ql, qh, 0, id⟩ : Mm.Iv)])) (mput JV qo (v9, Lj ++ [id]))) := Lib.hid
          ⟨HPM.out, HI10.out, (HM8.out.grown HGG.out (HNO.out n (by omega))).fr HT10.out (by simp), (HS8.out.grown HGG.out (HNO.out _ (by omega))).fr HT10.out (by simp), HM10.out, (Blk.grown HX8.out HGG.out (HNO.out _ (by omega))).fr HT10.out (by simp), hrr, HRJ9.out.fr HT10.out (by simp), hst, ⟨HLN.out, hlj⟩, hfr⟩
        clear hst hrr hlj hfr hsj
        try simp only [Act.put]
        go_wp2
        go_roundw
        case rel => exact ⟨_, rest', _, _, HA10⟩
        case measure => rw [HI10.out.left_eq, HRL0.out]; omega
      · have h7' : (qk == 7) = false := by simpa using h7
        have H7 := Lib.hid h7
        clear h7
        go_wp2
        go_roundw
        case rel => exact ⟨_, rest', _, JV, Lib.hid ⟨HPM.out, HI8.out, HM8.out, HS8.out, HJ8.out, HX8.out, HRR8.out, HRJ8.out, by have h := HST.out; rw [if_neg H7.out] at h; exact h, ⟨HLN.out, by have := HLJ.out; rw [List.length_append]; omega⟩, HFR8.out⟩⟩
        case measure => rw [HI8.out.left_eq, HRL0.out]; omega
theorem LsAt.more {w : World} {bl : Nat} {M : Mm.Ix} {D D' : List Nat} (h : LsAt w bl M D) (hd : ∀ x ∈ D, x ∈ D') : LsAt w bl M D' := by
  obtain ⟨ms, mj, SV, JV, h⟩ := h
  exact ⟨ms, mj, SV, JV, h.more hd⟩
theorem mmake_any {b m : Nat} {M : Mm.Ix} {D : List Nat} (w : World) (h : IxAt w b m M D) (hDw : ∀ x ∈ D, x < w.heap.size) :
    Calls Tryz.prog 39 #[.pointer (some ⟨b, 0, none⟩)] w fun e w' => ∃ bl D', e = .returned (.pointer (some ⟨bl, 0, none⟩)) ∧ IxAt w' b m M D' ∧ LsAt w' bl M D' ∧ Fr [b] w w' ∧ ∀ x ∈ D', (x ∈ D ∨ w.heap.size ≤ x) ∧ x < w'.heap.size := by
  obtain ⟨lp, hb, h2⟩ := h.blk
  rcases h2 with rfl | ⟨bl, rfl, h2⟩
  · refine (mmake_miss b m M w h.map h.ok hb).mono ?_
    rintro e w' ⟨bl, D2, rfl, hb', hl, hf, hD⟩
    refine ⟨bl, D ++ D2, rfl, ⟨h.map.fr hf (by simpa using (Ne.symm h.ne.symm)), h.ok, ⟨_, hb', .inr ⟨bl, rfl, hl.more (fun x hx => List.mem_append.2 (.inr hx))⟩⟩, List.mem_append.2 (.inl h.mem.1), List.mem_append.2 (.inl h.mem.2)⟩, hl.more (fun x hx => List.mem_append.2 (.inr hx)), hf, fun x hx => ?_⟩
    rcases List.mem_append.1 hx with hx | hx
    · exact ⟨.inl hx, Nat.lt_of_lt_of_le (hDw x hx) hf.size⟩
    · exact ⟨.inr (hD x hx).1, (hD x hx).2⟩
  · refine (mmake_hit b m bl M w hb).mono ?_
    rintro e w' ⟨rfl, rfl⟩
    exact ⟨bl, D, rfl, h, h2, Fr.refl _ _, fun x hx => ⟨.inl hx, hDw x hx⟩⟩
end Go.Proofs.YtciaallekkdnhaaGreat

/-
  Contracts of package disk: Crash.
-/
import Derived.Test.YtbmakjhfoaadoaaDkK
import Derived.Test.YtbmakjhfoaadoaaDkO
import Derived.Test.YtbmakjhfoaadoaaDkLc
import Derived.Laws.Strings
namespace Go.Proofs.Ytbmakjhfoaadoaa
open Go.RowKit Go.Sort
namespace Dm
theorem torn_get {t : Int} : ∀ (ws : List Wr) (k : Nat) (h : k < ws.length), (torn t ws)[k]? = some (if k + 1 = ws.length ∧ 0 ≤ t then ⟨ws[k].off, ws[k].s.take t.toNat⟩ else ws[k])
  | [], k, h => by simp at h
  | [w], k, h => by
    obtain rfl : k = 0 := by simpa using h
    unfold torn
    by_cases ht : 0 ≤ t <;> simp [ht]
  | w :: v :: ws, 0, h => by
    unfold torn
    simp
  | w :: v :: ws, k + 1, h => by
    have ih := torn_get (t := t) (v :: ws) k (by simpa using h)
    unfold torn
    rw [List.getElem?_cons_succ, ih]
    simp
theorem torn_len {t : Int} : ∀ (ws : List Wr), (torn t ws).length = ws.length
  | [] => rfl
  | [w] => by unfold torn; split <;> rfl
  | w :: v :: ws => by unfold torn; rw [List.length_cons, torn_len (v :: ws)]; rfl
theorem order_lt {m : Nat} {keep : List Int} {i : Nat} (h : i ∈ order m keep) : i < m := List.mem_range.1 (List.mem_filter.1 h).1
theorem filterMap_get {α : Type} (P : List α) : ∀ (L : List Nat), (∀ i ∈ L, i < P.length) → (L.filterMap fun i => P[i]?).length = L.length ∧ ∀ (k : Nat) (h : k < L.length), (L.filterMap fun i => P[i]?)[k]? = P[L[k]]?
  | [], _ => ⟨rfl, fun k h => by simp at h⟩
  | i :: L, hi => by
    have h1 := hi i (by simp)
    obtain ⟨l1, l2⟩ := filterMap_get P L (fun j hj => hi j (by simp [hj]))
    rw [List.filterMap_cons, List.getElem?_eq_getElem h1]
    refine ⟨by simp [l1], fun k hk => ?_⟩
    match k, hk with
    | 0, _ => simp [h1]
    | k + 1, hk => simpa using l2 k (by simpa using hk)
theorem order_len {m : Nat} {keep : List Int} : (order m keep).length ≤ m := by
  have := List.length_filter_le (fun (i : Nat) => decide ((i : Int) ∈ keep)) (List.range m)
  simpa [order] using this
/-- The k-th survivor. -/
theorem surv_len (d : Dk) (keep : List Int) (t : Int) : (survivors d keep t).length = (order d.pend.length keep).length := by
  unfold survivors
  rw [torn_len, (filterMap_get d.pend _ (fun _ hi => order_lt hi)).1]
theorem surv_get (d : Dk) (keep : List Int) (t : Int) (k : Nat) (h : k < (order d.pend.length keep).length) : ∃ u, d.pend[(order d.pend.length keep)[k]]? = some u ∧
    (survivors d keep t)[k]? = some (if k + 1 = (order d.pend.length keep).length ∧ 0 ≤ t then ⟨u.off, u.s.take t.toNat⟩ else u) := by
  obtain ⟨l1, l2⟩ := filterMap_get d.pend (order d.pend.length keep) (fun _ hi => order_lt hi)
  have h1 : (order d.pend.length keep)[k] < d.pend.length := order_lt (List.getElem_mem h)
  refine ⟨d.pend[(order d.pend.length keep)[k]], List.getElem?_eq_getElem h1, ?_⟩
  unfold survivors
  have h2 := torn_get (t := t) ((order d.pend.length keep).filterMap fun i => d.pend[i]?) k (by omega)
  have h3 := l2 k h
  rw [List.getElem?_eq_getElem (by omega), List.getElem?_eq_getElem h1] at h3
  injection h3 with h3
  rw [h2]
  simp only [h3, l1]
end Dm
theorem sortsI : SortsI :=
  ⟨fun blk off cap zs w hH hb hz => AnyM.slices_Sort_int Shlf.sortI blk off cap zs w hH hb hz, fun p cap w => AnyM.slices_Sort_int_none Shlf.sortI p cap w⟩
theorem ints_vl {w : World} {A : Option Addr} {zs : List Int} (cap : Nat) (h : IntsIn w A zs) : Vl.Ints w.heap.size w (.slice A zs.length cap) zs := by
  rcases h with rfl | ⟨b, off, rfl, h⟩
  · exact .inl ⟨A, cap, rfl, rfl⟩
  · rcases Nat.eq_zero_or_pos zs.length with h0 | h0
    · exact .inl ⟨_, cap, by rw [h0], List.eq_nil_of_length_eq_zero h0⟩
    · exact .inr ⟨b, off, cap, rfl, h.lt h0, fun j hj => by rw [h.cell j hj]; simp [hj]⟩
/-- The writes that survive, in order. -/
theorem order_any (A : Option Addr) (kc : Nat) (zs : List Int) (m : Nat) (w : World) (hz : zs.length * 8 ≤ 140737488351232) (hI : IntsIn w A zs) :
    Calls Try.prog 40 #[.slice A zs.length kc] w fun e w1 => ∃ fv, e = .returned fv ∧ Fr [] w w1 ∧ Calls Try.prog 39 #[fv] w1 fun e w2 => ∃ A2 n2 c2 L2, (e = .returned (.slice A2 n2 c2) ∧ OwnL 3 1 encI w2 (.slice A2 n2 c2) L2) ∧ Fr [] w w2 ∧ (∀ g, (Value.slice A2 n2 c2).ownBlock = some g → w.heap.size ≤ g) ∧
      (Lib.compactUpTo L2.toArray L2.length).filter (fun i => !(decide (i < 0) || decide ((m : Int) ≤ i))) = (Dm.order m zs).map fun (i : Nat) => (i : Int) := by
  refine (values_any A zs.length kc w).mono ?_
  rintro e w1 ⟨rfl, rfl⟩
  have f1 : Fr [] w (w.alloc (.cells #[.slice A zs.length kc] 37)) := (Fr.refl _ _).alloc _
  have hb := Blk.new w 37 #[.slice A zs.length kc]
  have h1 := ints_vl kc (hI.fr0 f1)
  refine ⟨_, rfl, f1, ?_⟩
  refine (sorted_any sortsI w.heap.size _ zs _ hz (hb.cell 0) h1).mono ?_
  rintro e w2 ⟨v, ⟨rfl, h2, h3⟩, f2⟩
  obtain ⟨A2, c2, rfl⟩ := h2.val
  refine ⟨A2, _, c2, _, ⟨rfl, h2⟩, f1.trans f2, fun g hg => ?_, ?_⟩
  · have := h3 g hg
    simp at this
    omega
  · have h4 := Dm.order_eq zs m (d := (zs.mergeSort fun x y => decide (x ≤ y)).toArray) (by simp)
    simpa using h4
theorem string_take (s : List UInt8) (k : Nat) : (⟨s.toArray⟩ : ByteArray).extract 0 k = ⟨(s.take k).toArray⟩ := by
  apply ByteArray.ext
  simp
/-- The world of a round. -/
structure CrAt (w5 : World) (gs : Nat) (bs : List UInt8) (wr : World) : Prop where
  sure : Blk wr gs 5 (Lib.byteCells bs).toArray
  fr : Fr [gs] w5 wr
theorem CrAt.step {w4 wr wa w6 : World} {gs : Nat} {S : List Dm.Wr} {b : List UInt8} {k : Nat} {u : Dm.Wr} (hf : Fr [gs] w4 wr) (hf1 : Fr [] wr wa) (hu : S[k]? = some u) (hb : Blk w6 gs 5 (Lib.byteCells (Dm.onto ((S.take k).foldl Dm.onto b) u)).toArray) (h6 : Fr [gs] wa.drew w6) :
    CrAt w4 gs ((S.take (k + 1)).foldl Dm.onto b) w6 := by
  obtain ⟨hl, e⟩ := List.getElem?_eq_some_iff.1 hu
  refine ⟨?_, ((hf.trans (hf1.mono (by simp))).drew).trans h6⟩
  rw [List.take_succ_eq_append_getElem hl, List.foldl_append, e]
  exact hb
set_option maxRecDepth 100000 in
set_option maxHeartbeats 2000000 in
theorem crash_any (b gs gv : Nat) (vp : Value) (d : Dm.Dk) (A : Option Addr) (kc : Nat) (zs : List Int) (t : Int) (w : World) (h : DiskAt w b gs gv vp d) (hz : zs.length * 8 ≤ 140737488351232) (hI : IntsIn w A zs) (ht : okI t) :
    Calls Try.prog 25 #[.pointer (some ⟨b, 0, none⟩), .slice A zs.length kc, .int .i64 t] w fun e w' =>
    e = .returned (.int .i64 0) ∧ ∃ vp', DiskAt w' b gs gv vp' (Dm.crash d zs t) ∧ Fr (b :: gs :: gv :: vp.ownBlock.toList) w w' ∧ ∀ g, vp'.ownBlock = some g → vp.ownBlock = some g ∨ w.heap.size ≤ g := by
  have H := Lib.hid h
  obtain ⟨A4, cap4, hv⟩ := h.pend.val
  subst hv
  have hbx := Blk.new w 23 #[.pointer (some ⟨b, 0, none⟩)]
  have f0 : Fr [] w (w.alloc (.cells #[.pointer (some ⟨b, 0, none⟩)] 23)) := (Fr.refl _ _).alloc _
  have HO := Lib.hid (order_any A kc zs d.pend.length _ hz (hI.fr0 f0))
  clear h hI hz
  go_enter Try.func25, Try.ntmps25
  go_wp2_with fail
  refine HO.out.mono ?_
  rintro e w1 ⟨fv, rfl, f1, HS⟩
  have HS := Lib.hid HS
  go_wp2_with fail
  refine HS.out.mono ?_
  rintro e w2 ⟨A2, n2, c2, L2, ⟨rfl, h2⟩, f2, hg2, hord⟩
  have HN2 := Lib.hid h2
  have HG2 := Lib.hid hg2
  have HORD := Lib.hid hord
  have F2 := Lib.hid (f0.trans f2)
  have HBX2 := Lib.hid (hbx.fr f2 (by simp))
  clear h2 hg2 hord f1 f2 f0 hbx HS HO
  go_wp2_with fail
  refine (compactI_any A2 n2 c2 L2 w2 HN2.out).mono ?_
  rintro e w3 ⟨rfl, h3, f3⟩
  have hgb : ∀ g, (Value.slice A2 n2 c2).ownBlock = some g → w.heap.size < g := fun g hg => by
    have := HG2.out g hg
    simp at this
    omega
  have HGB := Lib.hid hgb
  have HBX3 := Lib.hid (HBX2.out.fr f3 (fun hm => by have := hgb _ (Option.mem_toList.1 hm); omega))
  have F3 : Hid (Fr [] w w3) := Lib.hid (F2.out.trans' f3 (fun i hi => .inr (by have := hgb _ (Option.mem_toList.1 hi); omega)))
  have HN3 := Lib.hid h3
  have HD3 := Lib.hid (H.out.fr0 F3.out)
  clear h3 f3 hgb
  go_wp2_with fail
  refine (deleteI_any w.heap.size b A4 d.pend.length cap4 A2 _ c2 _ w3 HN3.out HBX3.out _ _ _ _ HD3.out.blk).mono ?_
  rintro e w4 ⟨n4, ⟨rfl, h4⟩, f4⟩
  rw [HORD.out] at h4
  have e4 : n4 = (Dm.order d.pend.length zs).length := by
    obtain ⟨_, _, hv⟩ := h4.val
    injection hv with _ hv _
    simpa using hv
  have E4 := Lib.hid e4
  have hgb4 : ∀ g, (Value.slice A2 (Lib.compactUpTo L2.toArray L2.length).length c2).ownBlock = some g → w.heap.size < g := fun g hg => HGB.out g (by cases A2 with | none => simp [Value.ownBlock] at hg | some a => exact hg)
  have HBX4 := Lib.hid (HBX3.out.fr f4 (fun hm => by have := hgb4 _ (Option.mem_toList.1 hm); omega))
  have F4 : Hid (Fr [] w w4) := Lib.hid (F3.out.trans' f4 (fun i hi => .inr (by have := hgb4 _ (Option.mem_toList.1 hi); omega)))
  have HN4 := Lib.hid h4
  have HD4 := Lib.hid (H.out.fr0 F4.out)
  clear h4 f4 e4 hgb4 HBX3 HBX2 HN3 HN2 HG2 HD3 F3 F2
  go_wp2_with fail
  go_loopw [22] (fun i wr => ∃ k : Nat, k ≤ n4 ∧ i = .int .i64 k ∧ CrAt w4 gs (((Dm.survivors d zs t).take k).foldl Dm.onto d.sure) wr) (fun i _ => n4 - (intOf i).toNat)
  case atStart => exact ⟨0, Nat.zero_le _, rfl, HD4.out.sure, Fr.refl _ _⟩
  case round =>
    obtain ⟨k, hk, rfl, hC⟩ := hrel
    have hap := HD4.out.apart
    have hbr := HD4.out.blk.fr hC.fr (by simpa using hap.1.symm)
    have hxr := HBX4.out.fr hC.fr (by simpa using fun e => (blk_ne HBX4.out HD4.out.sure (by decide)) e)
    have hnr := HN4.out.fr hC.fr (fun g hg => by simpa using HN4.out.ne HD4.out.sure (by decide) hg)
    have hpr := HD4.out.pend.fr hC.fr (fun g hg => by simpa using (hap.2.2 g hg).2.1)
    have x0 : wr.cell? ⟨w.heap.size, 0, none⟩ = some (.pointer (some ⟨b, 0, none⟩)) := hxr.cell 0
    have b2 : wr.cell? ⟨b, 2, none⟩ = some (.slice (some ⟨gs, 0, none⟩) d.sure.length d.sure.length) := hbr.cell 2
    have b4 : wr.cell? ⟨b, 4, none⟩ = some (.slice A4 d.pend.length cap4) := hbr.cell 4
    rcases Nat.lt_or_ge k n4 with hlt | hge
    · have hlt' : k < (Dm.order d.pend.length zs).length := by rw [← E4.out]; exact hlt
      obtain ⟨u, hu, hsu⟩ := Dm.surv_get d zs t k hlt'
      have hidx : (Dm.order d.pend.length zs)[k] < d.pend.length := Dm.order_lt (List.getElem_mem hlt')
      obtain ⟨g2, c2', hv2, -, -, -, hcell2, -⟩ := hnr.form encI_len (by simp; omega)
      injection hv2 with e1 e2 e3
      subst e1 e3
      clear e2
      have o0 := hcell2 k (by simpa using hlt') 0 (by decide)
      rw [List.getElem_map] at o0
      obtain ⟨gp, cp, hvp, hpn, hpm, -, hcellp, -⟩ := hpr.form Dm.Wr.cells_len (by omega)
      injection hvp with e1 e2 e3
      subst e1 e3
      clear e2
      have p0 := hcellp _ hidx 0 (by decide)
      have p1 := hcellp _ hidx 1 (by decide)
      rw [List.getElem?_eq_getElem hidx] at hu
      injection hu with hu
      rw [hu] at p0 p1
      generalize (Dm.order d.pend.length zs)[k] = i at o0 p0 p1 hidx
      have o0' : wr.cell? ⟨g2, k, none⟩ = some (.int .i64 (i : Int)) := by simpa [encI] using o0
      have p0' : wr.cell? ⟨gp, i * 2, none⟩ = some (.int .i64 u.off) := p0
      have p1' : wr.cell? ⟨gp, i * 2 + 1, none⟩ = some (.string ⟨u.s.toArray⟩) := p1
      have hfit : u.off + u.s.length ≤ d.sure.length := H.out.ok.fit u (by rw [← hu]; exact List.getElem_mem _)
      have hn2 := H.out.ok.n2
      have HFT := Lib.hid hfit
      have HSU := Lib.hid hsu
      clear hfit hsu hu o0 p0 p1 hbr hxr hnr hpr hcell2 hcellp
      have HBS : Hid ((((Dm.survivors d zs t).take k).foldl Dm.onto d.sure).length = d.sure.length) := Lib.hid (Dm.fold_len _ _ (fun v hv => H.out.ok.survivors zs t v (List.mem_of_mem_take hv)))
      have HCS := Lib.hid hC.sure
      have HCF := Lib.hid hC.fr
      have hltb : gs < wr.heap.size := hC.sure.lt
      have hp63 : d.pend.length ≤ 9223372036854775807 := by simp only [maxLen] at hpm; omega
      have hn463 : n4 ≤ 9223372036854775807 := by rw [E4.out]; exact Nat.le_trans Dm.order_len hp63
      have hl63 : d.sure.length ≤ 9223372036854775807 := by omega
      have hs63 : u.s.length ≤ 9223372036854775807 := by have := HFT.out; omega
      clear hC hap hpn hpm
      by_cases hlast : k + 1 = n4
      · have HL := Lib.hid hlast
        have hk1 : ((k : Int) == (n4 : Int) - 1) = true := by simp; omega
        clear hlast
        by_cases ht0 : 0 ≤ t
        · have HU0 : Hid ((Dm.survivors d zs t)[k]? = some ⟨u.off, u.s.take t.toNat⟩) := Lib.hid (by rw [HSU.out, if_pos ⟨by rw [HL.out]; exact E4.out, ht0⟩])
          have hex : (⟨u.s.toArray⟩ : ByteArray).extract 0 (min t (u.s.length : Int)).toNat = ⟨(u.s.take t.toNat).toArray⟩ := by
            rw [string_take]
            congr 2
            apply List.ext_getElem?
            intro q
            simp only [List.getElem?_take]
            by_cases hq : q < u.s.length
            · have : q < (min t (u.s.length : Int)).toNat ↔ q < t.toNat := by omega
              simp only [this]
            · rw [List.getElem?_eq_none (by omega)]
              split <;> split <;> rfl
          have HU := HU0
          have f1 : Fr [] wr (wr.alloc (.cells #[.int .i64 u.off, .string ⟨(u.s.take t.toNat).toArray⟩] 69)) := (Fr.refl _ _).alloc _
          have HON := Lib.hid (onto_any ⟨u.off, u.s.take t.toNat⟩ gs _ d.sure.length (wr.alloc (.cells #[.int .i64 u.off, .string ⟨(u.s.take t.toNat).toArray⟩] 69)).drew (HCS.out.fr f1 (by simp)).drew HBS.out (by have := HFT.out; simp only [List.length_take]; omega) hn2)
          have F1 := Lib.hid f1
          have X0 := Lib.hid ((f1.cell (p := ⟨w.heap.size, 0, none⟩) (World.block_lt_of_cell? wr _ x0) (by simp)).trans x0)
          have B2 := Lib.hid ((f1.cell (p := ⟨b, 2, none⟩) (World.block_lt_of_cell? wr _ b2) (by simp)).trans b2)
          have Y := Lib.hid (Blk.new wr 69 #[.int .i64 u.off, .string ⟨(u.s.take t.toNat).toArray⟩])
          clear f1
          go_upto_region 11 with fail
          generalize (wr.alloc (.cells #[.int .i64 u.off, .string ⟨(u.s.take t.toNat).toArray⟩] 69)) = W1 at *
          have x1 := X0.out
          have b21 := B2.out
          have y0 := Y.out.cell 0
          have y1 := Y.out.cell 1
          clear x0 b2 b4
          go_still_tail 5, (by kernel_rfl)
          change wpList _ _ _ _ _ W1.drew
          go_wp2_with fail
          refine HON.out.mono ?_
          rintro e w6 ⟨rfl, hb6, f6⟩
          have HE : Hid (CrAt w4 gs (((Dm.survivors d zs t).take (k + 1)).foldl Dm.onto d.sure) w6) := Lib.hid (CrAt.step HCF.out F1.out HU.out hb6 f6)
          clear hb6 f6
          go_wp2_with fail
          go_roundw
          case rel => exact ⟨k + 1, by omega, by go_num, HE.out⟩
          case measure => simp [intOf]; omega
        · have HU : Hid ((Dm.survivors d zs t)[k]? = some u) := Lib.hid (by rw [HSU.out, if_neg (fun h => ht0 h.2)])
          have f1 : Fr [] wr (wr.alloc (.cells #[.int .i64 u.off, .string ⟨u.s.toArray⟩] 69)) := (Fr.refl _ _).alloc _
          have HON := Lib.hid (onto_any u gs _ d.sure.length (wr.alloc (.cells #[.int .i64 u.off, .string ⟨u.s.toArray⟩] 69)).drew (HCS.out.fr f1 (by simp)).drew HBS.out (HFT.out) hn2)
          have F1 := Lib.hid f1
          have X0 := Lib.hid ((f1.cell (p := ⟨w.heap.size, 0, none⟩) (World.block_lt_of_cell? wr _ x0) (by simp)).trans x0)
          have B2 := Lib.hid ((f1.cell (p := ⟨b, 2, none⟩) (World.block_lt_of_cell? wr _ b2) (by simp)).trans b2)
          have Y := Lib.hid (Blk.new wr 69 #[.int .i64 u.off, .string ⟨u.s.toArray⟩])
          clear f1
          go_upto_region 11 with fail
          generalize (wr.alloc (.cells #[.int .i64 u.off, .string ⟨u.s.toArray⟩] 69)) = W1 at *
          have x1 := X0.out
          have b21 := B2.out
          have y0 := Y.out.cell 0
          have y1 := Y.out.cell 1
          clear x0 b2 b4
          go_still_tail 5, (by kernel_rfl)
          change wpList _ _ _ _ _ W1.drew
          go_wp2_with fail
          refine HON.out.mono ?_
          rintro e w6 ⟨rfl, hb6, f6⟩
          have HE : Hid (CrAt w4 gs (((Dm.survivors d zs t).take (k + 1)).foldl Dm.onto d.sure) w6) := Lib.hid (CrAt.step HCF.out F1.out HU.out hb6 f6)
          clear hb6 f6
          go_wp2_with fail
          go_roundw
          case rel => exact ⟨k + 1, by omega, by go_num, HE.out⟩
          case measure => simp [intOf]; omega
      · have HU : Hid ((Dm.survivors d zs t)[k]? = some u) := Lib.hid (by rw [HSU.out, if_neg (fun h => hlast (by rw [E4.out]; exact h.1))])
        have hk1 : ((k : Int) == (n4 : Int) - 1) = false := by simp; omega
        clear hlast
        have f1 : Fr [] wr (wr.alloc (.cells #[.int .i64 u.off, .string ⟨u.s.toArray⟩] 69)) := (Fr.refl _ _).alloc _
        have HON := Lib.hid (onto_any u gs _ d.sure.length (wr.alloc (.cells #[.int .i64 u.off, .string ⟨u.s.toArray⟩] 69)).drew (HCS.out.fr f1 (by simp)).drew HBS.out HFT.out hn2)
        have F1 := Lib.hid f1
        have X0 := Lib.hid ((f1.cell (p := ⟨w.heap.size, 0, none⟩) (World.block_lt_of_cell? wr _ x0) (by simp)).trans x0)
        have B2 := Lib.hid ((f1.cell (p := ⟨b, 2, none⟩) (World.block_lt_of_cell? wr _ b2) (by simp)).trans b2)
        have Y := Lib.hid (Blk.new wr 69 #[.int .i64 u.off, .string ⟨u.s.toArray⟩])
        clear f1
        go_upto_region 11 with fail
        generalize (wr.alloc (.cells #[.int .i64 u.off, .string ⟨u.s.toArray⟩] 69)) = W1 at *
        have x1 := X0.out
        have b21 := B2.out
        have y0 := Y.out.cell 0
        have y1 := Y.out.cell 1
        clear x0 b2 b4
        go_still_tail 5, (by kernel_rfl)
        change wpList _ _ _ _ _ W1.drew
        go_wp2_with fail
        refine HON.out.mono ?_
        rintro e w6 ⟨rfl, hb6, f6⟩
        have HE : Hid (CrAt w4 gs (((Dm.survivors d zs t).take (k + 1)).foldl Dm.onto d.sure) w6) := Lib.hid (CrAt.step HCF.out F1.out HU.out hb6 f6)
        clear hb6 f6
        go_wp2_with fail
        go_roundw
        case rel => exact ⟨k + 1, by omega, by go_num, HE.out⟩
        case measure => simp [intOf]; omega
    · obtain rfl : k = n4 := by omega
      have hsl : (Dm.survivors d zs t).length = k := by rw [Dm.surv_len]; exact E4.out.symm
      have hX : Blk wr gs 5 (Lib.byteCells (Dm.crash d zs t).sure).toArray := by
        have h5 := hC.sure
        rw [List.take_of_length_le (by omega)] at h5
        exact h5
      have hXl : (Dm.crash d zs t).sure.length = d.sure.length := Dm.fold_len _ _ (H.out.ok.survivors zs t)
      have hvl := H.out.ok.vis_len
      have hY := HD4.out.vis.fr hC.fr (by simpa using HD4.out.ne.symm)
      have b3 : wr.cell? ⟨b, 3, none⟩ = some (.slice (some ⟨gv, 0, none⟩) d.sure.length d.sure.length) := hbr.cell 3
      have HST := Lib.hid (settle_any b gs gv (Dm.crash d zs t).sure d.vis d.sure.length _ _ _ _ A4 d.pend.length cap4 d.pend wr.drew hbr.drew hX.drew hY.drew hXl hvl H.out.ok.n2 (hpr.fr (Fr.refl [] wr).drew (by simp)))
      have HX := Lib.hid hX
      have HXR := Lib.hid hxr
      have HPR := Lib.hid hpr
      have HXL := Lib.hid hXl
      have HF := Lib.hid ((F4.out.mono (S' := [gs]) (by simp)).trans hC.fr)
      have hC' := Lib.hid hC.fr
      clear hX hXl hvl hY hsl hge hpr hnr hbr hxr hap hC b4
      go_wp2_with fail
      go_upto_region 13 with fail
      go_still_tail 9, (by kernel_rfl)
      change wpList _ _ _ _ _ wr.drew
      go_wp2_with fail
      refine HST.out.mono ?_
      rintro e w6 ⟨rfl, k1, k2, k3, k4⟩
      obtain ⟨a1, a2, a3⟩ := H.out.apart
      have hxn : w.heap.size ∉ (b :: gv :: (Value.slice A4 d.pend.length cap4).ownBlock.toList) := by
        simp only [List.mem_cons, Option.mem_toList, not_or]
        exact ⟨fun e => blk_ne HXR.out (HD4.out.blk.fr hC'.out (by simpa using a1.symm)) (by decide) e, fun e => blk_ne HXR.out (HD4.out.vis.fr hC'.out (by simpa using HD4.out.ne.symm)) (by decide) e, fun hm => HPR.out.ne HXR.out (by decide) hm rfl⟩
      have x06 := (HXR.out.drew.fr k4 hxn).cell 0
      have z0 := k2.frozen 0
      have z1 := k2.frozen 1
      have hltb := k2.lt
      have q0 := k2.cell 0
      have q1 := k2.cell 1
      have HX6 := Lib.hid (HX.out.drew.fr k4 (by
        simp only [List.mem_cons, Option.mem_toList, not_or]
        exact ⟨a1, H.out.ne, fun hm => (a3 gs hm).2.1 rfl⟩))
      have HB : Hid (Blk ((w6.setCell ⟨b, 0, none⟩ (.bool false)).setCell ⟨b, 1, none⟩ (.int .i64 0)) b 65 (diskCells (Dm.crash d zs t) gs gv (.slice A4 0 cap4))) := Lib.hid (by
        have h5 := (k2.set_ 0 (.bool false)).set_ 1 (.int .i64 0)
        unfold diskCells
        rw [HXL.out]
        simpa [Dm.crash] using h5)
      have f7 : Fr [b] w6 ((w6.setCell ⟨b, 0, none⟩ (.bool false)).setCell ⟨b, 1, none⟩ (.int .i64 0)) := ((Fr.refl _ _).setCell (.inl (by simp)) _).setCell (.inl (by simp)) _
      have HD : Hid (DiskAt ((w6.setCell ⟨b, 0, none⟩ (.bool false)).setCell ⟨b, 1, none⟩ (.int .i64 0)) b gs gv (.slice A4 0 cap4) (Dm.crash d zs t)) := Lib.hid ⟨HB.out, HX6.out.fr f7 (by simpa using a1), k1.fr f7 (by simpa using a2), k3.fr f7 (fun g hg => by simpa using k3.ne k2 (by decide) hg), H.out.ne, H.out.ok.crash zs t⟩
      have HFF : Hid (Fr (b :: gs :: gv :: (Value.slice A4 d.pend.length cap4).ownBlock.toList) w ((w6.setCell ⟨b, 0, none⟩ (.bool false)).setCell ⟨b, 1, none⟩ (.int .i64 0))) := Lib.hid ((((HF.out.mono (by simp)).drew).trans' k4 (fun i hi => .inl (by
        simp only [List.mem_cons] at hi ⊢
        rcases hi with h | h | h
        · exact .inl h
        · exact .inr (.inr (.inl h))
        · exact .inr (.inr (.inr h))))).trans' f7 (fun i hi => .inl (by
        simp only [List.mem_cons, List.not_mem_nil, or_false] at hi ⊢
        exact .inl hi)))
      clear k1 k2 k3 k4 f7 a1 a2 a3
      go_wp2_with fail
      go_ret
      exact ⟨rfl, _, HD.out, HFF.out, fun g hg => .inl (by cases A4 with | none => exact hg | some a => exact hg)⟩
end Go.Proofs.Ytbmakjhfoaadoaa

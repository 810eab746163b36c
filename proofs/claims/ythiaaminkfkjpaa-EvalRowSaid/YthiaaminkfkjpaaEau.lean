/-
  Apply.
-/
import Derived.Test.YthiaaminkfkjpaaEas
import Derived.Test.YthiaaminkfkjpaaEam
import Derived.StillTailTactics
namespace Go.Proofs.Ythiaaminkfkjpaa
open Go.RowKit

/-- At the head of each round of Apply. -/
def ApRel (w : World) (m : Nat) (s : Sm.Sta) (cs : List Chg) (k : Nat) (wr : World) : Prop := k ≤ cs.length ∧ VMap Try.prog 71 klId RowV.val wr m ((cs.take k).foldl Sm.put1 s.M) ∧ Fr [m] w wr

set_option maxRecDepth 100000 in
set_option maxHeartbeats 2000000 in
theorem sapply_any (b m : Nat) (s : Sm.Sta) (r : Rec) (A : Option Addr) (cap : Nat) (w : World) (h : StaAt w b m s) (hc : HoldsC w A r.cs) (hlen : r.cs.length ≤ maxLen) :
    Calls Try.prog 19 #[.pointer (some ⟨b, 0, none⟩), .agg #[.int .i64 r.p, .slice A r.cs.length cap]] w fun e w' => e = .returned (.int .i64 (Sm.code s r)) ∧ StaAt w' b m (Sm.apply s r) ∧ Fr [b, m] w w' := by
  have HC : Hid (Sm.code s r = if Sm.fits s r = true then 0 else 40) := Lib.hid rfl
  have HA : Hid (Sm.apply s r = if Sm.fits s r = true then ⟨r.cs.foldl Sm.put1 s.M, r.p⟩ else s) := Lib.hid rfl
  have HOK := h.ok.applied r
  have hnb := h.ne
  have f0 : Fr [] w (w.alloc (.cells #[.int .i64 r.p, .slice A r.cs.length cap] 38)) := (Fr.refl _ _).alloc _
  have hr0 := Blk.new w 38 #[.int .i64 r.p, .slice A r.cs.length cap]
  go_enter Try.func19, Try.ntmps19
  go_wp2_with fail
  generalize w.alloc (.cells #[.int .i64 r.p, .slice A r.cs.length cap] 38) = W0 at *
  have h0 := h.fr0 f0
  have hc0 := hc.fr f0 NoC.nil
  have r0 := hr0.cell 0
  have r1 := hr0.cell 1
  have hlr := hr0.lt
  have hbr : b ≠ w.heap.size := Nat.ne_of_lt h.lt.1
  have hmr : m ≠ w.heap.size := Nat.ne_of_lt h.lt.2
  refine (fits_any b m s r A cap _ h0 hc0.1 hlen).mono ?_
  rintro e w1 ⟨rfl, f1⟩
  have h1 := h0.fr0 f1
  have hc1 := hc0.fr f1 NoC.nil
  have hr1 := hr0.fr f1 (by simp)
  have F1 : Fr [] w w1 := f0.trans f1
  clear f1 r0 r1 h0 hc0 hr0 f0 hlr
  cases hf : Sm.fits s r
  · rw [hf] at HC HA
    clear hf HOK
    go_wp2_with fail
    go_ret
    exact ⟨by rw [HC.out]; rfl, by rw [HA.out]; exact h1, F1.mono (by simp)⟩
  · rw [hf] at HC HA
    have HV := Lib.hid (Rw.valid_chgs (r := r) (by
      simp only [Sm.fits, Bool.and_eq_true] at hf
      exact hf.1.1))
    have hlen8 : 1 ≤ r.cs.length ∧ r.cs.length ≤ 8 := by
      have h1 := hf
      simp only [Sm.fits, Rw.valid, Rw.inI, Bool.and_eq_true, decide_eq_true_eq] at h1
      omega
    clear hf
    rw [HA.out, if_pos rfl] at HOK
    have r0 := hr1.cell 0
    have r1 := hr1.cell 1
    have R0 : ApRel w1 m s r.cs 0 w1 := ⟨Nat.zero_le _, h1.map, Fr.refl _ _⟩
    obtain ⟨bb, off, hA, hbb, hcc⟩ := hc1.1 (by omega)
    clear hbb hcc
    subst hA
    have HL := Sm.fold_len
    have hml := h1.ok.len
    have hnd := h1.ok.nd
    generalize r.cs = cs at *
    go_wp2_with fail
    go_loopw [21] (fun i wr => ∃ k : Nat, i = .int .i64 k ∧ ApRel w1 m s cs k wr) (fun i _ => cs.length - (intOf i).toNat)
    case atStart => exact ⟨0, rfl, R0⟩
    case round =>
      clear R0 r0 r1
      obtain ⟨k, rfl, hk, hm1, hf1⟩ := hrel
      have hc2 := hc1.fr hf1 (NoC.cons (noC_map h1.map) NoC.nil)
      have hb2 := h1.blk.fr hf1 (by simpa using hnb.symm)
      have hr2 := hr1.fr hf1 (by simpa using hmr.symm)
      have b0 : wr.cell? ⟨b, 0, none⟩ = some (.map (some m)) := hb2.cell 0
      by_cases hlt : k < cs.length
      · obtain ⟨bb', off', hA', hbb, hcc⟩ := hc2.1 (by omega)
        cases hA'
        have hck := Lib.hid (fun j hj => hcc k hlt j hj)
        have hcb := Rw.chg_bounds (HV.out _ (List.getElem_mem hlt))
        have htk : (cs.take (k + 1)).foldl Sm.put1 s.M = Sm.put1 ((cs.take k).foldl Sm.put1 s.M) cs[k] := by
          rw [List.take_succ_eq_append_getElem hlt, List.foldl_append]
          rfl
        have HTK := Lib.hid htk
        have hsz : ((cs.take k).foldl Sm.put1 s.M).length < maxLen := by
          have := (HL (cs.take k) s.M hnd).2
          rw [List.length_take] at this
          simp only [maxLen]
          omega
        clear hcc htk
        generalize cs[k] = c at hck HTK hcb
        generalize (cs.take k).foldl Sm.put1 s.M = M at *
        obtain ⟨t, kk, had, o0, o1, o2, has, n0, n1, n2⟩ := c
        dsimp only at hcb
        have c0 : wr.cell? ⟨bb, off + k * 10, none⟩ = some (.int .i64 t) := hck.out 0 (by decide)
        have c1 : wr.cell? ⟨bb, off + k * 10 + 1, none⟩ = some (.int .i64 kk) := hck.out 1 (by decide)
        have c2 : wr.cell? ⟨bb, off + k * 10 + 2, none⟩ = some (.bool had) := hck.out 2 (by decide)
        have c3 : wr.cell? ⟨bb, off + k * 10 + 3, none⟩ = some (.int .i64 o0) := hck.out 3 (by decide)
        have c4 : wr.cell? ⟨bb, off + k * 10 + 4, none⟩ = some (.int .i64 o1) := hck.out 4 (by decide)
        have c5 : wr.cell? ⟨bb, off + k * 10 + 5, none⟩ = some (.int .i64 o2) := hck.out 5 (by decide)
        have c6 : wr.cell? ⟨bb, off + k * 10 + 6, none⟩ = some (.bool has) := hck.out 6 (by decide)
        have c7 : wr.cell? ⟨bb, off + k * 10 + 7, none⟩ = some (.int .i64 n0) := hck.out 7 (by decide)
        have c8 : wr.cell? ⟨bb, off + k * 10 + 8, none⟩ = some (.int .i64 n1) := hck.out 8 (by decide)
        have c9 : wr.cell? ⟨bb, off + k * 10 + 9, none⟩ = some (.int .i64 n2) := hck.out 9 (by decide)
        clear hck
        have hid : IdK.val (idOf t kk) = .agg #[.int .i64 t, .int .i64 kk] := by
          have := idOf_val (t := t) (k := kk) (okI_mk (by omega) (by omega)) (okI_mk (by omega) (by omega))
          unfold IdK.val
          rw [this]
        have HID := Lib.hid hid.symm
        clear hid
        have hI := Blk.new (wr.alloc (.cells #[.int .i64 t, .int .i64 kk, .bool had, .int .i64 o0, .int .i64 o1, .int .i64 o2, .bool has, .int .i64 n0, .int .i64 n1, .int .i64 n2] 35)) 71 #[.int .i64 t, .int .i64 kk]
        rw [World.size_alloc] at hI
        have FA : Fr [] wr ((wr.alloc (.cells #[.int .i64 t, .int .i64 kk, .bool had, .int .i64 o0, .int .i64 o1, .int .i64 o2, .bool has, .int .i64 n0, .int .i64 n1, .int .i64 n2] 35)).alloc (.cells #[.int .i64 t, .int .i64 kk] 71)) := ((Fr.refl _ _).alloc _).alloc _
        cases has
        · have hay := after_no ⟨t, kk, had, o0, o1, o2, false, n0, n1, n2⟩ rfl
          unfold Chg.val rowVal at hay
          go_wp2_with fail
          refine (hay _).mono ?_
          rintro e w2 ⟨rfl, f2⟩
          have F2 := FA.trans f2
          have hI2 := hI.fr f2 (by simp)
          clear f2 hI FA hay c0 c1 c2 c3 c4 c5 c6 c7 c8 c9
          have F3 := F2.alloc (.cells #[.int .i64 0, .int .i64 0, .int .i64 0, .int .i64 0, .int .i64 0] 33)
          have hI3 := hI2.fr ((Fr.refl [] w2).alloc (.cells #[.int .i64 0, .int .i64 0, .int .i64 0, .int .i64 0, .int .i64 0] 33)) (by simp)
          have hR3 := Blk.new w2 33 #[.int .i64 0, .int .i64 0, .int .i64 0, .int .i64 0, .int .i64 0]
          have i0 := hI3.cell 0
          have i1 := hI3.cell 1
          have y0 := hR3.cell 0
          have y1 := hR3.cell 1
          have y2 := hR3.cell 2
          have y3 := hR3.cell 3
          have y4 := hR3.cell 4
          have b3 := (hb2.fr F3 (by simp)).cell 0
          go_wp2_with fail
          generalize w2.alloc (.cells #[.int .i64 0, .int .i64 0, .int .i64 0, .int .i64 0, .int .i64 0] 33) = W3 at *
          go_still_tail 6, (by kernel_rfl)
          have hm3 : VMap Try.prog 71 klId RowV.val W3.drew m M := (hm1.fr F3 (by simp)).drew
          have F4 : Fr [] wr W3.drew := F3.drew
          change wpList _ _ _ _ _ W3.drew
          generalize W3.drew = W4 at hm3 F4 ⊢
          clear F3 hI3 hR3 i0 i1 y0 y1 y2 y3 y4 b3 F2 hI2
          go_wp2_with (at_delete; refine wpList_vdel _ rfl _ _ rfl tyIdRow m _ rfl hm3 (idOf t kk) HID.out trivial ?_; intro w6 hm6 ht6)
          go_roundw
          case rel => exact ⟨k + 1, by go_num, by omega, by rw [HTK.out]; exact hm6, (hf1.trans (F4.mono (by simp))).trans (turned_fr ht6 (by simp))⟩
          case measure => simp [intOf]; omega
        · have hay := after_yes ⟨t, kk, had, o0, o1, o2, true, n0, n1, n2⟩ rfl
          unfold Chg.val rowVal at hay
          go_wp2_with fail
          refine (hay _).mono ?_
          rintro e w2 ⟨rfl, f2⟩
          have F2 := FA.trans f2
          have hI2 := hI.fr f2 (by simp)
          clear f2 hI FA hay c0 c1 c2 c3 c4 c5 c6 c7 c8 c9
          have F3 := F2.alloc (.cells #[.int .i64 t, .int .i64 kk, .int .i64 n0, .int .i64 n1, .int .i64 n2] 33)
          have hI3 := hI2.fr ((Fr.refl [] w2).alloc (.cells #[.int .i64 t, .int .i64 kk, .int .i64 n0, .int .i64 n1, .int .i64 n2] 33)) (by simp)
          have hR3 := Blk.new w2 33 #[.int .i64 t, .int .i64 kk, .int .i64 n0, .int .i64 n1, .int .i64 n2]
          have i0 := hI3.cell 0
          have i1 := hI3.cell 1
          have y0 := hR3.cell 0
          have y1 := hR3.cell 1
          have y2 := hR3.cell 2
          have y3 := hR3.cell 3
          have y4 := hR3.cell 4
          have b3 := (hb2.fr F3 (by simp)).cell 0
          go_wp2_with fail
          generalize w2.alloc (.cells #[.int .i64 t, .int .i64 kk, .int .i64 n0, .int .i64 n1, .int .i64 n2] 33) = W3 at *
          go_still_tail 7, (by kernel_rfl)
          have hm3 : VMap Try.prog 71 klId RowV.val W3.drew m M := (hm1.fr F3 (by simp)).drew
          have F4 : Fr [] wr W3.drew := F3.drew
          change wpList _ _ _ _ _ W3.drew
          generalize W3.drew = W4 at hm3 F4 ⊢
          clear F3 hI3 hR3 i0 i1 y0 y1 y2 y3 y4 b3 F2 hI2
          go_wp2_with (at_mapUpdate; refine wpList_vstore _ rfl _ _ _ rfl tyIdRow m _ rfl hm3 (idOf t kk) ⟨t, kk, n0, n1, n2⟩ HID.out rfl trivial hsz ?_; intro w6 hm6 ht6)
          go_roundw
          case rel => exact ⟨k + 1, by go_num, by omega, by rw [HTK.out]; exact hm6, (hf1.trans (F4.mono (by simp))).trans (turned_fr ht6 (by simp))⟩
          case measure => simp [intOf]; omega
      · have hke : cs.take k = cs := List.take_of_length_le (by omega)
        rw [hke] at hm1
        have r0 := hr2.cell 0
        have z1 := hb2.frozen 1
        have b1 := hb2.cell 1
        have hb3 := hb2.set_ 1 (.int .i64 r.p)
        have FS : Fr [b] wr (wr.setCell ⟨b, 1, none⟩ (.int .i64 r.p)) := (Fr.refl _ _).setCell (.inl (by simp)) _
        have hm3 := hm1.fr FS (by simpa using hnb)
        have F5 : Fr [b, m] w (wr.setCell ⟨b, 1, none⟩ (.int .i64 r.p)) := ((F1.mono (by simp)).trans (hf1.mono (by simp))).trans (FS.mono (by simp))
        clear hke FS
        go_wp2_with fail
        go_ret
        refine ⟨by rw [HC.out]; rfl, ?_, F5⟩
        rw [HA.out]
        simp only [↓reduceIte]
        exact ⟨by simpa using hb3, hm3, HOK⟩
end Go.Proofs.Ythiaaminkfkjpaa

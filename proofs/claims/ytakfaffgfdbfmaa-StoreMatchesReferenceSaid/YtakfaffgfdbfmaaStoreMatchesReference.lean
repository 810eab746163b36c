/-
  A state agrees with the reference implementation, record by record, whether records can be applied or not: at most 30 records that integers determine, at most 10 arbitrary ones with at most 10 changes between them. Conditions: none.
-/
import Derived.Test.YtakfaffgfdbfmaaOk
import Derived.OpenShut
import Derived.Laws.IdiomArrays
import Derived.Test.YtakfaffgfdbfmaaBase
import Derived.BigQuiet
import Derived.Test.YtakfaffgfdbfmaaNoC
import Derived.Test.YtakfaffgfdbfmaaStD
import Derived.StillTailTactics
import Derived.Test.YtakfaffgfdbfmaaStE
import Derived.Test.YtakfaffgfdbfmaaRfB2
import Derived.Test.YtakfaffgfdbfmaaRfA3
import Derived.Test.YtakfaffgfdbfmaaAtL
import Derived.Test.YtakfaffgfdbfmaaRow2
import Derived.Test.YtakfaffgfdbfmaaRfC
import Derived.Test.YtakfaffgfdbfmaaRecs
import Derived.Deep.Slices
import Derived.ChangeArms
import Derived.Test.YtakfaffgfdbfmaaSwC
import Derived.Test.YtakfaffgfdbfmaaLgE
import Derived.Test.YtakfaffgfdbfmaaSwB
import Derived.Test.YtakfaffgfdbfmaaSwP
import Derived.Deep.DeepCutAuto
import Derived.Deep.RegionHeld3
import Derived.Deep.CutBlock
import Derived.IntWalk
namespace Go.Proofs.Ytakfaffgfdbfmaa
open Go.RowKit Go.WideShapes Go.ChangeShapes

set_option maxRecDepth 100000 in
theorem threeCells : Try.prog.cellsOf 48 = 3 := by kernel_rfl
set_option maxRecDepth 100000 in
theorem threeInt : Try.prog.cellsOf 3 = 1 := by kernel_rfl
set_option maxRecDepth 100000 in
theorem open_three {H : Type} {enc : TypeId × Value → H} {W : World} {base : Nat} {v : Value} {d : DataW H} {p : List MemPlace} (hv : Value.okWide Try.prog W .any base 48 v)
    (h : DataW.Trod enc Try.prog W 0 (fun _ => true) true 48 v d p) :
    ∃ a b c, v = .agg #[.int .i64 a, .int .i64 b, .int .i64 c] ∧ okI a ∧ okI b ∧ okI c := by
  unfold Value.okWide at hv
  rw [Try.underlying48] at hv
  obtain ⟨cs, rfl, hs, _⟩ := hv
  rw [threeCells] at hs
  obtain ⟨c0, c1, c2, rfl⟩ : ∃ c0 c1 c2, cs = #[c0, c1, c2] := by
    obtain ⟨l⟩ := cs
    match l, hs with
    | [c0, c1, c2], _ => exact ⟨c0, c1, c2, rfl⟩
  obtain ⟨fuel, hf⟩ := h
  obtain ⟨y0, y1, y2, n, _, h0, h1, h2⟩ := trod_array3 Try.underlying48 threeInt hf
  obtain ⟨z0, e0, _, w0⟩ := DataW.trod_int Try.underlying3 h0
  obtain ⟨z1, e1, _, w1⟩ := DataW.trod_int Try.underlying3 h1
  obtain ⟨z2, e2, _, w2⟩ := DataW.trod_int Try.underlying3 h2
  injection e0 with e0
  injection e1 with e1
  injection e2 with e2
  subst e0 e1 e2
  exact ⟨z0, z1, z2, rfl, w0, w1, w2⟩
end Go.Proofs.Ytakfaffgfdbfmaa
namespace Go.Proofs.Ytakfaffgfdbfmaa

/-- A world behind W: what is old there is as it was. -/
structure Later (W : World) where
  w : World
  fr : Fr [] W w
instance (W : World) : Nonempty (Later W) := ⟨⟨W, Fr.refl [] W⟩⟩
theorem Later.cell {W : World} (p : Later W) {b o : Nat} {v : Value} (hb : b < W.heap.size) (h : W.cell? ⟨b, o, none⟩ = some v) : p.w.cell? ⟨b, o, none⟩ = some v := (p.fr.rules.1 b o hb).trans h
theorem Later.calls {P : Program} {f : FuncId} {args : Array Value} {W : World} {v : Value} {p : Later W} (h : Calls P f args p.w fun e w' => e = .returned v ∧ Fr [] p.w w') :
    Calls P f args p.w fun e w'' => e = .returned v ∧ ∃ q : Later W, w'' = q.w :=
  h.mono fun _ w' hh => ⟨hh.1, ⟨w', p.fr.trans hh.2⟩, rfl⟩
theorem wp_region_later {P : Program} {id : Nat} {Q : Exit → Act → World → Prop} {a : Act} {w : World} {l : List Oper} (hm : P.follows .mixedOrders = true) (hB : Region.lexB .any l.toArray = true)
    (h : wpQuiet P l.toArray (fun w' => ∃ p : Later w, w' = p.w) (fun a' => ∀ w', (∃ p : Later w, w' = p.w) → Q .normal a' w') l a) : (Code.region id l.toArray true).wp P Q a w :=
  wp_region_quiet (C := fun w' => ∃ p : Later w, w' = p.w) hm hB ⟨⟨_, (Fr.refl [] w).drew⟩, rfl⟩ (by simpa using h)
end Go.Proofs.Ytakfaffgfdbfmaa
namespace Go.Proofs.Ytakfaffgfdbfmaa
open Go.RowKit

def FarC (w : World) (A : Option Addr) (cs : List Chg) (S : List Nat) : Prop := ChgsAt w A cs ∧ (0 < cs.length → ∀ ad, A = some ad → ad.block ∉ S)
theorem FarC.fr {w w' : World} {A : Option Addr} {cs : List Chg} {S S' : List Nat} (h : FarC w A cs S) (hf : Fr S' w w') (hs : ∀ x ∈ S', x ∈ S) : FarC w' A cs S := by
  refine ⟨fun hl => ?_, h.2⟩
  exact h.1.fr hf (fun ad e hm => h.2 hl ad e (hs _ hm)) hl
theorem FarC.less {w : World} {A : Option Addr} {cs : List Chg} {S S' : List Nat} (h : FarC w A cs S) (hs : ∀ x ∈ S', x ∈ S) : FarC w A cs S' := ⟨h.1, fun hl ad e hm => h.2 hl ad e (hs _ hm)⟩
end Go.Proofs.Ytakfaffgfdbfmaa
namespace Go.Proofs.Ytakfaffgfdbfmaa
open Go.RowKit
set_option maxRecDepth 100000 in
set_option maxHeartbeats 2000000 in
theorem sapply_far (b m : Nat) (s : Sm.Sta) (r : Rec) (A : Option Addr) (cap : Nat) (w : World) (h : StaAt w b m s) (hc : FarC w A r.cs [b, m]) (hlen : r.cs.length ≤ maxLen) :
    Calls Try.prog 15 #[.pointer (some ⟨b, 0, none⟩), .agg #[.int .i64 r.p, .slice A r.cs.length cap]] w fun e w' => e = .returned (.int .i64 (Sm.code s r)) ∧ StaAt w' b m (Sm.apply s r) ∧ Fr [b, m] w w' := by
  have HC : Hid (Sm.code s r = if Sm.fits s r = true then 0 else 40) := Lib.hid rfl
  have HA : Hid (Sm.apply s r = if Sm.fits s r = true then ⟨r.cs.foldl Sm.put1 s.M, r.p⟩ else s) := Lib.hid rfl
  have HOK := h.ok.applied r
  have hnb := h.ne
  have f0 : Fr [] w (w.alloc (.cells #[.int .i64 r.p, .slice A r.cs.length cap] 32)) := (Fr.refl _ _).alloc _
  have hr0 := Blk.new w 32 #[.int .i64 r.p, .slice A r.cs.length cap]
  go_enter Try.func15, Try.ntmps15
  go_wp2_with fail
  generalize w.alloc (.cells #[.int .i64 r.p, .slice A r.cs.length cap] 32) = W0 at *
  have h0 := h.fr0 f0
  have hc0 := hc.fr f0 (by simp)
  have r0 := hr0.cell 0
  have r1 := hr0.cell 1
  have hlr := hr0.lt
  have hbr : b ≠ w.heap.size := Nat.ne_of_lt h.lt.1
  have hmr : m ≠ w.heap.size := Nat.ne_of_lt h.lt.2
  refine (fits_any b m s r A cap _ h0 hc0.1 hlen).mono ?_
  rintro e w1 ⟨rfl, f1⟩
  have h1 := h0.fr0 f1
  have hc1 := hc0.fr f1 (by simp)
  have hr1 := hr0.fr f1 (by simp)
  have F1 : Fr [] w w1 := f0.trans f1
  clear f1 r0 r1 h0 hc0 hr0 f0 hlr
  cases hf : Sm.fits s r
  · rw [hf] at HC HA
    clear hf HOK
    go_wp2_with fail
    go_ret
    exact ⟨by rw [HC.out]; rfl, by rw [HA.out]; exact h1, F1.mono (by simp)⟩
  · rw [hf] at HC HA
    have HV := Lib.hid (Rw.valid_chgs (r := r) (by
      simp only [Sm.fits, Bool.and_eq_true] at hf
      exact hf.1.1))
    have hlen8 : 1 ≤ r.cs.length ∧ r.cs.length ≤ 8 := by
      have h1 := hf
      simp only [Sm.fits, Rw.valid, Rw.inI, Bool.and_eq_true, decide_eq_true_eq] at h1
      omega
    clear hf
    rw [HA.out, if_pos rfl] at HOK
    have r0 := hr1.cell 0
    have r1 := hr1.cell 1
    have R0 : ApRel w1 m s r.cs 0 w1 := ⟨Nat.zero_le _, h1.map, Fr.refl _ _⟩
    obtain ⟨bb, off, hA, hbb, hcc⟩ := hc1.1 (by omega)
    clear hbb hcc
    subst hA
    have HL := Sm.fold_len
    have hml := h1.ok.len
    have hnd := h1.ok.nd
    generalize r.cs = cs at *
    go_wp2_with fail
    go_loopw [21] (fun i wr => ∃ k : Nat, i = .int .i64 k ∧ ApRel w1 m s cs k wr) (fun i _ => cs.length - (intOf i).toNat)
    case atStart => exact ⟨0, rfl, R0⟩
    case round =>
      clear R0 r0 r1
      obtain ⟨k, rfl, hk, hm1, hf1⟩ := hrel
      have hc2 := hc1.fr hf1 (by simp)
      have hb2 := h1.blk.fr hf1 (by simpa using hnb.symm)
      have hr2 := hr1.fr hf1 (by simpa using hmr.symm)
      have b0 : wr.cell? ⟨b, 0, none⟩ = some (.map (some m)) := hb2.cell 0
      by_cases hlt : k < cs.length
      · obtain ⟨bb', off', hA', hbb, hcc⟩ := hc2.1 (by omega)
        cases hA'
        have hck := Lib.hid (fun j hj => hcc k hlt j hj)
        have hcb := Rw.chg_bounds (HV.out _ (List.getElem_mem hlt))
        have htk : (cs.take (k + 1)).foldl Sm.put1 s.M = Sm.put1 ((cs.take k).foldl Sm.put1 s.M) cs[k] := by
          rw [List.take_succ_eq_append_getElem hlt, List.foldl_append]
          rfl
        have HTK := Lib.hid htk
        have hsz : ((cs.take k).foldl Sm.put1 s.M).length < maxLen := by
          have := (HL (cs.take k) s.M hnd).2
          rw [List.length_take] at this
          simp only [maxLen]
          omega
        clear hcc htk
        generalize cs[k] = c at hck HTK hcb
        generalize (cs.take k).foldl Sm.put1 s.M = M at *
        obtain ⟨t, kk, had, o0, o1, o2, has, n0, n1, n2⟩ := c
        dsimp only at hcb
        have c0 : wr.cell? ⟨bb, off + k * 10, none⟩ = some (.int .i64 t) := hck.out 0 (by decide)
        have c1 : wr.cell? ⟨bb, off + k * 10 + 1, none⟩ = some (.int .i64 kk) := hck.out 1 (by decide)
        have c2 : wr.cell? ⟨bb, off + k * 10 + 2, none⟩ = some (.bool had) := hck.out 2 (by decide)
        have c3 : wr.cell? ⟨bb, off + k * 10 + 3, none⟩ = some (.int .i64 o0) := hck.out 3 (by decide)
        have c4 : wr.cell? ⟨bb, off + k * 10 + 4, none⟩ = some (.int .i64 o1) := hck.out 4 (by decide)
        have c5 : wr.cell? ⟨bb, off + k * 10 + 5, none⟩ = some (.int .i64 o2) := hck.out 5 (by decide)
        have c6 : wr.cell? ⟨bb, off + k * 10 + 6, none⟩ = some (.bool has) := hck.out 6 (by decide)
        have c7 : wr.cell? ⟨bb, off + k * 10 + 7, none⟩ = some (.int .i64 n0) := hck.out 7 (by decide)
        have c8 : wr.cell? ⟨bb, off + k * 10 + 8, none⟩ = some (.int .i64 n1) := hck.out 8 (by decide)
        have c9 : wr.cell? ⟨bb, off + k * 10 + 9, none⟩ = some (.int .i64 n2) := hck.out 9 (by decide)
        clear hck
        have hid : IdK.val (idOf t kk) = .agg #[.int .i64 t, .int .i64 kk] := by
          have := idOf_val (t := t) (k := kk) (okI_mk (by omega) (by omega)) (okI_mk (by omega) (by omega))
          unfold IdK.val
          rw [this]
        have HID := Lib.hid hid.symm
        clear hid
        have hI := Blk.new (wr.alloc (.cells #[.int .i64 t, .int .i64 kk, .bool had, .int .i64 o0, .int .i64 o1, .int .i64 o2, .bool has, .int .i64 n0, .int .i64 n1, .int .i64 n2] 57)) 76 #[.int .i64 t, .int .i64 kk]
        rw [World.size_alloc] at hI
        have FA : Fr [] wr ((wr.alloc (.cells #[.int .i64 t, .int .i64 kk, .bool had, .int .i64 o0, .int .i64 o1, .int .i64 o2, .bool has, .int .i64 n0, .int .i64 n1, .int .i64 n2] 57)).alloc (.cells #[.int .i64 t, .int .i64 kk] 76)) := ((Fr.refl _ _).alloc _).alloc _
        cases has
        · have hay := after_no ⟨t, kk, had, o0, o1, o2, false, n0, n1, n2⟩ rfl
          unfold Chg.val rowVal at hay
          go_wp2_with fail
          refine (hay _).mono ?_
          rintro e w2 ⟨rfl, f2⟩
          have F2 := FA.trans f2
          have hI2 := hI.fr f2 (by simp)
          clear f2 hI FA hay c0 c1 c2 c3 c4 c5 c6 c7 c8 c9
          have F3 := F2.alloc (.cells #[.int .i64 0, .int .i64 0, .int .i64 0, .int .i64 0, .int .i64 0] 50)
          have hI3 := hI2.fr ((Fr.refl [] w2).alloc (.cells #[.int .i64 0, .int .i64 0, .int .i64 0, .int .i64 0, .int .i64 0] 50)) (by simp)
          have hR3 := Blk.new w2 50 #[.int .i64 0, .int .i64 0, .int .i64 0, .int .i64 0, .int .i64 0]
          have i0 := hI3.cell 0
          have i1 := hI3.cell 1
          have y0 := hR3.cell 0
          have y1 := hR3.cell 1
          have y2 := hR3.cell 2
          have y3 := hR3.cell 3
          have y4 := hR3.cell 4
          have b3 := (hb2.fr F3 (by simp)).cell 0
          go_wp2_with fail
          generalize w2.alloc (.cells #[.int .i64 0, .int .i64 0, .int .i64 0, .int .i64 0, .int .i64 0] 50) = W3 at *
          go_still_tail 6, (by kernel_rfl)
          have hm3 : VMap Try.prog 76 klId RowV.val W3.drew m M := (hm1.fr F3 (by simp)).drew
          have F4 : Fr [] wr W3.drew := F3.drew
          change wpList _ _ _ _ _ W3.drew
          generalize W3.drew = W4 at hm3 F4 ⊢
          clear F3 hI3 hR3 i0 i1 y0 y1 y2 y3 y4 b3 F2 hI2
          go_wp2_with (at_delete; refine wpList_vdel _ rfl _ _ rfl tyIdRow m _ rfl hm3 (idOf t kk) HID.out trivial ?_; intro w6 hm6 ht6)
          go_roundw
          case rel => exact ⟨k + 1, by go_num, by omega, by rw [HTK.out]; exact hm6, (hf1.trans (F4.mono (by simp))).trans (turned_fr ht6 (by simp))⟩
          case measure => simp [intOf]; omega
        · have hay := after_yes ⟨t, kk, had, o0, o1, o2, true, n0, n1, n2⟩ rfl
          unfold Chg.val rowVal at hay
          go_wp2_with fail
          refine (hay _).mono ?_
          rintro e w2 ⟨rfl, f2⟩
          have F2 := FA.trans f2
          have hI2 := hI.fr f2 (by simp)
          clear f2 hI FA hay c0 c1 c2 c3 c4 c5 c6 c7 c8 c9
          have F3 := F2.alloc (.cells #[.int .i64 t, .int .i64 kk, .int .i64 n0, .int .i64 n1, .int .i64 n2] 50)
          have hI3 := hI2.fr ((Fr.refl [] w2).alloc (.cells #[.int .i64 t, .int .i64 kk, .int .i64 n0, .int .i64 n1, .int .i64 n2] 50)) (by simp)
          have hR3 := Blk.new w2 50 #[.int .i64 t, .int .i64 kk, .int .i64 n0, .int .i64 n1, .int .i64 n2]
          have i0 := hI3.cell 0
          have i1 := hI3.cell 1
          have y0 := hR3.cell 0
          have y1 := hR3.cell 1
          have y2 := hR3.cell 2
          have y3 := hR3.cell 3
          have y4 := hR3.cell 4
          have b3 := (hb2.fr F3 (by simp)).cell 0
          go_wp2_with fail
          generalize w2.alloc (.cells #[.int .i64 t, .int .i64 kk, .int .i64 n0, .int .i64 n1, .int .i64 n2] 50) = W3 at *
          go_still_tail 7, (by kernel_rfl)
          have hm3 : VMap Try.prog 76 klId RowV.val W3.drew m M := (hm1.fr F3 (by simp)).drew
          have F4 : Fr [] wr W3.drew := F3.drew
          change wpList _ _ _ _ _ W3.drew
          generalize W3.drew = W4 at hm3 F4 ⊢
          clear F3 hI3 hR3 i0 i1 y0 y1 y2 y3 y4 b3 F2 hI2
          go_wp2_with (at_mapUpdate; refine wpList_vstore _ rfl _ _ _ rfl tyIdRow m _ rfl hm3 (idOf t kk) ⟨t, kk, n0, n1, n2⟩ HID.out rfl trivial hsz ?_; intro w6 hm6 ht6)
          go_roundw
          case rel => exact ⟨k + 1, by go_num, by omega, by rw [HTK.out]; exact hm6, (hf1.trans (F4.mono (by simp))).trans (turned_fr ht6 (by simp))⟩
          case measure => simp [intOf]; omega
      · have hke : cs.take k = cs := List.take_of_length_le (by omega)
        rw [hke] at hm1
        have r0 := hr2.cell 0
        have z1 := hb2.frozen 1
        have b1 := hb2.cell 1
        have hb3 := hb2.set_ 1 (.int .i64 r.p)
        have FS : Fr [b] wr (wr.setCell ⟨b, 1, none⟩ (.int .i64 r.p)) := (Fr.refl _ _).setCell (.inl (by simp)) _
        have hm3 := hm1.fr FS (by simpa using hnb)
        have F5 : Fr [b, m] w (wr.setCell ⟨b, 1, none⟩ (.int .i64 r.p)) := ((F1.mono (by simp)).trans (hf1.mono (by simp))).trans (FS.mono (by simp))
        clear hke FS
        go_wp2_with fail
        go_ret
        refine ⟨by rw [HC.out]; rfl, ?_, F5⟩
        rw [HA.out]
        simp only [↓reduceIte]
        exact ⟨by simpa using hb3, hm3, HOK⟩
end Go.Proofs.Ytakfaffgfdbfmaa
namespace Go.Proofs.Ytakfaffgfdbfmaa
open Go.RowKit
set_option maxRecDepth 100000 in
set_option maxHeartbeats 20000000 in
theorem rfapply_far (b : Nat) (v : Value) (L : List RowV) (s : Sm.Sta) (r : Rec) (A : Option Addr) (cap : Nat) (w : World) (h : RfAt w b v L s) (hc : FarC w A r.cs [b]) (hlen : r.cs.length ≤ maxLen) :
    Calls Try.prog 16 #[.pointer (some ⟨b, 0, none⟩), .agg #[.int .i64 r.p, .slice A r.cs.length cap]] w fun e w' =>
      e = .returned (.int .i64 (Sm.code s r)) ∧ ∃ v' L', RfAt w' b v' L' (Sm.apply s r) ∧ Fr [b] w w' ∧ ∀ g, v'.ownBlock = some g → v.ownBlock = some g ∨ w.heap.size ≤ g := by
  have HF : Hid (Sm.fits s r = (Rw.valid r && decide (r.p = s.pos + 1) && Sm.fitsGo s.M s.M.length r.cs)) := Lib.hid rfl
  have HCO : Hid (Sm.code s r = if Sm.fits s r = true then 0 else 40) := Lib.hid rfl
  have HAP : Hid (Sm.apply s r = if Sm.fits s r = true then ⟨r.cs.foldl Sm.put1 s.M, r.p⟩ else s) := Lib.hid rfl
  have HNO := Lib.hid (fun (hf : Sm.fits s r = false) (w' : World) (hr : RfAt w' b v L s) (f : Fr [] w w') => (show Ending.returned (Value.int .i64 40) = .returned (.int .i64 (Sm.code s r)) ∧ ∃ v' L', RfAt w' b v' L' (Sm.apply s r) ∧ Fr [b] w w' ∧ ∀ g, v'.ownBlock = some g → v.ownBlock = some g ∨ w.heap.size ≤ g from by
    rw [HCO.out, HAP.out, hf]
    exact ⟨rfl, v, L, hr, f.mono (by simp), fun g hg => .inl hg⟩))
  have HMID := Lib.hid (fun hf => Sm.fits_mid h.ok (r := r) hf)
  have HOK := Lib.hid (h.ok.applied r)
  have f0 : Fr [] w (w.alloc (.cells #[.int .i64 r.p, .slice A r.cs.length cap] 32)) := (Fr.refl _ _).alloc _
  have hr0 := Blk.new w 32 #[.int .i64 r.p, .slice A r.cs.length cap]
  have h0 := h.fr0 f0
  have hc0 := hc.fr f0 (by simp)
  have hbr : b ≠ w.heap.size := Nat.ne_of_lt h.blk.lt
  have hp0 := h.ok.p0
  have hp1 := h.ok.p1
  have hml := h.ok.len
  go_enter Try.func16, Try.ntmps16
  go_wp2_with fail
  generalize w.alloc (.cells #[.int .i64 r.p, .slice A r.cs.length cap] 32) = W0 at *
  refine (rfRecord_any r A cap _ hc0.1 hlen).mono ?_
  rintro e w1 ⟨rfl, f1⟩
  have h1 := h0.fr0 f1
  have hc1 := hc0.fr f1 (by simp)
  have hr1 := hr0.fr f1 (by simp)
  have F1 : Fr [] w w1 := f0.trans f1
  clear f1 h0 hc0 hr0 f0 hc
  cases hv : Rw.valid r
  · have HFA := Lib.hid (HNO.out (by rw [HF.out, hv]; rfl) w1.drew (h1.fr0 (Fr.refl [] w1).drew) F1.drew)
    clear hv
    go_wp2_with fail
    go_region
    go_wp2_with fail
    go_ret
    exact HFA.out
  have hvf : 1 ≤ r.p ∧ r.p ≤ 10000 ∧ 1 ≤ r.cs.length ∧ r.cs.length ≤ 8 := by
    have h1 := hv
    simp only [Rw.valid, Rw.inI, Bool.and_eq_true, decide_eq_true_eq] at h1
    omega
  have HV := Lib.hid hv
  clear hv
  have b1 : w1.cell? ⟨b, 1, none⟩ = some (.int .i64 s.pos) := h1.blk.cell 1
  have r0 := hr1.cell 0
  have hlb := h1.blk.lt
  by_cases hp : r.p = s.pos + 1
  · have hd : (r.p != s.pos + 1) = false := by simpa using hp
    have HP := Lib.hid hp
    clear hp
    have HFF : Hid (Sm.fits s r = Sm.fitsGo s.M s.M.length r.cs) := Lib.hid (by rw [HF.out, HV.out]; simp [HP.out])
    have hc1d := hc1.fr (Fr.refl [] w1).drew (by simp)
    obtain ⟨bb, off, hA, hbb, hcc⟩ := hc1.1 (by omega)
    subst hA
    have Hcc := Lib.hid hcc
    have hHC := Lib.hid hc1
    have hbbb : bb ≠ b := by
      have h9 := hc1.2 (by omega) ⟨bb, off, none⟩ rfl
      simpa using h9
    clear hcc hc1 hc1d
    obtain ⟨A0, cap0, hv0⟩ := h1.row.val
    subst hv0
    have hsl := Lib.hid h1.sim.len
    have hLl : L.length ≤ 2000 := by rw [hsl.out]; exact hml
    have b0 : w1.cell? ⟨b, 0, none⟩ = some (.slice A0 L.length cap0) := h1.blk.cell 0
    have r1 : w1.cell? ⟨w.heap.size, 1, none⟩ = some (.slice (some ⟨bb, off, none⟩) r.cs.length cap) := hr1.cell 1
    have hval := Lib.hid (Rw.valid_chgs' HV.out)
    have FW1 : Fr [] w1 w1.drew := (Fr.refl _ _).drew
    have hLL : Sm.fitsGo s.M s.M.length r.cs = Sm.fitsGo s.M L.length (r.cs.drop 0) := by rw [hsl.out]; rfl
    have HLL := Lib.hid hLL
    clear hLL
    have hlr := hr1.lt
    go_wp2_with fail
    go_region
    go_wp2_with fail
    have h2 := h1.fr0 (Fr.refl [] w1).drew
    have hr2 := hr1.fr (Fr.refl [] w1).drew (by simp)
    have F2 : Fr [] w w1.drew := F1.drew
    have hcc2 := Lib.hid (fun i hi j hj => ((Fr.refl [] w1).drew.cell (p := ⟨bb, off + i * 10 + j, none⟩) hbb (by simp)).trans (Hcc.out i hi j hj))
    have hbb2 : bb < w1.drew.heap.size := hbb
    have hHC2 := Lib.hid (hHC.out.fr (Fr.refl [] w1).drew (by simp))
    generalize w1.drew = W2 at *
    clear h1 hr1 F1 b1 r0 b0 r1 FW1 hbb hlr hlb Hcc hHC
    have R0 : Fr [] W2 W2 := Fr.refl _ _
    go_loopw [6, 7] (fun nv i wr => ∃ (k : Nat) (n : Int), (nv = .int .i64 n ∧ i = .int .i64 k) ∧ k ≤ r.cs.length ∧ Hid (Sm.fitsGo s.M s.M.length r.cs = Sm.fitsGo s.M n (r.cs.drop k)) ∧ Fr [] W2 wr ∧ (-(k : Int) ≤ n ∧ n ≤ 2000 + k)) (fun _ i _ => r.cs.length - (intOf i).toNat)
    case atStart => exact ⟨0, _, ⟨rfl, rfl⟩, Nat.zero_le _, HLL, R0, by omega⟩
    case round =>
      clear R0
      obtain ⟨k, n, ⟨rfl, rfl⟩, hk, HGO, hf2, hn1, hn2⟩ := hrel
      have hr3 := hr2.fr hf2 (by simp)
      have r1 := hr3.cell 1
      have hlr := hr3.lt
      by_cases hlt : k < r.cs.length
      · have hck := Lib.hid (fun j hj => (hf2.cell (p := ⟨bb, off + k * 10 + j, none⟩) hbb2 (by simp)).trans (hcc2.out k hlt j hj))
        have hgo' : Sm.fitsGo s.M s.M.length r.cs = (Sm.meets s.M r.cs[k] && Sm.fitsGo s.M (Sm.grow n r.cs[k]) (r.cs.drop (k + 1))) := by
          rw [HGO.out, List.drop_eq_getElem_cons hlt]; rfl
        have HGN := Lib.hid hgo'
        have hcb := Rw.chg_bounds (hval.out _ (List.getElem_mem hlt))
        clear HGO hgo'
        generalize r.cs[k] = c at hck HGN hcb
        obtain ⟨t, kk, had, o0, o1, o2, has, n0, n1, n2⟩ := c
        dsimp only at hcb
        have c0 : wr.cell? ⟨bb, off + k * 10, none⟩ = some (.int .i64 t) := hck.out 0 (by decide)
        have c1 : wr.cell? ⟨bb, off + k * 10 + 1, none⟩ = some (.int .i64 kk) := hck.out 1 (by decide)
        have c2 : wr.cell? ⟨bb, off + k * 10 + 2, none⟩ = some (.bool had) := hck.out 2 (by decide)
        have c3 : wr.cell? ⟨bb, off + k * 10 + 3, none⟩ = some (.int .i64 o0) := hck.out 3 (by decide)
        have c4 : wr.cell? ⟨bb, off + k * 10 + 4, none⟩ = some (.int .i64 o1) := hck.out 4 (by decide)
        have c5 : wr.cell? ⟨bb, off + k * 10 + 5, none⟩ = some (.int .i64 o2) := hck.out 5 (by decide)
        have c6 : wr.cell? ⟨bb, off + k * 10 + 6, none⟩ = some (.bool has) := hck.out 6 (by decide)
        have c7 : wr.cell? ⟨bb, off + k * 10 + 7, none⟩ = some (.int .i64 n0) := hck.out 7 (by decide)
        have c8 : wr.cell? ⟨bb, off + k * 10 + 8, none⟩ = some (.int .i64 n1) := hck.out 8 (by decide)
        have c9 : wr.cell? ⟨bb, off + k * 10 + 9, none⟩ = some (.int .i64 n2) := hck.out 9 (by decide)
        clear hck
        have h3 := h2.fr0 hf2
        have hN0 := Blk.new wr 57 #[.int .i64 t, .int .i64 kk, .bool had, .int .i64 o0, .int .i64 o1, .int .i64 o2, .bool has, .int .i64 n0, .int .i64 n1, .int .i64 n2]
        have f4 : Fr [] wr (wr.alloc (.cells #[.int .i64 t, .int .i64 kk, .bool had, .int .i64 o0, .int .i64 o1, .int .i64 o2, .bool has, .int .i64 n0, .int .i64 n1, .int .i64 n2] 57)) := (Fr.refl _ _).alloc _
        go_wp2_with fail
        refine (rfget_any b _ L s t kk _ (h3.fr0 f4) (okI_mk (by omega) (by omega)) (okI_mk (by omega) (by omega))).mono ?_
        rintro e w5 ⟨rfl, f5⟩
        have F5 : Fr [] W2 w5 := hf2.trans (f4.trans f5)
        have hN := hN0.fr f5 (by simp)
        clear c0 c1 c2 c3 c4 c5 c6 c7 c8 c9 f4 f5 hN0 h3 r1 hlr hr3 hf2
        have c2 := hN.cell 2
        have c3 := hN.cell 3
        have c4 := hN.cell 4
        have c5 := hN.cell 5
        have c6 := hN.cell 6
        have hlN := hN.lt
        have HM : Hid (Sm.meets s.M ⟨t, kk, had, o0, o1, o2, has, n0, n1, n2⟩ = match mget s.M (idOf t kk) with
          | some r => had && decide (r.x = o0 ∧ r.y = o1 ∧ r.z = o2)
          | none => !had) := Lib.hid rfl
        have hqn := neq_v3
        have hqg := eqGuard_v3
        cases hg : mget s.M (idOf t kk) with
        | none =>
          have HM2 : Hid (Sm.meets s.M ⟨t, kk, had, o0, o1, o2, has, n0, n1, n2⟩ = !had) := Lib.hid (by rw [HM.out, hg])
          clear HM hg
          simp only [gotVal, Option.map_none, Option.getD_none, Option.isSome_none]
          cases had
          · cases has
            all_goals
              go_wp2_with fail
              go_roundw
              case rel => first
                | exact ⟨k + 1, n, ⟨rfl, by go_num⟩, by omega, Lib.hid (by rw [HGN.out, HM2.out]; simp [Sm.grow]), F5.alloc _, by omega, by omega⟩
                | exact ⟨k + 1, n + 1, ⟨rfl, by go_num⟩, by omega, Lib.hid (by rw [HGN.out, HM2.out]; simp [Sm.grow]), F5.alloc _, by omega, by omega⟩
              case measure => simp [intOf]; omega
          · have HFA := Lib.hid (HNO.out (by rw [HFF.out, HGN.out, HM2.out]; rfl) (w5.alloc (.cells #[.int .i64 0, .int .i64 0, .int .i64 0, .int .i64 0, .int .i64 0] 50)) (h2.fr0 (F5.alloc _)) (F2.trans (F5.alloc _)))
            go_wp2_with fail
            go_ret
            exact HFA.out
        | some u =>
          have HM2 : Hid (Sm.meets s.M ⟨t, kk, had, o0, o1, o2, has, n0, n1, n2⟩ = (had && decide (u.x = o0 ∧ u.y = o1 ∧ u.z = o2))) := Lib.hid (by rw [HM.out, hg])
          clear HM hg
          obtain ⟨ut, uk, ux, uy, uz⟩ := u
          simp only [gotVal, Option.map_some, Option.getD_some, Option.isSome_some, RowV.val]
          dsimp only at HM2
          have HE := Lib.hid (fun hff => HNO.out hff (w5.alloc (.cells #[.int .i64 ut, .int .i64 uk, .int .i64 ux, .int .i64 uy, .int .i64 uz] 50)) (h2.fr0 (F5.alloc _)) (F2.trans (F5.alloc _)))
          cases had
          · have HFA := Lib.hid (HE.out (by rw [HFF.out, HGN.out, HM2.out]; rfl))
            go_wp2_with fail
            go_ret
            exact HFA.out
          · have hq := neq_v3 ux uy uz o0 o1 o2
            by_cases he : ux = o0 ∧ uy = o1 ∧ uz = o2
            · rw [decide_eq_true he] at hq HM2
              clear he hqn
              cases has
              all_goals
                go_wp2_with fail
                go_roundw
                case rel => first
                  | exact ⟨k + 1, n, ⟨rfl, by go_num⟩, by omega, Lib.hid (by rw [HGN.out, HM2.out]; simp [Sm.grow]), F5.alloc _, by omega, by omega⟩
                  | exact ⟨k + 1, n - 1, ⟨rfl, by go_num⟩, by omega, Lib.hid (by rw [HGN.out, HM2.out]; simp [Sm.grow]), F5.alloc _, by omega, by omega⟩
                case measure => simp [intOf]; omega
            · rw [decide_eq_false he] at hq HM2
              have HFA := Lib.hid (HE.out (by rw [HFF.out, HGN.out, HM2.out]; rfl))
              clear he hqn
              go_wp2_with fail
              go_ret
              exact HFA.out
      · have hFA : Sm.fitsGo s.M s.M.length r.cs = decide (n ≤ 2000) := by
          rw [HGO.out, List.drop_of_length_le (by omega)]
          rfl
        have HFA := Lib.hid hFA
        clear HGO hFA
        have h3 := h2.fr0 hf2
        have F3 := F2.trans hf2
        have hHC3 := Lib.hid (hHC2.out.fr hf2 (by simp))
        clear hf2 hcc2 h2 hr2 hHC2 F2
        by_cases hn : 2000 < n
        · have HFB := Lib.hid (HNO.out (by rw [HFF.out, HFA.out]; simp; omega) wr h3 F3)
          go_wp2_with fail
          go_ret
          exact HFB.out
        · have HFT : Hid (Sm.fits s r = true) := Lib.hid (by rw [HFF.out, HFA.out]; simp; omega)
          have HAP2 : Hid (Sm.apply s r = ⟨r.cs.foldl Sm.put1 s.M, r.p⟩) := Lib.hid (by rw [HAP.out, if_pos HFT.out])
          have HCO2 : Hid (Sm.code s r = 0) := Lib.hid (by rw [HCO.out, if_pos HFT.out])
          have HMI := Lib.hid (HMID.out HFT.out)
          clear HAP HCO HMID HNO HFA HFF HF
          go_wp2_with fail
          obtain ⟨W3, hW3⟩ : ∃ W, W = wr := ⟨_, rfl⟩
          subst hW3
          have M0 : RfMid W3 W3 b s r.cs 0 (.slice A0 L.length cap0) L := ⟨h3.blk, h3.row, h3.sim, Fr.refl _ _⟩
          have HM0 := Lib.hid M0
          have nob : ∀ x ∈ [b], x ∈ [b] := fun x hx => hx
          have hwb : bb < W3.heap.size := by
            obtain ⟨bb', off', hA', hbb', _⟩ := hHC3.out.1 (by omega)
            cases hA'
            exact hbb'
          clear M0 h3 hlt hk hn1 hn2 hn
          go_loopw [11] (fun i wr => ∃ (k : Nat) (v : Value) (L' : List RowV), i = .int .i64 k ∧ k ≤ r.cs.length ∧ Hid (RfMid W3 wr b s r.cs k v L' ∧ ∀ g, v.ownBlock = some g → (Value.slice A0 L.length cap0).ownBlock = some g ∨ w.heap.size ≤ g)) (fun i _ => r.cs.length - (intOf i).toNat)
          case atStart => exact ⟨0, _, L, rfl, Nat.zero_le _, Lib.hid ⟨HM0.out, fun g hg => .inl hg⟩⟩
          case round =>
            clear HM0 r1 hlr
            obtain ⟨k, v, L', rfl, hk, HMM⟩ := hrel
            have hfq := HMM.out.1.fr
            have hr4 := hr3.fr hfq (by simpa using hbr.symm)
            have r1 := hr4.cell 1
            have hlr := hr4.lt
            by_cases hlt : k < r.cs.length
            · obtain ⟨A1, cap1, hv1⟩ := HMM.out.1.row.val
              subst hv1
              obtain ⟨mnd, mkey, mmeets, mlen⟩ := HMI.out k hlt
              have hchg := hval.out _ (List.getElem_mem hlt)
              have hcb := Rw.chg_bounds hchg
              have hL'l : L'.length ≤ 2010 := by rw [HMM.out.1.sim.len]; omega
              have hcq : ∀ j, j < 10 → wr.cell? ⟨bb, off + k * 10 + j, none⟩ = r.cs[k].cells[j]? := by
                obtain ⟨bb', off', e1, _, e2⟩ := (hHC3.out.fr hfq nob).1 (by omega)
                cases e1
                exact fun j hj => e2 k hlt j hj
              have hck := Lib.hid hcq
              clear hcq
              have htk : (r.cs.take (k + 1)).foldl Sm.put1 s.M = Sm.put1 ((r.cs.take k).foldl Sm.put1 s.M) r.cs[k] := by
                rw [List.take_succ_eq_append_getElem hlt, List.foldl_append]
                rfl
              have HTK := Lib.hid htk
              have HPUT := Lib.hid (fun n (hp : Sm.Plc L' r.cs[k].t r.cs[k].k n) => HMM.out.1.sim.put1 mnd mkey (c := r.cs[k]) (okI_mk (by omega) (by omega)) (okI_mk (by omega) (by omega)) hp mmeets)
              clear htk mnd mkey mmeets mlen hchg
              generalize r.cs[k] = c at hck HTK HPUT hcb
              obtain ⟨t, kk, had, o0, o1, o2, has, n0, n1, n2⟩ := c
              dsimp only at hcb HPUT
              have c0 : wr.cell? ⟨bb, off + k * 10, none⟩ = some (.int .i64 t) := hck.out 0 (by decide)
              have c1 : wr.cell? ⟨bb, off + k * 10 + 1, none⟩ = some (.int .i64 kk) := hck.out 1 (by decide)
              have c2 : wr.cell? ⟨bb, off + k * 10 + 2, none⟩ = some (.bool had) := hck.out 2 (by decide)
              have c3 : wr.cell? ⟨bb, off + k * 10 + 3, none⟩ = some (.int .i64 o0) := hck.out 3 (by decide)
              have c4 : wr.cell? ⟨bb, off + k * 10 + 4, none⟩ = some (.int .i64 o1) := hck.out 4 (by decide)
              have c5 : wr.cell? ⟨bb, off + k * 10 + 5, none⟩ = some (.int .i64 o2) := hck.out 5 (by decide)
              have c6 : wr.cell? ⟨bb, off + k * 10 + 6, none⟩ = some (.bool has) := hck.out 6 (by decide)
              have c7 : wr.cell? ⟨bb, off + k * 10 + 7, none⟩ = some (.int .i64 n0) := hck.out 7 (by decide)
              have c8 : wr.cell? ⟨bb, off + k * 10 + 8, none⟩ = some (.int .i64 n1) := hck.out 8 (by decide)
              have c9 : wr.cell? ⟨bb, off + k * 10 + 9, none⟩ = some (.int .i64 n2) := hck.out 9 (by decide)
              clear hck
              have hN0 := Blk.new wr 57 #[.int .i64 t, .int .i64 kk, .bool had, .int .i64 o0, .int .i64 o1, .int .i64 o2, .bool has, .int .i64 n0, .int .i64 n1, .int .i64 n2]
              have f4 : Fr [] wr (wr.alloc (.cells #[.int .i64 t, .int .i64 kk, .bool had, .int .i64 o0, .int .i64 o1, .int .i64 o2, .bool has, .int .i64 n0, .int .i64 n1, .int .i64 n2] 57)) := (Fr.refl _ _).alloc _
              have hb4 := HMM.out.1.blk.fr f4 (by simp)
              have hrw4 := HMM.out.1.row.fr f4 (by simp)
              go_wp2_with fail
              refine (place_any b A1 cap1 L' t kk _ (hb4.cell 0) hrw4 HMM.out.1.sim.srt (by omega)).mono ?_
              rintro e w' ⟨m, ⟨rfl, rfl⟩, hp⟩
              obtain ⟨hle, hsim⟩ := HPUT.out m hp
              have HSIM := Lib.hid hsim
              have hml' := hp.le
              clear HPUT hp hsim c0 c1 c2 c3 c4 c5 c6 c7 c8 c9
              have c0 := hN0.cell 0
              have c1 := hN0.cell 1
              have c2 := hN0.cell 2
              have c3 := hN0.cell 3
              have c4 := hN0.cell 4
              have c5 := hN0.cell 5
              have c6 := hN0.cell 6
              have c7 := hN0.cell 7
              have c8 := hN0.cell 8
              have c9 := hN0.cell 9
              have b0 := hb4.cell 0
              generalize wr.alloc (.cells #[.int .i64 t, .int .i64 kk, .bool had, .int .i64 o0, .int .i64 o1, .int .i64 o2, .bool has, .int .i64 n0, .int .i64 n1, .int .i64 n2] 57) = W5 at *
              have HAF := Lib.hid (rfAfter_any ⟨t, kk, had, o0, o1, o2, has, n0, n1, n2⟩ W5)
              unfold Chg.val rowVal at HAF
              have HMC := Lib.hid (fun v9 L9 w9 (hb9 : Blk w9 b 38 #[.slice A1 L'.length cap1, .int .i64 s.pos]) (hr9 : RowsOwn w9 v9 L9) (hs9 : Sm.Sim ((r.cs.take (k + 1)).foldl Sm.put1 s.M) L9) (hf9 : Fr [b] W3 w9) (hv9 : ∀ g, v9.ownBlock = some g → w.heap.size ≤ g) =>
                (show RfMid W3 (w9.setCell ⟨b, 0, none⟩ v9) b s r.cs (k + 1) v9 L9 ∧ ∀ g, v9.ownBlock = some g → (Value.slice A0 L.length cap0).ownBlock = some g ∨ w.heap.size ≤ g from
                  ⟨⟨by have h1 := hb9.set_ 0 v9; simpa using h1, hr9.fr (S := [b]) ((Fr.refl _ _).setCell (.inl (by simp)) _) (fun g hg => by simpa using hr9.ne hb9 (by decide) hg), hs9, hf9.setCell (.inl (by simp)) _⟩, fun g hg => .inr (hv9 g hg)⟩))
              have F5 : Fr [b] W3 W5 := hfq.trans (f4.mono (by simp))
              have hsz3 : w.heap.size ≤ W3.heap.size := F3.size
              have hsz5 : w.heap.size ≤ W5.heap.size := Nat.le_trans hsz3 F5.size
              obtain ⟨i0, TR⟩ := etRow
              clear f4 hN0 HMM hfq hr4
              have Hb4 := Lib.hid hb4
              have hRD := Lib.hid (hrw4.reads (A := A1) (n := L'.length) (cap := cap1) rfl)
              have hFM := Lib.hid (fun (h : 0 < L'.length) => hrw4.form RowV.cells_len h)
              have hcpl : L'.length ≤ cap1 := own_cap hrw4
              clear hb4 hrw4
              cases had
              · cases has
                · simp only [Bool.false_eq_true, if_false, if_true, Nat.add_zero, List.nil_append, List.cons_append] at hle HSIM HAF
                  by_cases hq : m < L'.length
                  · obtain ⟨gR, cap', hA, hlc, hcm, hgl, hcell, hfz⟩ := hFM.out (by omega)
                    cases hA
                    clear hcell hfz hlc hcm hgl
                    have hDR := Lib.hid (hRD.out.from2 RowV.cells_len (k := m) (off := m * 5) (n := L'.length - m) (by omega) (by omega) (by omega))
                    have hTK := Lib.hid (hRD.out.takeL RowV.cells_len (k := m) (by omega))
                    have htl : Hid ((L'.take m).length = m) := Lib.hid (by rw [List.length_take]; omega)
                    have HS9 : Hid (Sm.Sim ((r.cs.take (k + 1)).foldl Sm.put1 s.M) ((L'.take m ++ ([] : List RowV)) ++ (L'.drop (m)))) := Lib.hid (by have h := HSIM.out; rw [← HTK.out] at h; simpa [List.append_assoc, Sm.after] using h)
                    have hcne : ¬ cap1 = m := by omega
                    have hmx : Hid ((2020 : Nat) ≤ maxLen) := Lib.hid (by decide)
                    have hn1 : Hid (([] : List RowV).length + (L'.take m).length ≤ 2020) := Lib.hid (by rw [htl.out, List.length_nil]; omega)
                    have hn2 : Hid ((L'.take m).length + ([] : List RowV).length ≤ 2020) := Lib.hid (by rw [htl.out]; simp; omega)
                    have hn3 : Hid ((L'.take m ++ ([] : List RowV)).length + (L'.drop (m)).length ≤ 2020) := Lib.hid (by rw [List.length_append, htl.out]; simp; omega)
                    clear HSIM HTK hRD hFM
                    go_wp2_with (first | (go_at_call 37; refine HAF.out.mono ?_; rintro e w6 ⟨rfl, f6⟩; have hb6 := Hb4.out.fr f6 (by simp); have b0' := hb6.cell 0; have hl6 := hb6.lt; have hs6 := f6.size; have HBA := Lib.hid (hb6.alloc (.cells #[.int .i64 0, .int .i64 0, .int .i64 0, .int .i64 0, .int .i64 0] 50)); have FA : Fr [] W5 (w6.alloc (.cells #[.int .i64 0, .int .i64 0, .int .i64 0, .int .i64 0, .int .i64 0] 50)) := f6.alloc (.cells #[.int .i64 0, .int .i64 0, .int .i64 0, .int .i64 0, .int .i64 0] 50); have HFA := Lib.hid FA; have hTKa := Lib.hid (hTK.out.fr (Nat.le_refl _) FA (by simp)); have hDRa := Lib.hid (hDR.out.fr (Nat.le_refl _) FA (by simp)); have hMDa := Lib.hid True.intro; clear f6 FA) | (at_builtin; first | (refine wpList_appendL rfl _ _ rfl TR RowV.cells_len RowV.cells_one rfl hrow8 _ _ _ _ (L'.drop (m)) rfl (by simp; try omega) hDR8.out (Nat.le_trans hn3.out hmx.out) (Nat.le_trans (Nat.mul_le_mul_right 40 hn3.out) (by decide)) ?_; intro v9 w9 hrow9 (hg9 : World.grownBy _ w9 (Value.slice A8 m8 cap8).ownBlock) (hat9 : v9.ownBlock = (Value.slice A8 m8 cap8).ownBlock ∨ v9.ownBlock = some w8.heap.size); have HB9 := Lib.hid (HB8.out.grown hg9 (fun e => hrow8.ne HB8.out (by decide) e.symm rfl)); have b09 := HB9.out.cell 0; have z09 := HB9.out.frozen 0; have hrb9 : Hid (∀ g, v9.ownBlock = some g → W5.heap.size ≤ g) := Lib.hid (own_fresh2 hrb8.out hat9 HG8.out.size); have HG9 := Lib.hid (HG8.out.grown hg9 (fun g hg => .inr (hrb8.out g hg))); have HR9 := Lib.hid hrow9; obtain ⟨A9, m9, cap9, hv9⟩ : ∃ A n c, v9 = .slice A n c := (match hrow9.val with | ⟨_, _, hv⟩ => ⟨_, _, _, hv⟩); subst hv9; clear hg9 hat9 hrow8 hrow9) | (refine wpList_appendL rfl _ _ rfl TR RowV.cells_len RowV.cells_one rfl hrow7 0 _ _ _ ([] : List RowV) rfl rfl Reads.none_ (Nat.le_trans hn2.out hmx.out) (Nat.le_trans (Nat.mul_le_mul_right 40 hn2.out) (by decide)) ?_; intro v8 w8 hrow8 (hg8 : World.grownBy _ w8 (Value.slice A7 m cap7).ownBlock) (hat8 : v8.ownBlock = (Value.slice A7 m cap7).ownBlock ∨ v8.ownBlock = some w7.heap.size); have HB8 := Lib.hid (HB7.out.grown hg8 (fun e => hrow7.ne HB7.out (by decide) e.symm rfl)); have b08 := HB8.out.cell 0; have hrb8 : Hid (∀ g, v8.ownBlock = some g → W5.heap.size ≤ g) := Lib.hid (own_fresh2 hrb7.out hat8 HG7.out.size); have HG8 := Lib.hid (HG7.out.grown hg8 (fun g hg => .inr (hrb7.out g hg))); have hDR8 := Lib.hid (hDR7.out.grown hg8 HG7.out.size hrb7.out); obtain ⟨A8, m8, cap8, hv8⟩ : ∃ A n c, v8 = .slice A n c := (match hrow8.val with | ⟨_, _, hv⟩ => ⟨_, _, _, hv⟩); subst hv8; clear hg8 hat8 hrow7) | (refine wpList_appendL rfl _ _ rfl TR RowV.cells_len RowV.cells_one rfl (OwnL.nil (X := RowV)) _ _ _ _ (L'.take m) rfl htl.out.symm hTKa.out (Nat.le_trans hn1.out hmx.out) (Nat.le_trans (Nat.mul_le_mul_right 40 hn1.out) (by decide)) ?_; intro v7 w7 hrow7 (hg7 : World.grownBy _ w7 none) hat7; rw [List.nil_append] at hrow7; have HB7 := Lib.hid (HBA.out.grown hg7 (by simp)); have b07 := HB7.out.cell 0; have hrb7 : Hid (∀ g, v7.ownBlock = some g → W5.heap.size ≤ g) := Lib.hid (own_fresh hat7 HFA.out.size); have HG7 := Lib.hid (HFA.out.grown hg7 (fun g hg => by cases hg)); have hDR7 := Lib.hid (hDRa.out.grown hg7 HFA.out.size (fun g hg => by cases hg));  obtain ⟨A7, cap7, hv7⟩ := hrow7.val; rw [htl.out] at hv7; subst hv7; clear hg7 hat7)))
                    go_roundw
                    case rel => exact ⟨k + 1, _, _, by go_num, by omega, Lib.hid (HMC.out _ _ _ HB9.out HR9.out HS9.out (F5.trans (HG9.out.mono (by simp))) (fun g hg => Nat.le_trans hsz5 (hrb9.out g hg)))⟩
                    case measure => simp [intOf]; omega
                  · have hDR := Lib.hid True.intro
                    have hTK := Lib.hid (hRD.out.takeL RowV.cells_len (k := m) (by omega))
                    have htl : Hid ((L'.take m).length = m) := Lib.hid (by rw [List.length_take]; omega)
                    have HS9 : Hid (Sm.Sim ((r.cs.take (k + 1)).foldl Sm.put1 s.M) ((L'.take m ++ ([] : List RowV)) ++ ([] : List RowV))) := Lib.hid (by have h := HSIM.out; rw [← HTK.out] at h; rw [List.drop_eq_nil_of_le (by omega)] at h; simpa [List.append_assoc, Sm.after] using h)
                    have hmx : Hid ((2020 : Nat) ≤ maxLen) := Lib.hid (by decide)
                    have hn1 : Hid (([] : List RowV).length + (L'.take m).length ≤ 2020) := Lib.hid (by rw [htl.out, List.length_nil]; omega)
                    have hn2 : Hid ((L'.take m).length + ([] : List RowV).length ≤ 2020) := Lib.hid (by rw [htl.out]; simp; omega)
                    have hn3 : Hid ((L'.take m ++ ([] : List RowV)).length + ([] : List RowV).length ≤ 2020) := Lib.hid (by rw [List.length_append, htl.out]; simp; omega)
                    clear HSIM HTK hRD hFM
                    go_wp2_with (first | (go_at_call 37; refine HAF.out.mono ?_; rintro e w6 ⟨rfl, f6⟩; have hb6 := Hb4.out.fr f6 (by simp); have b0' := hb6.cell 0; have hl6 := hb6.lt; have hs6 := f6.size; have HBA := Lib.hid (hb6.alloc (.cells #[.int .i64 0, .int .i64 0, .int .i64 0, .int .i64 0, .int .i64 0] 50)); have FA : Fr [] W5 (w6.alloc (.cells #[.int .i64 0, .int .i64 0, .int .i64 0, .int .i64 0, .int .i64 0] 50)) := f6.alloc (.cells #[.int .i64 0, .int .i64 0, .int .i64 0, .int .i64 0, .int .i64 0] 50); have HFA := Lib.hid FA; have hTKa := Lib.hid (hTK.out.fr (Nat.le_refl _) FA (by simp)); have hDRa := Lib.hid True.intro; have hMDa := Lib.hid True.intro; clear f6 FA) | (at_builtin; first | (refine wpList_appendL rfl _ _ rfl TR RowV.cells_len RowV.cells_one rfl hrow8 0 _ _ _ ([] : List RowV) rfl (by simp; try omega) (reads_none (by omega)) (Nat.le_trans hn3.out hmx.out) (Nat.le_trans (Nat.mul_le_mul_right 40 hn3.out) (by decide)) ?_; intro v9 w9 hrow9 (hg9 : World.grownBy _ w9 (Value.slice A8 m8 cap8).ownBlock) (hat9 : v9.ownBlock = (Value.slice A8 m8 cap8).ownBlock ∨ v9.ownBlock = some w8.heap.size); have HB9 := Lib.hid (HB8.out.grown hg9 (fun e => hrow8.ne HB8.out (by decide) e.symm rfl)); have b09 := HB9.out.cell 0; have z09 := HB9.out.frozen 0; have hrb9 : Hid (∀ g, v9.ownBlock = some g → W5.heap.size ≤ g) := Lib.hid (own_fresh2 hrb8.out hat9 HG8.out.size); have HG9 := Lib.hid (HG8.out.grown hg9 (fun g hg => .inr (hrb8.out g hg))); have HR9 := Lib.hid hrow9; obtain ⟨A9, m9, cap9, hv9⟩ : ∃ A n c, v9 = .slice A n c := (match hrow9.val with | ⟨_, _, hv⟩ => ⟨_, _, _, hv⟩); subst hv9; clear hg9 hat9 hrow8 hrow9) | (refine wpList_appendL rfl _ _ rfl TR RowV.cells_len RowV.cells_one rfl hrow7 0 _ _ _ ([] : List RowV) rfl rfl Reads.none_ (Nat.le_trans hn2.out hmx.out) (Nat.le_trans (Nat.mul_le_mul_right 40 hn2.out) (by decide)) ?_; intro v8 w8 hrow8 (hg8 : World.grownBy _ w8 (Value.slice A7 m cap7).ownBlock) (hat8 : v8.ownBlock = (Value.slice A7 m cap7).ownBlock ∨ v8.ownBlock = some w7.heap.size); have HB8 := Lib.hid (HB7.out.grown hg8 (fun e => hrow7.ne HB7.out (by decide) e.symm rfl)); have b08 := HB8.out.cell 0; have hrb8 : Hid (∀ g, v8.ownBlock = some g → W5.heap.size ≤ g) := Lib.hid (own_fresh2 hrb7.out hat8 HG7.out.size); have HG8 := Lib.hid (HG7.out.grown hg8 (fun g hg => .inr (hrb7.out g hg)));  obtain ⟨A8, m8, cap8, hv8⟩ : ∃ A n c, v8 = .slice A n c := (match hrow8.val with | ⟨_, _, hv⟩ => ⟨_, _, _, hv⟩); subst hv8; clear hg8 hat8 hrow7) | (refine wpList_appendL rfl _ _ rfl TR RowV.cells_len RowV.cells_one rfl (OwnL.nil (X := RowV)) _ _ _ _ (L'.take m) rfl htl.out.symm hTKa.out (Nat.le_trans hn1.out hmx.out) (Nat.le_trans (Nat.mul_le_mul_right 40 hn1.out) (by decide)) ?_; intro v7 w7 hrow7 (hg7 : World.grownBy _ w7 none) hat7; rw [List.nil_append] at hrow7; have HB7 := Lib.hid (HBA.out.grown hg7 (by simp)); have b07 := HB7.out.cell 0; have hrb7 : Hid (∀ g, v7.ownBlock = some g → W5.heap.size ≤ g) := Lib.hid (own_fresh hat7 HFA.out.size); have HG7 := Lib.hid (HFA.out.grown hg7 (fun g hg => by cases hg));   obtain ⟨A7, cap7, hv7⟩ := hrow7.val; rw [htl.out] at hv7; subst hv7; clear hg7 hat7)))
                    go_roundw
                    case rel => exact ⟨k + 1, _, _, by go_num, by omega, Lib.hid (HMC.out _ _ _ HB9.out HR9.out HS9.out (F5.trans (HG9.out.mono (by simp))) (fun g hg => Nat.le_trans hsz5 (hrb9.out g hg)))⟩
                    case measure => simp [intOf]; omega
                · simp only [Bool.false_eq_true, if_false, if_true, Nat.add_zero, List.nil_append, List.cons_append] at hle HSIM HAF
                  by_cases hq : m < L'.length
                  · obtain ⟨gR, cap', hA, hlc, hcm, hgl, hcell, hfz⟩ := hFM.out (by omega)
                    cases hA
                    clear hcell hfz hlc hcm hgl
                    have hDR := Lib.hid (hRD.out.from2 RowV.cells_len (k := m) (off := m * 5) (n := L'.length - m) (by omega) (by omega) (by omega))
                    have hTK := Lib.hid (hRD.out.takeL RowV.cells_len (k := m) (by omega))
                    have htl : Hid ((L'.take m).length = m) := Lib.hid (by rw [List.length_take]; omega)
                    have HS9 : Hid (Sm.Sim ((r.cs.take (k + 1)).foldl Sm.put1 s.M) ((L'.take m ++ [(⟨t, kk, n0, n1, n2⟩ : RowV)]) ++ (L'.drop (m)))) := Lib.hid (by have h := HSIM.out; rw [← HTK.out] at h; simpa [List.append_assoc, Sm.after] using h)
                    have hcne : ¬ cap1 = m := by omega
                    have hmx : Hid ((2020 : Nat) ≤ maxLen) := Lib.hid (by decide)
                    have hn1 : Hid (([] : List RowV).length + (L'.take m).length ≤ 2020) := Lib.hid (by rw [htl.out, List.length_nil]; omega)
                    have hn2 : Hid ((L'.take m).length + [(⟨t, kk, n0, n1, n2⟩ : RowV)].length ≤ 2020) := Lib.hid (by rw [htl.out]; simp; omega)
                    have hn3 : Hid ((L'.take m ++ [(⟨t, kk, n0, n1, n2⟩ : RowV)]).length + (L'.drop (m)).length ≤ 2020) := Lib.hid (by rw [List.length_append, htl.out]; simp; omega)
                    clear HSIM HTK hRD hFM
                    go_wp2_with (first | (go_at_call 37; refine HAF.out.mono ?_; rintro e w6 ⟨rfl, f6⟩; have hb6 := Hb4.out.fr f6 (by simp); have b0' := hb6.cell 0; have hl6 := hb6.lt; have hs6 := f6.size; have HBA := Lib.hid ((hb6.alloc (.cells #[.int .i64 t, .int .i64 kk, .int .i64 n0, .int .i64 n1, .int .i64 n2] 50)).alloc (.cells #[.int .i64 t, .int .i64 kk, .int .i64 n0, .int .i64 n1, .int .i64 n2] 50)); have FA : Fr [] W5 ((w6.alloc (.cells #[.int .i64 t, .int .i64 kk, .int .i64 n0, .int .i64 n1, .int .i64 n2] 50)).alloc (.cells #[.int .i64 t, .int .i64 kk, .int .i64 n0, .int .i64 n1, .int .i64 n2] 50)) := (f6.alloc (.cells #[.int .i64 t, .int .i64 kk, .int .i64 n0, .int .i64 n1, .int .i64 n2] 50)).alloc (.cells #[.int .i64 t, .int .i64 kk, .int .i64 n0, .int .i64 n1, .int .i64 n2] 50); have HFA := Lib.hid FA; have hTKa := Lib.hid (hTK.out.fr (Nat.le_refl _) FA (by simp)); have hDRa := Lib.hid (hDR.out.fr (Nat.le_refl _) FA (by simp)); have hMDa := Lib.hid (show Reads ((w6.alloc (.cells #[.int .i64 t, .int .i64 kk, .int .i64 n0, .int .i64 n1, .int .i64 n2] 50)).alloc (.cells #[.int .i64 t, .int .i64 kk, .int .i64 n0, .int .i64 n1, .int .i64 n2] 50)) (w6.heap.size + 1 + 1) 5 (some ⟨w6.heap.size + 1, 0, none⟩) 1 ([(⟨t, kk, n0, n1, n2⟩ : RowV)].flatMap RowV.cells) from by have h1 := reads_new (enc := RowV.cells) (w6.alloc (.cells #[.int .i64 t, .int .i64 kk, .int .i64 n0, .int .i64 n1, .int .i64 n2] 50)) 50 ⟨t, kk, n0, n1, n2⟩ rfl; rw [World.size_alloc] at h1; exact h1); clear f6 FA) | (at_builtin; first | (refine wpList_appendL rfl _ _ rfl TR RowV.cells_len RowV.cells_one rfl hrow8 _ _ _ _ (L'.drop (m)) rfl (by simp; try omega) hDR8.out (Nat.le_trans hn3.out hmx.out) (Nat.le_trans (Nat.mul_le_mul_right 40 hn3.out) (by decide)) ?_; intro v9 w9 hrow9 (hg9 : World.grownBy _ w9 (Value.slice A8 m8 cap8).ownBlock) (hat9 : v9.ownBlock = (Value.slice A8 m8 cap8).ownBlock ∨ v9.ownBlock = some w8.heap.size); have HB9 := Lib.hid (HB8.out.grown hg9 (fun e => hrow8.ne HB8.out (by decide) e.symm rfl)); have b09 := HB9.out.cell 0; have z09 := HB9.out.frozen 0; have hrb9 : Hid (∀ g, v9.ownBlock = some g → W5.heap.size ≤ g) := Lib.hid (own_fresh2 hrb8.out hat9 HG8.out.size); have HG9 := Lib.hid (HG8.out.grown hg9 (fun g hg => .inr (hrb8.out g hg))); have HR9 := Lib.hid hrow9; obtain ⟨A9, m9, cap9, hv9⟩ : ∃ A n c, v9 = .slice A n c := (match hrow9.val with | ⟨_, _, hv⟩ => ⟨_, _, _, hv⟩); subst hv9; clear hg9 hat9 hrow8 hrow9) | (refine wpList_appendL rfl _ _ rfl TR RowV.cells_len RowV.cells_one rfl hrow7 _ _ _ _ [(⟨t, kk, n0, n1, n2⟩ : RowV)] rfl rfl hMD7.out (Nat.le_trans hn2.out hmx.out) (Nat.le_trans (Nat.mul_le_mul_right 40 hn2.out) (by decide)) ?_; intro v8 w8 hrow8 (hg8 : World.grownBy _ w8 (Value.slice A7 m cap7).ownBlock) (hat8 : v8.ownBlock = (Value.slice A7 m cap7).ownBlock ∨ v8.ownBlock = some w7.heap.size); have HB8 := Lib.hid (HB7.out.grown hg8 (fun e => hrow7.ne HB7.out (by decide) e.symm rfl)); have b08 := HB8.out.cell 0; have hrb8 : Hid (∀ g, v8.ownBlock = some g → W5.heap.size ≤ g) := Lib.hid (own_fresh2 hrb7.out hat8 HG7.out.size); have HG8 := Lib.hid (HG7.out.grown hg8 (fun g hg => .inr (hrb7.out g hg))); have hDR8 := Lib.hid (hDR7.out.grown hg8 HG7.out.size hrb7.out); obtain ⟨A8, m8, cap8, hv8⟩ : ∃ A n c, v8 = .slice A n c := (match hrow8.val with | ⟨_, _, hv⟩ => ⟨_, _, _, hv⟩); subst hv8; clear hg8 hat8 hrow7) | (refine wpList_appendL rfl _ _ rfl TR RowV.cells_len RowV.cells_one rfl (OwnL.nil (X := RowV)) _ _ _ _ (L'.take m) rfl htl.out.symm hTKa.out (Nat.le_trans hn1.out hmx.out) (Nat.le_trans (Nat.mul_le_mul_right 40 hn1.out) (by decide)) ?_; intro v7 w7 hrow7 (hg7 : World.grownBy _ w7 none) hat7; rw [List.nil_append] at hrow7; have HB7 := Lib.hid (HBA.out.grown hg7 (by simp)); have b07 := HB7.out.cell 0; have hrb7 : Hid (∀ g, v7.ownBlock = some g → W5.heap.size ≤ g) := Lib.hid (own_fresh hat7 HFA.out.size); have HG7 := Lib.hid (HFA.out.grown hg7 (fun g hg => by cases hg)); have hDR7 := Lib.hid (hDRa.out.grown hg7 HFA.out.size (fun g hg => by cases hg)); have hMD7 := Lib.hid (hMDa.out.grown hg7 (by simp) (fun g hg => by cases hg)); obtain ⟨A7, cap7, hv7⟩ := hrow7.val; rw [htl.out] at hv7; subst hv7; clear hg7 hat7)))
                    go_roundw
                    case rel => exact ⟨k + 1, _, _, by go_num, by omega, Lib.hid (HMC.out _ _ _ HB9.out HR9.out HS9.out (F5.trans (HG9.out.mono (by simp))) (fun g hg => Nat.le_trans hsz5 (hrb9.out g hg)))⟩
                    case measure => simp [intOf]; omega
                  · have hDR := Lib.hid True.intro
                    have hTK := Lib.hid (hRD.out.takeL RowV.cells_len (k := m) (by omega))
                    have htl : Hid ((L'.take m).length = m) := Lib.hid (by rw [List.length_take]; omega)
                    have HS9 : Hid (Sm.Sim ((r.cs.take (k + 1)).foldl Sm.put1 s.M) ((L'.take m ++ [(⟨t, kk, n0, n1, n2⟩ : RowV)]) ++ ([] : List RowV))) := Lib.hid (by have h := HSIM.out; rw [← HTK.out] at h; rw [List.drop_eq_nil_of_le (by omega)] at h; simpa [List.append_assoc, Sm.after] using h)
                    have hmx : Hid ((2020 : Nat) ≤ maxLen) := Lib.hid (by decide)
                    have hn1 : Hid (([] : List RowV).length + (L'.take m).length ≤ 2020) := Lib.hid (by rw [htl.out, List.length_nil]; omega)
                    have hn2 : Hid ((L'.take m).length + [(⟨t, kk, n0, n1, n2⟩ : RowV)].length ≤ 2020) := Lib.hid (by rw [htl.out]; simp; omega)
                    have hn3 : Hid ((L'.take m ++ [(⟨t, kk, n0, n1, n2⟩ : RowV)]).length + ([] : List RowV).length ≤ 2020) := Lib.hid (by rw [List.length_append, htl.out]; simp; omega)
                    clear HSIM HTK hRD hFM
                    go_wp2_with (first | (go_at_call 37; refine HAF.out.mono ?_; rintro e w6 ⟨rfl, f6⟩; have hb6 := Hb4.out.fr f6 (by simp); have b0' := hb6.cell 0; have hl6 := hb6.lt; have hs6 := f6.size; have HBA := Lib.hid ((hb6.alloc (.cells #[.int .i64 t, .int .i64 kk, .int .i64 n0, .int .i64 n1, .int .i64 n2] 50)).alloc (.cells #[.int .i64 t, .int .i64 kk, .int .i64 n0, .int .i64 n1, .int .i64 n2] 50)); have FA : Fr [] W5 ((w6.alloc (.cells #[.int .i64 t, .int .i64 kk, .int .i64 n0, .int .i64 n1, .int .i64 n2] 50)).alloc (.cells #[.int .i64 t, .int .i64 kk, .int .i64 n0, .int .i64 n1, .int .i64 n2] 50)) := (f6.alloc (.cells #[.int .i64 t, .int .i64 kk, .int .i64 n0, .int .i64 n1, .int .i64 n2] 50)).alloc (.cells #[.int .i64 t, .int .i64 kk, .int .i64 n0, .int .i64 n1, .int .i64 n2] 50); have HFA := Lib.hid FA; have hTKa := Lib.hid (hTK.out.fr (Nat.le_refl _) FA (by simp)); have hDRa := Lib.hid True.intro; have hMDa := Lib.hid (show Reads ((w6.alloc (.cells #[.int .i64 t, .int .i64 kk, .int .i64 n0, .int .i64 n1, .int .i64 n2] 50)).alloc (.cells #[.int .i64 t, .int .i64 kk, .int .i64 n0, .int .i64 n1, .int .i64 n2] 50)) (w6.heap.size + 1 + 1) 5 (some ⟨w6.heap.size + 1, 0, none⟩) 1 ([(⟨t, kk, n0, n1, n2⟩ : RowV)].flatMap RowV.cells) from by have h1 := reads_new (enc := RowV.cells) (w6.alloc (.cells #[.int .i64 t, .int .i64 kk, .int .i64 n0, .int .i64 n1, .int .i64 n2] 50)) 50 ⟨t, kk, n0, n1, n2⟩ rfl; rw [World.size_alloc] at h1; exact h1); clear f6 FA) | (at_builtin; first | (refine wpList_appendL rfl _ _ rfl TR RowV.cells_len RowV.cells_one rfl hrow8 0 _ _ _ ([] : List RowV) rfl (by simp; try omega) (reads_none (by omega)) (Nat.le_trans hn3.out hmx.out) (Nat.le_trans (Nat.mul_le_mul_right 40 hn3.out) (by decide)) ?_; intro v9 w9 hrow9 (hg9 : World.grownBy _ w9 (Value.slice A8 m8 cap8).ownBlock) (hat9 : v9.ownBlock = (Value.slice A8 m8 cap8).ownBlock ∨ v9.ownBlock = some w8.heap.size); have HB9 := Lib.hid (HB8.out.grown hg9 (fun e => hrow8.ne HB8.out (by decide) e.symm rfl)); have b09 := HB9.out.cell 0; have z09 := HB9.out.frozen 0; have hrb9 : Hid (∀ g, v9.ownBlock = some g → W5.heap.size ≤ g) := Lib.hid (own_fresh2 hrb8.out hat9 HG8.out.size); have HG9 := Lib.hid (HG8.out.grown hg9 (fun g hg => .inr (hrb8.out g hg))); have HR9 := Lib.hid hrow9; obtain ⟨A9, m9, cap9, hv9⟩ : ∃ A n c, v9 = .slice A n c := (match hrow9.val with | ⟨_, _, hv⟩ => ⟨_, _, _, hv⟩); subst hv9; clear hg9 hat9 hrow8 hrow9) | (refine wpList_appendL rfl _ _ rfl TR RowV.cells_len RowV.cells_one rfl hrow7 _ _ _ _ [(⟨t, kk, n0, n1, n2⟩ : RowV)] rfl rfl hMD7.out (Nat.le_trans hn2.out hmx.out) (Nat.le_trans (Nat.mul_le_mul_right 40 hn2.out) (by decide)) ?_; intro v8 w8 hrow8 (hg8 : World.grownBy _ w8 (Value.slice A7 m cap7).ownBlock) (hat8 : v8.ownBlock = (Value.slice A7 m cap7).ownBlock ∨ v8.ownBlock = some w7.heap.size); have HB8 := Lib.hid (HB7.out.grown hg8 (fun e => hrow7.ne HB7.out (by decide) e.symm rfl)); have b08 := HB8.out.cell 0; have hrb8 : Hid (∀ g, v8.ownBlock = some g → W5.heap.size ≤ g) := Lib.hid (own_fresh2 hrb7.out hat8 HG7.out.size); have HG8 := Lib.hid (HG7.out.grown hg8 (fun g hg => .inr (hrb7.out g hg)));  obtain ⟨A8, m8, cap8, hv8⟩ : ∃ A n c, v8 = .slice A n c := (match hrow8.val with | ⟨_, _, hv⟩ => ⟨_, _, _, hv⟩); subst hv8; clear hg8 hat8 hrow7) | (refine wpList_appendL rfl _ _ rfl TR RowV.cells_len RowV.cells_one rfl (OwnL.nil (X := RowV)) _ _ _ _ (L'.take m) rfl htl.out.symm hTKa.out (Nat.le_trans hn1.out hmx.out) (Nat.le_trans (Nat.mul_le_mul_right 40 hn1.out) (by decide)) ?_; intro v7 w7 hrow7 (hg7 : World.grownBy _ w7 none) hat7; rw [List.nil_append] at hrow7; have HB7 := Lib.hid (HBA.out.grown hg7 (by simp)); have b07 := HB7.out.cell 0; have hrb7 : Hid (∀ g, v7.ownBlock = some g → W5.heap.size ≤ g) := Lib.hid (own_fresh hat7 HFA.out.size); have HG7 := Lib.hid (HFA.out.grown hg7 (fun g hg => by cases hg));  have hMD7 := Lib.hid (hMDa.out.grown hg7 (by simp) (fun g hg => by cases hg)); obtain ⟨A7, cap7, hv7⟩ := hrow7.val; rw [htl.out] at hv7; subst hv7; clear hg7 hat7)))
                    go_roundw
                    case rel => exact ⟨k + 1, _, _, by go_num, by omega, Lib.hid (HMC.out _ _ _ HB9.out HR9.out HS9.out (F5.trans (HG9.out.mono (by simp))) (fun g hg => Nat.le_trans hsz5 (hrb9.out g hg)))⟩
                    case measure => simp [intOf]; omega
              · cases has
                · simp only [Bool.false_eq_true, if_false, if_true, Nat.add_zero, List.nil_append, List.cons_append] at hle HSIM HAF
                  by_cases hq : m + 1 < L'.length
                  · obtain ⟨gR, cap', hA, hlc, hcm, hgl, hcell, hfz⟩ := hFM.out (by omega)
                    cases hA
                    clear hcell hfz hlc hcm hgl
                    have hDR := Lib.hid (hRD.out.from2 RowV.cells_len (k := m + 1) (off := m * 5 + 5) (n := L'.length - m - 1) (by omega) (by omega) (by omega))
                    have hTK := Lib.hid (hRD.out.takeL RowV.cells_len (k := m) (by omega))
                    have htl : Hid ((L'.take m).length = m) := Lib.hid (by rw [List.length_take]; omega)
                    have HS9 : Hid (Sm.Sim ((r.cs.take (k + 1)).foldl Sm.put1 s.M) ((L'.take m ++ ([] : List RowV)) ++ (L'.drop (m + 1)))) := Lib.hid (by have h := HSIM.out; rw [← HTK.out] at h; simpa [List.append_assoc, Sm.after] using h)
                    have hcne : ¬ cap1 = m := by omega
                    have hcne2 : ¬ cap1 - m = 1 := by omega
                    have hmx : Hid ((2020 : Nat) ≤ maxLen) := Lib.hid (by decide)
                    have hn1 : Hid (([] : List RowV).length + (L'.take m).length ≤ 2020) := Lib.hid (by rw [htl.out, List.length_nil]; omega)
                    have hn2 : Hid ((L'.take m).length + ([] : List RowV).length ≤ 2020) := Lib.hid (by rw [htl.out]; simp; omega)
                    have hn3 : Hid ((L'.take m ++ ([] : List RowV)).length + (L'.drop (m + 1)).length ≤ 2020) := Lib.hid (by rw [List.length_append, htl.out]; simp; omega)
                    clear HSIM HTK hRD hFM
                    go_wp2_with (first | (go_at_call 37; refine HAF.out.mono ?_; rintro e w6 ⟨rfl, f6⟩; have hb6 := Hb4.out.fr f6 (by simp); have b0' := hb6.cell 0; have hl6 := hb6.lt; have hs6 := f6.size; have HBA := Lib.hid (hb6.alloc (.cells #[.int .i64 0, .int .i64 0, .int .i64 0, .int .i64 0, .int .i64 0] 50)); have FA : Fr [] W5 (w6.alloc (.cells #[.int .i64 0, .int .i64 0, .int .i64 0, .int .i64 0, .int .i64 0] 50)) := f6.alloc (.cells #[.int .i64 0, .int .i64 0, .int .i64 0, .int .i64 0, .int .i64 0] 50); have HFA := Lib.hid FA; have hTKa := Lib.hid (hTK.out.fr (Nat.le_refl _) FA (by simp)); have hDRa := Lib.hid (hDR.out.fr (Nat.le_refl _) FA (by simp)); have hMDa := Lib.hid True.intro; clear f6 FA) | (at_builtin; first | (refine wpList_appendL rfl _ _ rfl TR RowV.cells_len RowV.cells_one rfl hrow8 _ _ _ _ (L'.drop (m + 1)) rfl (by simp; try omega) hDR8.out (Nat.le_trans hn3.out hmx.out) (Nat.le_trans (Nat.mul_le_mul_right 40 hn3.out) (by decide)) ?_; intro v9 w9 hrow9 (hg9 : World.grownBy _ w9 (Value.slice A8 m8 cap8).ownBlock) (hat9 : v9.ownBlock = (Value.slice A8 m8 cap8).ownBlock ∨ v9.ownBlock = some w8.heap.size); have HB9 := Lib.hid (HB8.out.grown hg9 (fun e => hrow8.ne HB8.out (by decide) e.symm rfl)); have b09 := HB9.out.cell 0; have z09 := HB9.out.frozen 0; have hrb9 : Hid (∀ g, v9.ownBlock = some g → W5.heap.size ≤ g) := Lib.hid (own_fresh2 hrb8.out hat9 HG8.out.size); have HG9 := Lib.hid (HG8.out.grown hg9 (fun g hg => .inr (hrb8.out g hg))); have HR9 := Lib.hid hrow9; obtain ⟨A9, m9, cap9, hv9⟩ : ∃ A n c, v9 = .slice A n c := (match hrow9.val with | ⟨_, _, hv⟩ => ⟨_, _, _, hv⟩); subst hv9; clear hg9 hat9 hrow8 hrow9) | (refine wpList_appendL rfl _ _ rfl TR RowV.cells_len RowV.cells_one rfl hrow7 0 _ _ _ ([] : List RowV) rfl rfl Reads.none_ (Nat.le_trans hn2.out hmx.out) (Nat.le_trans (Nat.mul_le_mul_right 40 hn2.out) (by decide)) ?_; intro v8 w8 hrow8 (hg8 : World.grownBy _ w8 (Value.slice A7 m cap7).ownBlock) (hat8 : v8.ownBlock = (Value.slice A7 m cap7).ownBlock ∨ v8.ownBlock = some w7.heap.size); have HB8 := Lib.hid (HB7.out.grown hg8 (fun e => hrow7.ne HB7.out (by decide) e.symm rfl)); have b08 := HB8.out.cell 0; have hrb8 : Hid (∀ g, v8.ownBlock = some g → W5.heap.size ≤ g) := Lib.hid (own_fresh2 hrb7.out hat8 HG7.out.size); have HG8 := Lib.hid (HG7.out.grown hg8 (fun g hg => .inr (hrb7.out g hg))); have hDR8 := Lib.hid (hDR7.out.grown hg8 HG7.out.size hrb7.out); obtain ⟨A8, m8, cap8, hv8⟩ : ∃ A n c, v8 = .slice A n c := (match hrow8.val with | ⟨_, _, hv⟩ => ⟨_, _, _, hv⟩); subst hv8; clear hg8 hat8 hrow7) | (refine wpList_appendL rfl _ _ rfl TR RowV.cells_len RowV.cells_one rfl (OwnL.nil (X := RowV)) _ _ _ _ (L'.take m) rfl htl.out.symm hTKa.out (Nat.le_trans hn1.out hmx.out) (Nat.le_trans (Nat.mul_le_mul_right 40 hn1.out) (by decide)) ?_; intro v7 w7 hrow7 (hg7 : World.grownBy _ w7 none) hat7; rw [List.nil_append] at hrow7; have HB7 := Lib.hid (HBA.out.grown hg7 (by simp)); have b07 := HB7.out.cell 0; have hrb7 : Hid (∀ g, v7.ownBlock = some g → W5.heap.size ≤ g) := Lib.hid (own_fresh hat7 HFA.out.size); have HG7 := Lib.hid (HFA.out.grown hg7 (fun g hg => by cases hg)); have hDR7 := Lib.hid (hDRa.out.grown hg7 HFA.out.size (fun g hg => by cases hg));  obtain ⟨A7, cap7, hv7⟩ := hrow7.val; rw [htl.out] at hv7; subst hv7; clear hg7 hat7)))
                    go_roundw
                    case rel => exact ⟨k + 1, _, _, by go_num, by omega, Lib.hid (HMC.out _ _ _ HB9.out HR9.out HS9.out (F5.trans (HG9.out.mono (by simp))) (fun g hg => Nat.le_trans hsz5 (hrb9.out g hg)))⟩
                    case measure => simp [intOf]; omega
                  · obtain ⟨gR, cap', hA, hlc, hcm, hgl, hcell, hfz⟩ := hFM.out (by omega)
                    cases hA
                    clear hcell hfz hlc hcm hgl
                    have hDR := Lib.hid True.intro
                    have hTK := Lib.hid (hRD.out.takeL RowV.cells_len (k := m) (by omega))
                    have htl : Hid ((L'.take m).length = m) := Lib.hid (by rw [List.length_take]; omega)
                    have HS9 : Hid (Sm.Sim ((r.cs.take (k + 1)).foldl Sm.put1 s.M) ((L'.take m ++ ([] : List RowV)) ++ ([] : List RowV))) := Lib.hid (by have h := HSIM.out; rw [← HTK.out] at h; rw [List.drop_eq_nil_of_le (by omega)] at h; simpa [List.append_assoc, Sm.after] using h)
                    have hcne : ¬ cap1 = m := by omega
                    have hmx : Hid ((2020 : Nat) ≤ maxLen) := Lib.hid (by decide)
                    have hn1 : Hid (([] : List RowV).length + (L'.take m).length ≤ 2020) := Lib.hid (by rw [htl.out, List.length_nil]; omega)
                    have hn2 : Hid ((L'.take m).length + ([] : List RowV).length ≤ 2020) := Lib.hid (by rw [htl.out]; simp; omega)
                    have hn3 : Hid ((L'.take m ++ ([] : List RowV)).length + ([] : List RowV).length ≤ 2020) := Lib.hid (by rw [List.length_append, htl.out]; simp; omega)
                    clear HSIM HTK hRD hFM
                    go_wp2_with (first | (go_at_call 37; refine HAF.out.mono ?_; rintro e w6 ⟨rfl, f6⟩; have hb6 := Hb4.out.fr f6 (by simp); have b0' := hb6.cell 0; have hl6 := hb6.lt; have hs6 := f6.size; have HBA := Lib.hid (hb6.alloc (.cells #[.int .i64 0, .int .i64 0, .int .i64 0, .int .i64 0, .int .i64 0] 50)); have FA : Fr [] W5 (w6.alloc (.cells #[.int .i64 0, .int .i64 0, .int .i64 0, .int .i64 0, .int .i64 0] 50)) := f6.alloc (.cells #[.int .i64 0, .int .i64 0, .int .i64 0, .int .i64 0, .int .i64 0] 50); have HFA := Lib.hid FA; have hTKa := Lib.hid (hTK.out.fr (Nat.le_refl _) FA (by simp)); have hDRa := Lib.hid True.intro; have hMDa := Lib.hid True.intro; clear f6 FA) | (at_builtin; first | (refine wpList_appendL rfl _ _ rfl TR RowV.cells_len RowV.cells_one rfl hrow8 0 _ _ _ ([] : List RowV) rfl (by simp; try omega) (reads_none (by omega)) (Nat.le_trans hn3.out hmx.out) (Nat.le_trans (Nat.mul_le_mul_right 40 hn3.out) (by decide)) ?_; intro v9 w9 hrow9 (hg9 : World.grownBy _ w9 (Value.slice A8 m8 cap8).ownBlock) (hat9 : v9.ownBlock = (Value.slice A8 m8 cap8).ownBlock ∨ v9.ownBlock = some w8.heap.size); have HB9 := Lib.hid (HB8.out.grown hg9 (fun e => hrow8.ne HB8.out (by decide) e.symm rfl)); have b09 := HB9.out.cell 0; have z09 := HB9.out.frozen 0; have hrb9 : Hid (∀ g, v9.ownBlock = some g → W5.heap.size ≤ g) := Lib.hid (own_fresh2 hrb8.out hat9 HG8.out.size); have HG9 := Lib.hid (HG8.out.grown hg9 (fun g hg => .inr (hrb8.out g hg))); have HR9 := Lib.hid hrow9; obtain ⟨A9, m9, cap9, hv9⟩ : ∃ A n c, v9 = .slice A n c := (match hrow9.val with | ⟨_, _, hv⟩ => ⟨_, _, _, hv⟩); subst hv9; clear hg9 hat9 hrow8 hrow9) | (refine wpList_appendL rfl _ _ rfl TR RowV.cells_len RowV.cells_one rfl hrow7 0 _ _ _ ([] : List RowV) rfl rfl Reads.none_ (Nat.le_trans hn2.out hmx.out) (Nat.le_trans (Nat.mul_le_mul_right 40 hn2.out) (by decide)) ?_; intro v8 w8 hrow8 (hg8 : World.grownBy _ w8 (Value.slice A7 m cap7).ownBlock) (hat8 : v8.ownBlock = (Value.slice A7 m cap7).ownBlock ∨ v8.ownBlock = some w7.heap.size); have HB8 := Lib.hid (HB7.out.grown hg8 (fun e => hrow7.ne HB7.out (by decide) e.symm rfl)); have b08 := HB8.out.cell 0; have hrb8 : Hid (∀ g, v8.ownBlock = some g → W5.heap.size ≤ g) := Lib.hid (own_fresh2 hrb7.out hat8 HG7.out.size); have HG8 := Lib.hid (HG7.out.grown hg8 (fun g hg => .inr (hrb7.out g hg)));  obtain ⟨A8, m8, cap8, hv8⟩ : ∃ A n c, v8 = .slice A n c := (match hrow8.val with | ⟨_, _, hv⟩ => ⟨_, _, _, hv⟩); subst hv8; clear hg8 hat8 hrow7) | (refine wpList_appendL rfl _ _ rfl TR RowV.cells_len RowV.cells_one rfl (OwnL.nil (X := RowV)) _ _ _ _ (L'.take m) rfl htl.out.symm hTKa.out (Nat.le_trans hn1.out hmx.out) (Nat.le_trans (Nat.mul_le_mul_right 40 hn1.out) (by decide)) ?_; intro v7 w7 hrow7 (hg7 : World.grownBy _ w7 none) hat7; rw [List.nil_append] at hrow7; have HB7 := Lib.hid (HBA.out.grown hg7 (by simp)); have b07 := HB7.out.cell 0; have hrb7 : Hid (∀ g, v7.ownBlock = some g → W5.heap.size ≤ g) := Lib.hid (own_fresh hat7 HFA.out.size); have HG7 := Lib.hid (HFA.out.grown hg7 (fun g hg => by cases hg));   obtain ⟨A7, cap7, hv7⟩ := hrow7.val; rw [htl.out] at hv7; subst hv7; clear hg7 hat7)))
                    go_roundw
                    case rel => exact ⟨k + 1, _, _, by go_num, by omega, Lib.hid (HMC.out _ _ _ HB9.out HR9.out HS9.out (F5.trans (HG9.out.mono (by simp))) (fun g hg => Nat.le_trans hsz5 (hrb9.out g hg)))⟩
                    case measure => simp [intOf]; omega
                · simp only [Bool.false_eq_true, if_false, if_true, Nat.add_zero, List.nil_append, List.cons_append] at hle HSIM HAF
                  by_cases hq : m + 1 < L'.length
                  · obtain ⟨gR, cap', hA, hlc, hcm, hgl, hcell, hfz⟩ := hFM.out (by omega)
                    cases hA
                    clear hcell hfz hlc hcm hgl
                    have hDR := Lib.hid (hRD.out.from2 RowV.cells_len (k := m + 1) (off := m * 5 + 5) (n := L'.length - m - 1) (by omega) (by omega) (by omega))
                    have hTK := Lib.hid (hRD.out.takeL RowV.cells_len (k := m) (by omega))
                    have htl : Hid ((L'.take m).length = m) := Lib.hid (by rw [List.length_take]; omega)
                    have HS9 : Hid (Sm.Sim ((r.cs.take (k + 1)).foldl Sm.put1 s.M) ((L'.take m ++ [(⟨t, kk, n0, n1, n2⟩ : RowV)]) ++ (L'.drop (m + 1)))) := Lib.hid (by have h := HSIM.out; rw [← HTK.out] at h; simpa [List.append_assoc, Sm.after] using h)
                    have hcne : ¬ cap1 = m := by omega
                    have hcne2 : ¬ cap1 - m = 1 := by omega
                    have hmx : Hid ((2020 : Nat) ≤ maxLen) := Lib.hid (by decide)
                    have hn1 : Hid (([] : List RowV).length + (L'.take m).length ≤ 2020) := Lib.hid (by rw [htl.out, List.length_nil]; omega)
                    have hn2 : Hid ((L'.take m).length + [(⟨t, kk, n0, n1, n2⟩ : RowV)].length ≤ 2020) := Lib.hid (by rw [htl.out]; simp; omega)
                    have hn3 : Hid ((L'.take m ++ [(⟨t, kk, n0, n1, n2⟩ : RowV)]).length + (L'.drop (m + 1)).length ≤ 2020) := Lib.hid (by rw [List.length_append, htl.out]; simp; omega)
                    clear HSIM HTK hRD hFM
                    go_wp2_with (first | (go_at_call 37; refine HAF.out.mono ?_; rintro e w6 ⟨rfl, f6⟩; have hb6 := Hb4.out.fr f6 (by simp); have b0' := hb6.cell 0; have hl6 := hb6.lt; have hs6 := f6.size; have HBA := Lib.hid ((hb6.alloc (.cells #[.int .i64 t, .int .i64 kk, .int .i64 n0, .int .i64 n1, .int .i64 n2] 50)).alloc (.cells #[.int .i64 t, .int .i64 kk, .int .i64 n0, .int .i64 n1, .int .i64 n2] 50)); have FA : Fr [] W5 ((w6.alloc (.cells #[.int .i64 t, .int .i64 kk, .int .i64 n0, .int .i64 n1, .int .i64 n2] 50)).alloc (.cells #[.int .i64 t, .int .i64 kk, .int .i64 n0, .int .i64 n1, .int .i64 n2] 50)) := (f6.alloc (.cells #[.int .i64 t, .int .i64 kk, .int .i64 n0, .int .i64 n1, .int .i64 n2] 50)).alloc (.cells #[.int .i64 t, .int .i64 kk, .int .i64 n0, .int .i64 n1, .int .i64 n2] 50); have HFA := Lib.hid FA; have hTKa := Lib.hid (hTK.out.fr (Nat.le_refl _) FA (by simp)); have hDRa := Lib.hid (hDR.out.fr (Nat.le_refl _) FA (by simp)); have hMDa := Lib.hid (show Reads ((w6.alloc (.cells #[.int .i64 t, .int .i64 kk, .int .i64 n0, .int .i64 n1, .int .i64 n2] 50)).alloc (.cells #[.int .i64 t, .int .i64 kk, .int .i64 n0, .int .i64 n1, .int .i64 n2] 50)) (w6.heap.size + 1 + 1) 5 (some ⟨w6.heap.size + 1, 0, none⟩) 1 ([(⟨t, kk, n0, n1, n2⟩ : RowV)].flatMap RowV.cells) from by have h1 := reads_new (enc := RowV.cells) (w6.alloc (.cells #[.int .i64 t, .int .i64 kk, .int .i64 n0, .int .i64 n1, .int .i64 n2] 50)) 50 ⟨t, kk, n0, n1, n2⟩ rfl; rw [World.size_alloc] at h1; exact h1); clear f6 FA) | (at_builtin; first | (refine wpList_appendL rfl _ _ rfl TR RowV.cells_len RowV.cells_one rfl hrow8 _ _ _ _ (L'.drop (m + 1)) rfl (by simp; try omega) hDR8.out (Nat.le_trans hn3.out hmx.out) (Nat.le_trans (Nat.mul_le_mul_right 40 hn3.out) (by decide)) ?_; intro v9 w9 hrow9 (hg9 : World.grownBy _ w9 (Value.slice A8 m8 cap8).ownBlock) (hat9 : v9.ownBlock = (Value.slice A8 m8 cap8).ownBlock ∨ v9.ownBlock = some w8.heap.size); have HB9 := Lib.hid (HB8.out.grown hg9 (fun e => hrow8.ne HB8.out (by decide) e.symm rfl)); have b09 := HB9.out.cell 0; have z09 := HB9.out.frozen 0; have hrb9 : Hid (∀ g, v9.ownBlock = some g → W5.heap.size ≤ g) := Lib.hid (own_fresh2 hrb8.out hat9 HG8.out.size); have HG9 := Lib.hid (HG8.out.grown hg9 (fun g hg => .inr (hrb8.out g hg))); have HR9 := Lib.hid hrow9; obtain ⟨A9, m9, cap9, hv9⟩ : ∃ A n c, v9 = .slice A n c := (match hrow9.val with | ⟨_, _, hv⟩ => ⟨_, _, _, hv⟩); subst hv9; clear hg9 hat9 hrow8 hrow9) | (refine wpList_appendL rfl _ _ rfl TR RowV.cells_len RowV.cells_one rfl hrow7 _ _ _ _ [(⟨t, kk, n0, n1, n2⟩ : RowV)] rfl rfl hMD7.out (Nat.le_trans hn2.out hmx.out) (Nat.le_trans (Nat.mul_le_mul_right 40 hn2.out) (by decide)) ?_; intro v8 w8 hrow8 (hg8 : World.grownBy _ w8 (Value.slice A7 m cap7).ownBlock) (hat8 : v8.ownBlock = (Value.slice A7 m cap7).ownBlock ∨ v8.ownBlock = some w7.heap.size); have HB8 := Lib.hid (HB7.out.grown hg8 (fun e => hrow7.ne HB7.out (by decide) e.symm rfl)); have b08 := HB8.out.cell 0; have hrb8 : Hid (∀ g, v8.ownBlock = some g → W5.heap.size ≤ g) := Lib.hid (own_fresh2 hrb7.out hat8 HG7.out.size); have HG8 := Lib.hid (HG7.out.grown hg8 (fun g hg => .inr (hrb7.out g hg))); have hDR8 := Lib.hid (hDR7.out.grown hg8 HG7.out.size hrb7.out); obtain ⟨A8, m8, cap8, hv8⟩ : ∃ A n c, v8 = .slice A n c := (match hrow8.val with | ⟨_, _, hv⟩ => ⟨_, _, _, hv⟩); subst hv8; clear hg8 hat8 hrow7) | (refine wpList_appendL rfl _ _ rfl TR RowV.cells_len RowV.cells_one rfl (OwnL.nil (X := RowV)) _ _ _ _ (L'.take m) rfl htl.out.symm hTKa.out (Nat.le_trans hn1.out hmx.out) (Nat.le_trans (Nat.mul_le_mul_right 40 hn1.out) (by decide)) ?_; intro v7 w7 hrow7 (hg7 : World.grownBy _ w7 none) hat7; rw [List.nil_append] at hrow7; have HB7 := Lib.hid (HBA.out.grown hg7 (by simp)); have b07 := HB7.out.cell 0; have hrb7 : Hid (∀ g, v7.ownBlock = some g → W5.heap.size ≤ g) := Lib.hid (own_fresh hat7 HFA.out.size); have HG7 := Lib.hid (HFA.out.grown hg7 (fun g hg => by cases hg)); have hDR7 := Lib.hid (hDRa.out.grown hg7 HFA.out.size (fun g hg => by cases hg)); have hMD7 := Lib.hid (hMDa.out.grown hg7 (by simp) (fun g hg => by cases hg)); obtain ⟨A7, cap7, hv7⟩ := hrow7.val; rw [htl.out] at hv7; subst hv7; clear hg7 hat7)))
                    go_roundw
                    case rel => exact ⟨k + 1, _, _, by go_num, by omega, Lib.hid (HMC.out _ _ _ HB9.out HR9.out HS9.out (F5.trans (HG9.out.mono (by simp))) (fun g hg => Nat.le_trans hsz5 (hrb9.out g hg)))⟩
                    case measure => simp [intOf]; omega
                  · obtain ⟨gR, cap', hA, hlc, hcm, hgl, hcell, hfz⟩ := hFM.out (by omega)
                    cases hA
                    clear hcell hfz hlc hcm hgl
                    have hDR := Lib.hid True.intro
                    have hTK := Lib.hid (hRD.out.takeL RowV.cells_len (k := m) (by omega))
                    have htl : Hid ((L'.take m).length = m) := Lib.hid (by rw [List.length_take]; omega)
                    have HS9 : Hid (Sm.Sim ((r.cs.take (k + 1)).foldl Sm.put1 s.M) ((L'.take m ++ [(⟨t, kk, n0, n1, n2⟩ : RowV)]) ++ ([] : List RowV))) := Lib.hid (by have h := HSIM.out; rw [← HTK.out] at h; rw [List.drop_eq_nil_of_le (by omega)] at h; simpa [List.append_assoc, Sm.after] using h)
                    have hcne : ¬ cap1 = m := by omega
                    have hmx : Hid ((2020 : Nat) ≤ maxLen) := Lib.hid (by decide)
                    have hn1 : Hid (([] : List RowV).length + (L'.take m).length ≤ 2020) := Lib.hid (by rw [htl.out, List.length_nil]; omega)
                    have hn2 : Hid ((L'.take m).length + [(⟨t, kk, n0, n1, n2⟩ : RowV)].length ≤ 2020) := Lib.hid (by rw [htl.out]; simp; omega)
                    have hn3 : Hid ((L'.take m ++ [(⟨t, kk, n0, n1, n2⟩ : RowV)]).length + ([] : List RowV).length ≤ 2020) := Lib.hid (by rw [List.length_append, htl.out]; simp; omega)
                    clear HSIM HTK hRD hFM
                    go_wp2_with (first | (go_at_call 37; refine HAF.out.mono ?_; rintro e w6 ⟨rfl, f6⟩; have hb6 := Hb4.out.fr f6 (by simp); have b0' := hb6.cell 0; have hl6 := hb6.lt; have hs6 := f6.size; have HBA := Lib.hid ((hb6.alloc (.cells #[.int .i64 t, .int .i64 kk, .int .i64 n0, .int .i64 n1, .int .i64 n2] 50)).alloc (.cells #[.int .i64 t, .int .i64 kk, .int .i64 n0, .int .i64 n1, .int .i64 n2] 50)); have FA : Fr [] W5 ((w6.alloc (.cells #[.int .i64 t, .int .i64 kk, .int .i64 n0, .int .i64 n1, .int .i64 n2] 50)).alloc (.cells #[.int .i64 t, .int .i64 kk, .int .i64 n0, .int .i64 n1, .int .i64 n2] 50)) := (f6.alloc (.cells #[.int .i64 t, .int .i64 kk, .int .i64 n0, .int .i64 n1, .int .i64 n2] 50)).alloc (.cells #[.int .i64 t, .int .i64 kk, .int .i64 n0, .int .i64 n1, .int .i64 n2] 50); have HFA := Lib.hid FA; have hTKa := Lib.hid (hTK.out.fr (Nat.le_refl _) FA (by simp)); have hDRa := Lib.hid True.intro; have hMDa := Lib.hid (show Reads ((w6.alloc (.cells #[.int .i64 t, .int .i64 kk, .int .i64 n0, .int .i64 n1, .int .i64 n2] 50)).alloc (.cells #[.int .i64 t, .int .i64 kk, .int .i64 n0, .int .i64 n1, .int .i64 n2] 50)) (w6.heap.size + 1 + 1) 5 (some ⟨w6.heap.size + 1, 0, none⟩) 1 ([(⟨t, kk, n0, n1, n2⟩ : RowV)].flatMap RowV.cells) from by have h1 := reads_new (enc := RowV.cells) (w6.alloc (.cells #[.int .i64 t, .int .i64 kk, .int .i64 n0, .int .i64 n1, .int .i64 n2] 50)) 50 ⟨t, kk, n0, n1, n2⟩ rfl; rw [World.size_alloc] at h1; exact h1); clear f6 FA) | (at_builtin; first | (refine wpList_appendL rfl _ _ rfl TR RowV.cells_len RowV.cells_one rfl hrow8 0 _ _ _ ([] : List RowV) rfl (by simp; try omega) (reads_none (by omega)) (Nat.le_trans hn3.out hmx.out) (Nat.le_trans (Nat.mul_le_mul_right 40 hn3.out) (by decide)) ?_; intro v9 w9 hrow9 (hg9 : World.grownBy _ w9 (Value.slice A8 m8 cap8).ownBlock) (hat9 : v9.ownBlock = (Value.slice A8 m8 cap8).ownBlock ∨ v9.ownBlock = some w8.heap.size); have HB9 := Lib.hid (HB8.out.grown hg9 (fun e => hrow8.ne HB8.out (by decide) e.symm rfl)); have b09 := HB9.out.cell 0; have z09 := HB9.out.frozen 0; have hrb9 : Hid (∀ g, v9.ownBlock = some g → W5.heap.size ≤ g) := Lib.hid (own_fresh2 hrb8.out hat9 HG8.out.size); have HG9 := Lib.hid (HG8.out.grown hg9 (fun g hg => .inr (hrb8.out g hg))); have HR9 := Lib.hid hrow9; obtain ⟨A9, m9, cap9, hv9⟩ : ∃ A n c, v9 = .slice A n c := (match hrow9.val with | ⟨_, _, hv⟩ => ⟨_, _, _, hv⟩); subst hv9; clear hg9 hat9 hrow8 hrow9) | (refine wpList_appendL rfl _ _ rfl TR RowV.cells_len RowV.cells_one rfl hrow7 _ _ _ _ [(⟨t, kk, n0, n1, n2⟩ : RowV)] rfl rfl hMD7.out (Nat.le_trans hn2.out hmx.out) (Nat.le_trans (Nat.mul_le_mul_right 40 hn2.out) (by decide)) ?_; intro v8 w8 hrow8 (hg8 : World.grownBy _ w8 (Value.slice A7 m cap7).ownBlock) (hat8 : v8.ownBlock = (Value.slice A7 m cap7).ownBlock ∨ v8.ownBlock = some w7.heap.size); have HB8 := Lib.hid (HB7.out.grown hg8 (fun e => hrow7.ne HB7.out (by decide) e.symm rfl)); have b08 := HB8.out.cell 0; have hrb8 : Hid (∀ g, v8.ownBlock = some g → W5.heap.size ≤ g) := Lib.hid (own_fresh2 hrb7.out hat8 HG7.out.size); have HG8 := Lib.hid (HG7.out.grown hg8 (fun g hg => .inr (hrb7.out g hg)));  obtain ⟨A8, m8, cap8, hv8⟩ : ∃ A n c, v8 = .slice A n c := (match hrow8.val with | ⟨_, _, hv⟩ => ⟨_, _, _, hv⟩); subst hv8; clear hg8 hat8 hrow7) | (refine wpList_appendL rfl _ _ rfl TR RowV.cells_len RowV.cells_one rfl (OwnL.nil (X := RowV)) _ _ _ _ (L'.take m) rfl htl.out.symm hTKa.out (Nat.le_trans hn1.out hmx.out) (Nat.le_trans (Nat.mul_le_mul_right 40 hn1.out) (by decide)) ?_; intro v7 w7 hrow7 (hg7 : World.grownBy _ w7 none) hat7; rw [List.nil_append] at hrow7; have HB7 := Lib.hid (HBA.out.grown hg7 (by simp)); have b07 := HB7.out.cell 0; have hrb7 : Hid (∀ g, v7.ownBlock = some g → W5.heap.size ≤ g) := Lib.hid (own_fresh hat7 HFA.out.size); have HG7 := Lib.hid (HFA.out.grown hg7 (fun g hg => by cases hg));  have hMD7 := Lib.hid (hMDa.out.grown hg7 (by simp) (fun g hg => by cases hg)); obtain ⟨A7, cap7, hv7⟩ := hrow7.val; rw [htl.out] at hv7; subst hv7; clear hg7 hat7)))
                    go_roundw
                    case rel => exact ⟨k + 1, _, _, by go_num, by omega, Lib.hid (HMC.out _ _ _ HB9.out HR9.out HS9.out (F5.trans (HG9.out.mono (by simp))) (fun g hg => Nat.le_trans hsz5 (hrb9.out g hg)))⟩
                    case measure => simp [intOf]; omega
            · have hke : r.cs.take k = r.cs := List.take_of_length_le (by omega)
              have HKE := Lib.hid hke
              clear hke
              have r0 := hr4.cell 0
              have z1 := HMM.out.1.blk.frozen 1
              have b1 := HMM.out.1.blk.cell 1
              go_wp2_with fail
              go_ret
              obtain ⟨hM, hfresh⟩ := HMM.out
              have hsm := hM.sim
              rw [HKE.out] at hsm
              have FS : Fr [b] wr (wr.setCell ⟨b, 1, none⟩ (.int .i64 r.p)) := (Fr.refl _ _).setCell (.inl (by simp)) _
              have hok := HOK.out
              rw [HCO2.out]
              rw [HAP2.out] at hok ⊢
              refine ⟨rfl, v, L', ⟨?_, hM.row.fr FS (fun g hg => by simpa using hM.row.ne hM.blk (by decide) hg), hsm, hok⟩, (F3.mono (by simp)).trans (hM.fr.trans FS), hfresh⟩
              have h1 := hM.blk.set_ 1 (.int .i64 r.p)
              simpa using h1
  · have hd : (r.p != s.pos + 1) = true := by simpa using hp
    have HFA := Lib.hid (HNO.out (by rw [HF.out, HV.out]; simp [hp]) w1.drew (h1.fr0 (Fr.refl [] w1).drew) F1.drew)
    clear hp
    go_wp2_with fail
    go_region
    go_wp2_with fail
    go_ret
    exact HFA.out
end Go.Proofs.Ytakfaffgfdbfmaa
namespace Go.Proofs.Ytakfaffgfdbfmaa
open Go.RowKit Go.WideShapes Go.ChangeShapes

/-- The integers of a change fit. -/
structure ChgFit (c : Chg) : Prop where
  t : okI c.t
  k : okI c.k
  o0 : okI c.o0
  o1 : okI c.o1
  o2 : okI c.o2
  n0 : okI c.n0
  n1 : okI c.n1
  n2 : okI c.n2
set_option maxRecDepth 100000 in
theorem chgCells : Try.prog.cellsOf 57 = 10 := by kernel_rfl
set_option maxRecDepth 100000 in
theorem recCells : Try.prog.cellsOf 32 = 2 := by kernel_rfl
set_option maxRecDepth 100000 in
theorem boolCells : Try.prog.cellsOf 4 = 1 := by kernel_rfl
set_option maxRecDepth 100000 in
theorem chgsCells : Try.prog.cellsOf 30 = 1 := by kernel_rfl
section
variable {H : Type} {enc : TypeId × Value → H} {W : World}
set_option maxRecDepth 100000 in
theorem open_chg {n : Nat} {cs : List Value} {x : DataW H × List MemPlace} (h : DataW.trod enc Try.prog W 0 (fun _ => true) true n 57 cs = some x) : ∃ c : Chg, cs = c.cells ∧ ChgFit c := by
  obtain ⟨xs, m, _, _, hl, hxl, hat⟩ := DataW.trod_struct Try.underlying57 h
  rw [chgCells] at hl
  obtain ⟨c0, c1, c2, c3, c4, c5, c6, c7, c8, c9, rfl⟩ : ∃ c0 c1 c2 c3 c4 c5 c6 c7 c8 c9, cs = [c0, c1, c2, c3, c4, c5, c6, c7, c8, c9] := by
    match cs, hl with
    | [c0, c1, c2, c3, c4, c5, c6, c7, c8, c9], _ => exact ⟨_, _, _, _, _, _, _, _, _, _, rfl⟩
  have hxs : xs.length = 6 := hxl
  have h0 : DataW.trod enc Try.prog W 0 (fun _ => true) true m 3 (([c0, c1, c2, c3, c4, c5, c6, c7, c8, c9].drop 0).take (Try.prog.cellsOf 3)) = xs[0]? := hat 0 _ rfl
  have h1 : DataW.trod enc Try.prog W 0 (fun _ => true) true m 3 (([c0, c1, c2, c3, c4, c5, c6, c7, c8, c9].drop 1).take (Try.prog.cellsOf 3)) = xs[1]? := hat 1 _ rfl
  have h2 : DataW.trod enc Try.prog W 0 (fun _ => true) true m 4 (([c0, c1, c2, c3, c4, c5, c6, c7, c8, c9].drop 2).take (Try.prog.cellsOf 4)) = xs[2]? := hat 2 _ rfl
  have h3 : DataW.trod enc Try.prog W 0 (fun _ => true) true m 48 (([c0, c1, c2, c3, c4, c5, c6, c7, c8, c9].drop 3).take (Try.prog.cellsOf 48)) = xs[3]? := hat 3 _ rfl
  have h4 : DataW.trod enc Try.prog W 0 (fun _ => true) true m 4 (([c0, c1, c2, c3, c4, c5, c6, c7, c8, c9].drop 6).take (Try.prog.cellsOf 4)) = xs[4]? := hat 4 _ rfl
  have h5 : DataW.trod enc Try.prog W 0 (fun _ => true) true m 48 (([c0, c1, c2, c3, c4, c5, c6, c7, c8, c9].drop 7).take (Try.prog.cellsOf 48)) = xs[5]? := hat 5 _ rfl
  rw [List.getElem?_eq_getElem (by omega)] at h0 h1 h2 h3 h4 h5
  rw [threeInt] at h0 h1
  rw [boolCells] at h2 h4
  rw [threeCells] at h3 h5
  obtain ⟨z0, e0, _, w0⟩ := DataW.trod_int Try.underlying3 h0
  obtain ⟨z1, e1, _, w1⟩ := DataW.trod_int Try.underlying3 h1
  obtain ⟨z2, e2, _⟩ := DataW.trod_bool Try.underlying4 h2
  obtain ⟨z6, e6, _⟩ := DataW.trod_bool Try.underlying4 h4
  obtain ⟨y3, y4, y5, n3, _, g3, g4, g5⟩ := trod_array3 (c0 := c3) (c1 := c4) (c2 := c5) Try.underlying48 threeInt h3
  obtain ⟨y7, y8, y9, n7, _, g7, g8, g9⟩ := trod_array3 (c0 := c7) (c1 := c8) (c2 := c9) Try.underlying48 threeInt h5
  obtain ⟨z3, e3, _, w3⟩ := DataW.trod_int Try.underlying3 g3
  obtain ⟨z4, e4, _, w4⟩ := DataW.trod_int Try.underlying3 g4
  obtain ⟨z5, e5, _, w5⟩ := DataW.trod_int Try.underlying3 g5
  obtain ⟨z7, e7, _, w7⟩ := DataW.trod_int Try.underlying3 g7
  obtain ⟨z8, e8, _, w8⟩ := DataW.trod_int Try.underlying3 g8
  obtain ⟨z9, e9, _, w9⟩ := DataW.trod_int Try.underlying3 g9
  have k0 : [c0] = [Value.int .i64 z0] := e0
  have k1 : [c1] = [Value.int .i64 z1] := e1
  have k2 : [c2] = [Value.bool z2] := e2
  have k6 : [c6] = [Value.bool z6] := e6
  injection k0 with k0
  injection k1 with k1
  injection k2 with k2
  injection e3 with k3
  injection e4 with k4
  injection e5 with k5
  injection k6 with k6
  injection e7 with k7
  injection e8 with k8
  injection e9 with k9
  subst k0 k1 k2 k3 k4 k5 k6 k7 k8 k9
  exact ⟨⟨z0, z1, z2, z3, z4, z5, z6, z7, z8, z9⟩, rfl, ⟨w0, w1, w3, w4, w5, w7, w8, w9⟩⟩
theorem addr_add (b o j : Nat) : (⟨b, o, none⟩ : Addr).add j = ⟨b, o + j, none⟩ := by unfold Addr.add; split <;> simp_all
/-- The changes of a record that was handed in. -/
theorem open_chgs {n : Nat} {cv : Value} {x : DataW H × List MemPlace} (h : DataW.trod enc Try.prog W 0 (fun _ => true) true n 30 [cv] = some x) :
    ∃ A len cap cs, cv = .slice A len cap ∧ len ≤ cap ∧ cap ≤ maxLen ∧ cs.length = len ∧ ChgsAt W A cs ∧ ∀ c ∈ cs, ChgFit c := by
  rcases Go.Deep.open_slice Try.underlying30 h with ⟨hcs, _⟩ | ⟨a, len, cap, m, n, D, Pl, hcs, _, hl, hm, hmm, _, hi⟩
  · injection hcs with hcs
    subst hcs
    exact ⟨none, 0, 0, [], rfl, Nat.le_refl _, by simp [maxLen], rfl, fun h => absurd h (by simp), by simp⟩
  · injection hcs with hcs
    subst hcs
    simp only [if_true] at hmm
    subst hmm
    have each : ∀ i, i < len → ∃ c : Chg, (∀ j, j < 10 → W.cell? ((a.add (i * 10)).add j) = c.cells[j]?) ∧ ChgFit c := fun i hil => by
      obtain ⟨cs', hc, ht⟩ := hi i (by omega)
      rw [chgCells] at hc
      obtain ⟨c, rfl, hf⟩ := open_chg ht
      obtain ⟨_, hcl, hcell⟩ := World.cells?_some hc
      exact ⟨c, fun j hj => hcell j hj, hf⟩
    refine ⟨some a, len, _, (List.range len).map (fun i => if h : i < len then (each i h).choose else ⟨0, 0, false, 0, 0, 0, false, 0, 0, 0⟩), rfl, hl, hm, by simp, fun hp => ?_, fun c hc => ?_⟩
    · have h0 : 0 < len := by simpa using hp
      obtain ⟨b, off, spot⟩ := a
      have hz := (each 0 h0).choose_spec.1 0 (by decide)
      generalize (each 0 h0).choose = c0 at hz
      have hz' : W.cell? ((({ block := b, off := off, spot := spot } : Addr).add (0 * 10)).add 0) = some (.int .i64 c0.t) := hz
      have hspot : spot = none := by simpa [Addr.add] using World.cell?_spot hz'
      subst hspot
      refine ⟨b, off, rfl, ?_, fun i hil j hj => ?_⟩
      · have h4 := World.block_lt_of_cell? W _ hz'
        simpa [Addr.add] using h4
      · have hil' : i < len := by simpa using hil
        have h5 := (each i hil').choose_spec.1 j hj
        have e5 : ((⟨b, off, none⟩ : Addr).add (i * 10)).add j = ⟨b, off + i * 10 + j, none⟩ := by rw [addr_add, addr_add]
        rw [← e5]
        refine h5.trans ?_
        simp only [List.getElem_map, List.getElem_range, dif_pos hil']
    · obtain ⟨i, hir, rfl⟩ := List.mem_map.1 hc
      have hil : i < len := by simpa using hir
      rw [dif_pos hil]
      exact (each i hil).choose_spec.2
/-- n records that were handed in. -/
structure RawAt (w : World) (b off n : Nat) : Prop where
  each : ∀ i, i < n → ∃ p A len cap cs, w.cell? ⟨b, off + i * 2, none⟩ = some (.int .i64 p) ∧ w.cell? ⟨b, off + i * 2 + 1, none⟩ = some (.slice A len cap) ∧ okI p ∧ len ≤ cap ∧ cap ≤ maxLen ∧ cs.length = len ∧ ChgsAt w A cs ∧ ∀ c ∈ cs, ChgFit c
  lt : b < w.heap.size
theorem RawAt.fr0 {w w' : World} {b off n : Nat} (h : RawAt w b off n) (hf : Fr [] w w') : RawAt w' b off n :=
  ⟨fun i hi => by
    obtain ⟨p, A, len, cap, cs, h1, h2, h3, h4, h5, h6, h7, h8⟩ := h.each i hi
    exact ⟨p, A, len, cap, cs, (hf.rules.1 b _ h.lt).trans h1, (hf.rules.1 b _ h.lt).trans h2, h3, h4, h5, h6, h7.fr hf (by simp), h8⟩, Nat.lt_of_lt_of_le h.lt hf.size⟩
set_option maxRecDepth 100000 in
theorem open_raws {base : Nat} {v : Value} {d : DataW H} {p : List MemPlace} (hv : Value.okWide Try.prog W .any base 23 v)
    (h : DataW.Trod enc Try.prog W 0 (fun _ => true) true 23 v d p) :
    ∃ A n cap, v = .slice A n cap ∧ n ≤ cap ∧ cap ≤ maxLen ∧ (n = 0 ∨ ∃ b off, A = some ⟨b, off, none⟩ ∧ RawAt W b off n) := by
  obtain ⟨a0, len, cap, rfl⟩ := okWide_slice Try.underlying23 hv
  obtain ⟨fuel, hf⟩ := h
  rcases Go.Deep.open_slice Try.underlying23 hf with ⟨hcs, hx⟩ | ⟨a, len', cap', m, n, D, Pl, hcs, _, hl, hm, hmm, hx, hi⟩
  · simp [Value.cells] at hcs
    obtain ⟨rfl, rfl, rfl⟩ := hcs
    exact ⟨_, _, _, rfl, Nat.le_refl _, by simp [maxLen], .inl rfl⟩
  · simp [Value.cells] at hcs
    obtain ⟨rfl, rfl, rfl⟩ := hcs
    simp only [if_true] at hmm
    subst hmm
    refine ⟨_, _, _, rfl, hl, hm, ?_⟩
    rcases Nat.eq_zero_or_pos len with h0 | h0
    · exact .inl h0
    · right
      have each : ∀ i, i < len → ∃ p A len cap cs, W.cell? ((a.add (i * 2)).add 0) = some (.int .i64 p) ∧ W.cell? ((a.add (i * 2)).add 1) = some (.slice A len cap) ∧ okI p ∧ len ≤ cap ∧ cap ≤ maxLen ∧ cs.length = len ∧ ChgsAt W A cs ∧ ∀ c ∈ cs, ChgFit c := fun i hil => by
        obtain ⟨cs', hc, ht⟩ := hi i (by omega)
        rw [recCells] at hc
        obtain ⟨xs, q, _, _, hlen, hxl, hat⟩ := DataW.trod_struct Try.underlying32 ht
        rw [recCells] at hlen
        obtain ⟨c0, c1, rfl⟩ : ∃ c0 c1, cs' = [c0, c1] := by
          match cs', hlen with
          | [c0, c1], _ => exact ⟨_, _, rfl⟩
        obtain ⟨_, _, hcell⟩ := World.cells?_some hc
        have hxs : xs.length = 2 := hxl
        have h1 : DataW.trod enc Try.prog W 0 (fun _ => true) true q 3 (([c0, c1].drop 0).take (Try.prog.cellsOf 3)) = xs[0]? := hat 0 _ rfl
        have h2 : DataW.trod enc Try.prog W 0 (fun _ => true) true q 30 (([c0, c1].drop 1).take (Try.prog.cellsOf 30)) = xs[1]? := hat 1 _ rfl
        rw [List.getElem?_eq_getElem (by omega)] at h1 h2
        rw [threeInt] at h1
        rw [chgsCells] at h2
        obtain ⟨z, e0, _, w0⟩ := DataW.trod_int Try.underlying3 h1
        have k0 : [c0] = [Value.int .i64 z] := e0
        injection k0 with k0
        obtain ⟨A, len2, cap2, cs, e1, g1, g2, g3, g4, g5⟩ := open_chgs (cv := c1) h2
        subst k0 e1
        exact ⟨z, A, len2, cap2, cs, hcell 0 (by decide), hcell 1 (by decide), w0, g1, g2, g3, g4, g5⟩
      obtain ⟨b, off, spot⟩ := a
      obtain ⟨p0, _, _, _, _, hz0, _⟩ := each 0 h0
      have hspot : spot = none := by simpa [Addr.add] using World.cell?_spot hz0
      subst hspot
      refine ⟨b, off, rfl, fun i hil => ?_, ?_⟩
      · have h3 := each i hil
        rwa [addr_add, addr_add, addr_add] at h3
      · have h4 := World.block_lt_of_cell? W _ hz0
        simpa [Addr.add] using h4
end
end Go.Proofs.Ytakfaffgfdbfmaa
namespace Go.Proofs.Ytakfaffgfdbfmaa
open Go.RowKit

theorem sapply_fn (b m : Nat) (s : Sm.Sta) (p : Int) (cs : List Chg) (A : Option Addr) (n cap : Nat) (w : World) (h : StaAt w b m s) (hc : FarC w A cs [b, m]) (hlen : cs.length ≤ 10) (hn : n = cs.length) :
    Calls Try.prog 15 #[.pointer (some ⟨b, 0, none⟩), .agg #[.int .i64 p, .slice A n cap]] w fun e w' => e = .returned (.int .i64 (Sm.code s ⟨p, cs⟩)) ∧ StaAt w' b m (Sm.apply s ⟨p, cs⟩) ∧ Fr [b, m] w w' := by
  subst hn
  exact sapply_far b m s ⟨p, cs⟩ A cap w h hc (Nat.le_trans hlen (by decide))
theorem rfapply_fn (b : Nat) (v : Value) (L : List RowV) (s : Sm.Sta) (p : Int) (cs : List Chg) (A : Option Addr) (n cap : Nat) (w : World) (h : RfAt w b v L s) (hc : FarC w A cs [b]) (hlen : cs.length ≤ 10) (hn : n = cs.length) :
    Calls Try.prog 16 #[.pointer (some ⟨b, 0, none⟩), .agg #[.int .i64 p, .slice A n cap]] w fun e w' =>
      e = .returned (.int .i64 (Sm.code s ⟨p, cs⟩)) ∧ ∃ v' L', RfAt w' b v' L' (Sm.apply s ⟨p, cs⟩) ∧ Fr [b] w w' ∧ ∀ g, v'.ownBlock = some g → v.ownBlock = some g ∨ w.heap.size ≤ g := by
  subst hn
  exact rfapply_far b v L s ⟨p, cs⟩ A cap w h hc (Nat.le_trans hlen (by decide))
theorem ChgsAt.take {w : World} {A : Option Addr} {cs : List Chg} (h : ChgsAt w A cs) (k : Nat) : ChgsAt w A (cs.take k) := fun hl => by
  rw [List.length_take] at hl
  obtain ⟨b, off, e, hb, hc⟩ := h (by omega)
  refine ⟨b, off, e, hb, fun i hi j hj => ?_⟩
  rw [List.length_take] at hi
  rw [List.getElem_take]
  exact hc i (by omega) j hj
theorem ChgsAt.far {w : World} {A : Option Addr} {cs : List Chg} (h : ChgsAt w A cs) (S : List Nat) (hs : ∀ x ∈ S, w.heap.size ≤ x) : FarC w A cs S := ⟨h, fun hl ad e hm => by
  obtain ⟨b, off, e', hb, _⟩ := h hl
  rw [e'] at e
  cases e
  have := hs _ hm
  dsimp only at this
  omega⟩
/-- Where the state and the reference lie: apart. -/
theorem apart {w : World} {b m b' : Nat} {v : Value} {L : List RowV} {s s' : Sm.Sta} (h : StaAt w b m s) (h' : RfAt w b' v L s') : ∀ i ∈ fpRf b' v, i ∉ [b, m] := by
  intro i hi hm
  simp only [fpRf, List.mem_cons, Option.mem_toList, List.not_mem_nil, or_false] at hi hm
  rcases hi with rfl | hi <;> rcases hm with rfl | rfl
  · exact h.blk.ne h'.blk (by decide) rfl
  · exact h.map.ne h'.blk rfl
  · exact h'.row.ne h.blk (by decide) hi rfl
  · exact h'.row.ne_map h.map hi rfl
theorem apart2 {w : World} {b m b' : Nat} {v : Value} {L : List RowV} {s s' : Sm.Sta} (h : StaAt w b m s) (h' : RfAt w b' v L s') : b ∉ [b'] ∧ m ∉ [b'] := by
  have h1 := apart h h' b' (by simp [fpRf])
  simp only [List.mem_cons, List.not_mem_nil, or_false, not_or] at h1 ⊢
  exact ⟨fun e => h1.1 e.symm, fun e => h1.2 e.symm⟩
/-- Between two calls of Apply. -/
structure SmRel (w2 wr : World) (b m b' : Nat) : Prop where
  st : ∃ s v L, StaAt wr b m s ∧ RfAt wr b' v L s ∧ ∀ g, v.ownBlock = some g → w2.heap.size ≤ g
  fr : Fr [] w2 wr

/-- Behind the calls of Apply with a record of the law's own. -/
structure SmReg (w2 wc : World) (b m b' gy : Nat) (p : Int) (v : Value) (A : Option Addr) (cs : List Chg) : Prop where
  rel : SmRel w2 wc b m b'
  blk : Blk wc gy 32 #[.int .i64 p, v]
  far : FarC wc A cs [b, m, b', gy]
theorem own2 {w2 w1 : World} {v v' : Value} (h : ∀ g, v.ownBlock = some g → w2.heap.size ≤ g) (h' : ∀ g, v'.ownBlock = some g → v.ownBlock = some g ∨ w1.heap.size ≤ g) (hs : w2.heap.size ≤ w1.heap.size) : ∀ g, v'.ownBlock = some g → w2.heap.size ≤ g := fun g hg => by
  rcases h' g hg with h1 | h1
  · exact h g h1
  · omega

theorem SmRel.fr0 {w2 wr w' : World} {b m b' : Nat} (h : SmRel w2 wr b m b') (hf : Fr [] wr w') : SmRel w2 w' b m b' := by
  obtain ⟨⟨s, v, L, h1, h2, h3⟩, h4⟩ := h
  exact ⟨⟨s, v, L, h1.fr0 hf, h2.fr0 hf, h3⟩, h4.trans hf⟩

set_option maxRecDepth 100000 in
set_option maxHeartbeats 8000000 in
theorem smatch_walk (A : Option Addr) (n cap : Nat) (Ar : Option Addr) (nr capr : Nat) (w : World) (hn : n ≤ cap) (hcap : cap ≤ maxLen) (hx : n = 0 ∨ ∃ bx ox, A = some ⟨bx, ox, none⟩ ∧ SixAt w bx ox n) (hnr : nr ≤ capr) (hcapr : capr ≤ maxLen) (hxr : nr = 0 ∨ ∃ bx ox, Ar = some ⟨bx, ox, none⟩ ∧ RawAt w bx ox nr) :
    Calls Try.prog 3 #[.slice A n cap, .slice Ar nr capr] w fun e w' => e = .returned (.bool true) ∧ Below w.heap.size w w' := by
  have HX := Lib.hid hx
  have HXR := Lib.hid hxr
  clear hx hxr
  have hbr : capr < 9223372036854775808 := by simp only [maxLen] at hcapr; omega
  go_enter Try.func3, Try.ntmps3
  go_wp2_with fail
  refine (sane_any _).mono ?_
  rintro e w1 ⟨rfl, f1⟩
  have F1 := Lib.hid f1
  go_wp2_with fail
  refine (log4_any A n cap w1 hn hcap (by
    rcases HX.out with h0 | ⟨bx, ox, h1, h2⟩
    · exact .inl h0
    · exact .inr ⟨bx, ox, h1, h2.fr0 F1.out⟩)).mono ?_
  rintro e w2 ⟨vl, l, rfl, hor, hok, hll, f2, hvo⟩
  obtain ⟨A2, n2, cap2, hv⟩ : ∃ A n c, vl = .slice A n c := by
    obtain ⟨us, hus, _⟩ := hor
    obtain ⟨A2, cap2, hv⟩ := hus.val
    exact ⟨_, _, _, hv⟩
  subst hv
  obtain ⟨hat, hnl⟩ := hor.recs
  subst hnl
  have hc2 : l.length ≤ cap2 := hor.cap
  have HAT := Lib.hid hat
  have F2 := Lib.hid (F1.out.trans f2)
  clear hor hat hok f1 f2 hvo HX F1
  go_wp2_with fail
  refine (snew_any w2).mono ?_
  rintro e w3 ⟨rfl, hst, f3⟩
  have HST := Lib.hid hst
  have F3 := Lib.hid f3
  clear hst f3
  go_wp2_with fail
  refine (rfnew_any w3).mono ?_
  rintro e w4 ⟨rfl, hrf, f4⟩
  have hs3 := F3.out.size
  have R0 : Hid (SmRel w2 w4 (w2.heap.size + 1) w2.heap.size w3.heap.size) := Lib.hid ⟨⟨_, _, _, HST.out.fr0 f4, hrf, fun g hg => by simp [Value.ownBlock] at hg⟩, F3.out.trans f4⟩
  obtain ⟨b, hb⟩ : ∃ b, w2.heap.size + 1 = b := ⟨_, rfl⟩
  obtain ⟨m, hm⟩ : ∃ b, w2.heap.size = b := ⟨_, rfl⟩
  obtain ⟨b', hb'⟩ : ∃ b, w3.heap.size = b := ⟨_, rfl⟩
  have HBM : Hid (w2.heap.size ≤ b ∧ w2.heap.size ≤ m ∧ w2.heap.size ≤ b') := Lib.hid (by omega)
  have hsz2 : Hid (w2.heap.size = m) := Lib.hid hm
  rw [hb, hb'] at R0 ⊢
  rw [hm] at R0
  clear hrf f4 HST F3 hs3 hb hb' hm
  go_wp2_with fail
  go_loopw [9] (fun i wr => ∃ i0 : Nat, i = .int .i64 i0 ∧ (i0 ≤ l.length ∨ i0 ≤ 10) ∧ Hid (SmRel w2 wr b m b')) (fun i _ => 40 - (intOf i).toNat)
  case atStart => exact ⟨0, rfl, .inl (Nat.zero_le _), R0⟩
  case round =>
    clear R0
    obtain ⟨i, rfl, hi, HR⟩ := hrel
    have hi30 : i ≤ 30 := by omega
    by_cases h1 : i < l.length
    · by_cases h2 : i < nr
      · by_cases h3 : i < 10
        · obtain ⟨s, v, L, hs, hr, hvo⟩ := HR.out.st
          obtain ⟨br, orr, hAr, hraw⟩ : ∃ b off, Ar = some ⟨b, off, none⟩ ∧ RawAt w b off nr := by
            rcases HXR.out with h0 | ⟨bx, ox, h1, h2⟩
            · omega
            · exact ⟨bx, ox, h1, h2⟩
          subst hAr
          obtain ⟨p, Ak, nk, ck, cs, k0, k1, okp, hnk, hck, hcl, hca, _⟩ := hraw.each i h2
          have FWr := F2.out.trans HR.out.fr
          have hbl := hraw.lt
          have r0 : wr.cell? ⟨br, orr + i * 2, none⟩ = some (.int .i64 p) := (FWr.rules.1 br _ hbl).trans k0
          have r1 : wr.cell? ⟨br, orr + i * 2 + 1, none⟩ = some (.slice Ak nk ck) := (FWr.rules.1 br _ hbl).trans k1
          have HCA := Lib.hid (hca.take 10)
          have HC10 : Hid ((cs.take 10).length ≤ 10) := Lib.hid (by rw [List.length_take]; omega)
          obtain ⟨n1, hn1⟩ : ∃ n : Nat, (min (nk : Int) 10).toNat = n := ⟨_, rfl⟩
          have HN1 : Hid (n1 = (cs.take 10).length) := Lib.hid (by rw [List.length_take, hcl]; omega)
          have hn1b : n1 ≤ nk ∧ n1 ≤ 10 := by omega
          have hckb : ck < 9223372036854775808 := by simp only [maxLen] at hck; omega
          have HS := Lib.hid hs
          have HRF := Lib.hid hr
          have HVO := Lib.hid hvo
          have HFR := Lib.hid HR.out.fr
          have HN1Q := Lib.hid hn1
          clear hs hr hvo k0 k1 okp hcl hca FWr hraw hn1
          go_upto_region 11 with fail
          rw [HN1Q.out]
          have hby := Blk.new wr 32 #[.int .i64 p, .slice Ak n1 ck]
          have f5 := (Fr.refl [] wr).alloc (.cells #[.int .i64 p, .slice Ak n1 ck] 32)
          have hlt1 := HS.out.lt
          have hlt2 := HRF.out.blk.lt
          generalize (wr.alloc (.cells #[.int .i64 p, .slice Ak n1 ck] 32)) = W5 at hby f5 ⊢
          obtain ⟨gy, hgy⟩ : ∃ g, wr.heap.size = g := ⟨_, rfl⟩
          rw [hgy] at hby ⊢
          have HGN : Hid (gy ∉ [b, m, b']) := Lib.hid (by
            simp only [List.mem_cons, List.not_mem_nil, or_false, not_or]
            omega)
          have HGW : Hid (w2.heap.size ≤ gy) := Lib.hid (by have := HFR.out.size; omega)
          have HBY := Lib.hid hby
          have HFC := Lib.hid ((HCA.out.far [b, m, b', gy] (by
            have h1 := HBM.out
            have h2 := F2.out.size
            have h3 := HGW.out
            intro x hx
            simp only [List.mem_cons, List.not_mem_nil, or_false] at hx
            omega)).fr ((F2.out.trans HFR.out).trans f5) (by simp))
          replace HS := Lib.hid (HS.out.fr0 f5)
          replace HRF := Lib.hid (HRF.out.fr0 f5)
          have HFW := Lib.hid (HFR.out.trans f5)
          have HBB : Hid (∀ x ∈ [b, m], x ∈ ([] : List Nat) ∨ w2.heap.size ≤ x) := Lib.hid (fun x hx => .inr (by
            have h1 := HBM.out
            simp only [List.mem_cons, List.not_mem_nil, or_false] at hx
            omega))
          have HBB2 : Hid (∀ x ∈ [b'], x ∈ ([] : List Nat) ∨ w2.heap.size ≤ x) := Lib.hid (fun x hx => .inr (by
            have h1 := HBM.out
            simp only [List.mem_cons, List.not_mem_nil, or_false] at hx
            omega))
          clear hby f5 hlt1 hlt2 hgy HFR r0 r1
          go_cut [64] (fun sl wc => sl = .bool false ∧ Hid (SmReg w2 wc b m b' gy (p) (.slice Ak n1 ck) Ak (cs.take 10)))
          case first =>
            have HBYD := Lib.hid (HBY.out.drew)
            have HSD := Lib.hid (HS.out.fr0 (Fr.refl [] _).drew)
            have HRD := Lib.hid (HRF.out.fr0 (Fr.refl [] _).drew)
            have HFCD := Lib.hid (HFC.out.fr (Fr.refl [] _).drew (by simp))
            have HFD := Lib.hid (HFW.out.drew)
            have y0 := HBY.out.cell 0
            have y1 := HBY.out.cell 1
            have KPH := Lib.hid (fun w' (B : Blk w' gy 32 #[.int .i64 (p), .slice Ak n1 ck]) => (show w'.cell? ⟨gy, 0, none⟩ = some (.int .i64 (p)) ∧ w'.cell? ⟨gy, 1, none⟩ = some (.slice Ak n1 ck) from ⟨B.cell 0, B.cell 1⟩))
            have HBYK := Lib.hid (fun w1 w2 (B : Blk w1 gy 32 #[.int .i64 (p), .slice Ak n1 ck]) {S : List Nat} (f : Fr S w1 w2) (hS : ∀ x ∈ S, x ∈ [b, m, b']) => B.fr f (fun hm => HGN.out (hS _ hm)))
            first | (go_region_held3 (fun w' => w'.cell? ⟨gy, 0, none⟩ = some (.int .i64 (p)) ∧ w'.cell? ⟨gy, 1, none⟩ = some (.slice Ak n1 ck))
              (first | go_keep | exact KPH.out _ HBYD.out | exact KPH.out _ HBY1.out | exact KPH.out _ HBY2.out | exact KPH.out _ HBY3.out)
              (first
              | (go_at_call 15; refine (sapply_fn b m s (p) (cs.take 10) Ak n1 ck _ HSD.out (HFCD.out.less (by simp)) HC10.out HN1.out).mono ?_; rintro e x1 ⟨rfl, hs1, g1⟩; have HS1 := Lib.hid hs1; have HBY1 := Lib.hid (HBYK.out _ _ HBYD.out g1 (by simp)); have HR1 := Lib.hid (HRD.out.fr g1 (apart HSD.out HRD.out)); have HFC1 := Lib.hid (HFCD.out.fr g1 (by simp)); have HF1 := Lib.hid (HFD.out.trans' g1 HBB.out); clear hs1 g1)
              | (go_at_call 16; refine (rfapply_fn b' v L s (p) (cs.take 10) Ak n1 ck _ HR1.out (HFC1.out.less (by simp)) HC10.out HN1.out).mono ?_; rintro e x2 ⟨rfl, v2, L2, hr2, g2, hv2⟩; have HR2 := Lib.hid hr2; have HS2 := Lib.hid (HS1.out.fr g2 (apart2 HS1.out HR1.out).1 (apart2 HS1.out HR1.out).2); have HBY2 := Lib.hid (HBYK.out _ _ HBY1.out g2 (by simp)); have HFC2 := Lib.hid (HFC1.out.fr g2 (by simp)); have HF2 := Lib.hid (HF1.out.trans' g2 HBB2.out); have HVO2 := Lib.hid (own2 HVO.out hv2 HF1.out.size); clear hr2 g2 hv2)
              | (go_at_call 17; refine (same_any b m b' v2 L2 _ _ HS2.out HR2.out).mono ?_; rintro e x3 ⟨rfl, g3⟩; have HS3 := Lib.hid (HS2.out.fr0 g3); have HR3 := Lib.hid (HR2.out.fr0 g3); have HBY3 := Lib.hid (HBYK.out _ _ HBY2.out g3 (by simp)); have HFC3 := Lib.hid (HFC2.out.fr g3 (by simp)); have HF3 := Lib.hid (HF2.out.trans g3); clear g3))) | fail "x"
            go_wp2_with fail
            go_meet
            exact ⟨rfl, Lib.hid ⟨⟨⟨_, v2, L2, HS3.out, HR3.out, HVO2.out⟩, HF3.out⟩, HBY3.out, HFC3.out⟩⟩
          case rest =>
            obtain ⟨rfl, HQ⟩ := hcut
            clear HS HRF HBY HFC HFW HVO
            obtain ⟨s, v, L, hs, hr, hvo⟩ := HQ.out.rel.st
            have HVO := Lib.hid hvo
            have q1 : wc.cell? ⟨b', 1, none⟩ = some (.int .i64 s.pos) := hr.blk.cell 1
            have hp0 := hr.ok.p0
            have hp1 := hr.ok.p1
            have hzy := HQ.out.blk.frozen 0
            have hz0 := HQ.out.blk.cell 0
            have hly := HQ.out.blk.lt
            have hsw : IntKind.i64.wrap (s.pos + 1) = s.pos + 1 := IntWalk.i64_in _ (by omega)
            have hgb : b ≠ gy := fun e => HGN.out (by simp [e])
            have hgm : m ≠ gy := fun e => HGN.out (by simp [e])
            have hgb' : b' ≠ gy := fun e => HGN.out (by simp [e])
            have f6 := (Fr.refl [gy] wc).setCell (p := ⟨gy, 0, none⟩) (.inl (by simp)) (.int .i64 (s.pos + 1))
            have HS := Lib.hid (hs.fr f6 (by simpa using hgb) (by simpa using hgm))
            have HRF := Lib.hid (hr.fr f6 (by
              intro x hx
              simp only [fpRf, List.mem_cons, Option.mem_toList] at hx
              rcases hx with rfl | hx
              · simpa using hgb'
              · have h9 := hr.row.ne HQ.out.blk (by decide) hx
                simpa using h9))
            have HBY : Hid (Blk (wc.setCell ⟨gy, 0, none⟩ (.int .i64 (s.pos + 1))) gy 32 #[.int .i64 (s.pos + 1), .slice Ak n1 ck]) := Lib.hid (by
              have h1 := HQ.out.blk.set_ 0 (.int .i64 (s.pos + 1))
              simpa using h1)
            have HFC := Lib.hid (HQ.out.far.fr f6 (by simp))
            have HFW := Lib.hid (HQ.out.rel.fr.trans' f6 (fun x hx => .inr (by
              have h1 := HGW.out
              simp only [List.mem_cons, List.not_mem_nil, or_false] at hx
              omega)))
            have hgb2 := hgb'.symm
            clear hs hr hvo hgb hgm f6 hp0 hp1
            go_upto_region 14 with fail
            generalize (wc.setCell ⟨gy, 0, none⟩ (.int .i64 (s.pos + 1))) = W6 at HS HRF HBY HFC HFW ⊢
            clear q1 hzy hz0 hly hsw hgb' hgb2 HQ
            go_cut [83] (fun sl wc => sl = .bool false ∧ Hid (SmReg w2 wc b m b' gy (s.pos + 1) (.slice Ak n1 ck) Ak (cs.take 10)))
            case first =>
              have HBYD := Lib.hid (HBY.out.drew)
              have HSD := Lib.hid (HS.out.fr0 (Fr.refl [] _).drew)
              have HRD := Lib.hid (HRF.out.fr0 (Fr.refl [] _).drew)
              have HFCD := Lib.hid (HFC.out.fr (Fr.refl [] _).drew (by simp))
              have HFD := Lib.hid (HFW.out.drew)
              have y0 := HBY.out.cell 0
              have y1 := HBY.out.cell 1
              have KPH := Lib.hid (fun w' (B : Blk w' gy 32 #[.int .i64 (s.pos + 1), .slice Ak n1 ck]) => (show w'.cell? ⟨gy, 0, none⟩ = some (.int .i64 (s.pos + 1)) ∧ w'.cell? ⟨gy, 1, none⟩ = some (.slice Ak n1 ck) from ⟨B.cell 0, B.cell 1⟩))
              have HBYK := Lib.hid (fun w1 w2 (B : Blk w1 gy 32 #[.int .i64 (s.pos + 1), .slice Ak n1 ck]) {S : List Nat} (f : Fr S w1 w2) (hS : ∀ x ∈ S, x ∈ [b, m, b']) => B.fr f (fun hm => HGN.out (hS _ hm)))
              first | (go_region_held3 (fun w' => w'.cell? ⟨gy, 0, none⟩ = some (.int .i64 (s.pos + 1)) ∧ w'.cell? ⟨gy, 1, none⟩ = some (.slice Ak n1 ck))
                (first | go_keep | exact KPH.out _ HBYD.out | exact KPH.out _ HBY1.out | exact KPH.out _ HBY2.out | exact KPH.out _ HBY3.out)
                (first
                | (go_at_call 15; refine (sapply_fn b m s (s.pos + 1) (cs.take 10) Ak n1 ck _ HSD.out (HFCD.out.less (by simp)) HC10.out HN1.out).mono ?_; rintro e x1 ⟨rfl, hs1, g1⟩; have HS1 := Lib.hid hs1; have HBY1 := Lib.hid (HBYK.out _ _ HBYD.out g1 (by simp)); have HR1 := Lib.hid (HRD.out.fr g1 (apart HSD.out HRD.out)); have HFC1 := Lib.hid (HFCD.out.fr g1 (by simp)); have HF1 := Lib.hid (HFD.out.trans' g1 HBB.out); clear hs1 g1)
                | (go_at_call 16; refine (rfapply_fn b' v L s (s.pos + 1) (cs.take 10) Ak n1 ck _ HR1.out (HFC1.out.less (by simp)) HC10.out HN1.out).mono ?_; rintro e x2 ⟨rfl, v2, L2, hr2, g2, hv2⟩; have HR2 := Lib.hid hr2; have HS2 := Lib.hid (HS1.out.fr g2 (apart2 HS1.out HR1.out).1 (apart2 HS1.out HR1.out).2); have HBY2 := Lib.hid (HBYK.out _ _ HBY1.out g2 (by simp)); have HFC2 := Lib.hid (HFC1.out.fr g2 (by simp)); have HF2 := Lib.hid (HF1.out.trans' g2 HBB2.out); have HVO2 := Lib.hid (own2 HVO.out hv2 HF1.out.size); clear hr2 g2 hv2)
                | (go_at_call 17; refine (same_any b m b' v2 L2 _ _ HS2.out HR2.out).mono ?_; rintro e x3 ⟨rfl, g3⟩; have HS3 := Lib.hid (HS2.out.fr0 g3); have HR3 := Lib.hid (HR2.out.fr0 g3); have HBY3 := Lib.hid (HBYK.out _ _ HBY2.out g3 (by simp)); have HFC3 := Lib.hid (HFC2.out.fr g3 (by simp)); have HF3 := Lib.hid (HF2.out.trans g3); clear g3))) | fail "x"
              go_wp2_with fail
              go_meet
              exact ⟨rfl, Lib.hid ⟨⟨⟨_, v2, L2, HS3.out, HR3.out, HVO2.out⟩, HF3.out⟩, HBY3.out, HFC3.out⟩⟩
            case rest =>
              obtain ⟨rfl, HQ⟩ := hcut
              clear HS HRF HBY HFC HFW HVO HBB HBB2 HGN HGW HC10 HN1 HN1Q
              obtain ⟨wr, hwr⟩ : ∃ W, W = wc := ⟨_, rfl⟩
              subst hwr
              replace HR : Hid (SmRel w2 wr b m b') := Lib.hid HQ.out.rel
              clear HQ
              have HAO := Lib.hid (HAT.out.open_ h1)
              obtain ⟨bb, off, Al, cl, hA, hbb, hc0, hc1, hhc, hl8⟩ := HAO.out
              subst hA
              obtain ⟨⟨p, cs⟩, hrq⟩ : ∃ r, l[i] = r := ⟨_, rfl⟩
              rw [hrq] at hc0 hc1 hhc hl8
              obtain ⟨s, v, L, hs, hr, hvo⟩ := HR.out.st
              have HVO := Lib.hid hvo
              obtain ⟨n1, hn1⟩ : ∃ n, n = cs.length := ⟨_, rfl⟩
              have hc1 : w2.cell? ⟨bb, off + i * 2 + 1, none⟩ = some (.slice Al n1 cl) := by rw [hn1]; exact hc1
              have hc0 : w2.cell? ⟨bb, off + i * 2, none⟩ = some (.int .i64 p) := hc0
              have HN1 := Lib.hid hn1
              have HC10 : Hid (cs.length ≤ 10) := Lib.hid (Nat.le_trans hl8 (by decide))
              have HFR := Lib.hid HR.out.fr
              have HFC := Lib.hid ((ChgsAt.far hhc.1 [b, m, b'] (by
                have h1 := HBM.out
                intro x hx
                simp only [List.mem_cons, List.not_mem_nil, or_false] at hx
                omega)).fr HFR.out (by simp))
              have HBB : Hid (∀ x ∈ [b, m], x ∈ ([] : List Nat) ∨ w2.heap.size ≤ x) := Lib.hid (fun x hx => .inr (by
                have h1 := HBM.out
                simp only [List.mem_cons, List.not_mem_nil, or_false] at hx
                omega))
              have HBB2 : Hid (∀ x ∈ [b'], x ∈ ([] : List Nat) ∨ w2.heap.size ≤ x) := Lib.hid (fun x hx => .inr (by
                have h1 := HBM.out
                simp only [List.mem_cons, List.not_mem_nil, or_false] at hx
                omega))
              have HS := Lib.hid hs
              have HRF := Lib.hid hr
              have hil : (i : Int) < (l.length : Int) := by omega
              have hi0 : (0 : Int) ≤ (i : Int) := by omega
              have hiw : IntKind.i64.wrap (i : Int) = (i : Int) := IntWalk.i64_in _ (by omega)
              have KPH := Lib.hid (fun w' (B : Fr [] w2 w') => (show w'.cell? ⟨bb, off + i * 2, none⟩ = some (.int .i64 p) ∧ w'.cell? ⟨bb, off + i * 2 + 1, none⟩ = some (.slice Al n1 cl) from ⟨(B.rules.1 bb _ hbb).trans hc0, (B.rules.1 bb _ hbb).trans hc1⟩))
              have HBYK := Lib.hid (fun w1 w2 (_ : True) {S : List Nat} (_ : Fr S w1 w2) (_ : ∀ x ∈ S, x ∈ [b, m, b']) => True.intro)
              have HBYD := Lib.hid True.intro
              clear hs hr hvo hn1 hc0 hc1 hhc hl8 hrq hbb
              go_upto_region 16 with fail
              go_cut [108] (fun sl wc => sl = .bool false ∧ Hid (SmRel w2 wc b m b'))
              case first =>
                have HSD := Lib.hid (HS.out.fr0 (Fr.refl [] _).drew)
                have HRD := Lib.hid (HRF.out.fr0 (Fr.refl [] _).drew)
                have HFCD := Lib.hid (HFC.out.fr (Fr.refl [] _).drew (by simp))
                have HFD := Lib.hid (HFR.out.drew)
                have y0 := (KPH.out _ HFR.out).1
                have y1 := (KPH.out _ HFR.out).2
                first | (go_region_held3 (fun w' => w'.cell? ⟨bb, off + i * 2, none⟩ = some (.int .i64 p) ∧ w'.cell? ⟨bb, off + i * 2 + 1, none⟩ = some (.slice Al n1 cl))
                  (first | go_keep | exact KPH.out _ HF1.out | exact KPH.out _ HF2.out | exact KPH.out _ HF3.out)
                  (first
                  | (go_at_call 15; refine (sapply_fn b m s (p) cs Al n1 cl _ HSD.out (HFCD.out.less (by simp)) HC10.out HN1.out).mono ?_; rintro e x1 ⟨rfl, hs1, g1⟩; have HS1 := Lib.hid hs1; have HBY1 := Lib.hid (HBYK.out _ _ HBYD.out g1 (by simp)); have HR1 := Lib.hid (HRD.out.fr g1 (apart HSD.out HRD.out)); have HFC1 := Lib.hid (HFCD.out.fr g1 (by simp)); have HF1 := Lib.hid (HFD.out.trans' g1 HBB.out); clear hs1 g1)
                  | (go_at_call 16; refine (rfapply_fn b' v L s (p) cs Al n1 cl _ HR1.out (HFC1.out.less (by simp)) HC10.out HN1.out).mono ?_; rintro e x2 ⟨rfl, v2, L2, hr2, g2, hv2⟩; have HR2 := Lib.hid hr2; have HS2 := Lib.hid (HS1.out.fr g2 (apart2 HS1.out HR1.out).1 (apart2 HS1.out HR1.out).2); have HBY2 := Lib.hid (HBYK.out _ _ HBY1.out g2 (by simp)); have HFC2 := Lib.hid (HFC1.out.fr g2 (by simp)); have HF2 := Lib.hid (HF1.out.trans' g2 HBB2.out); have HVO2 := Lib.hid (own2 HVO.out hv2 HF1.out.size); clear hr2 g2 hv2)
                  | (go_at_call 17; refine (same_any b m b' v2 L2 _ _ HS2.out HR2.out).mono ?_; rintro e x3 ⟨rfl, g3⟩; have HS3 := Lib.hid (HS2.out.fr0 g3); have HR3 := Lib.hid (HR2.out.fr0 g3); have HBY3 := Lib.hid (HBYK.out _ _ HBY2.out g3 (by simp)); have HFC3 := Lib.hid (HFC2.out.fr g3 (by simp)); have HF3 := Lib.hid (HF2.out.trans g3); clear g3))) | fail "x"
                go_wp2_with fail
                go_meet
                exact ⟨rfl, Lib.hid ⟨⟨_, v2, L2, HS3.out, HR3.out, HVO2.out⟩, HF3.out⟩⟩
              case rest =>
                obtain ⟨rfl, HQ⟩ := hcut
                go_wp2_with fail
                go_roundw
                case rel => exact ⟨i + 1, by go_num, .inl (by omega), HQ⟩
                case measure => simp [intOf]; omega
        · skip
          have HAO := Lib.hid (HAT.out.open_ h1)
          obtain ⟨bb, off, Al, cl, hA, hbb, hc0, hc1, hhc, hl8⟩ := HAO.out
          subst hA
          obtain ⟨⟨p, cs⟩, hrq⟩ : ∃ r, l[i] = r := ⟨_, rfl⟩
          rw [hrq] at hc0 hc1 hhc hl8
          obtain ⟨s, v, L, hs, hr, hvo⟩ := HR.out.st
          have HVO := Lib.hid hvo
          obtain ⟨n1, hn1⟩ : ∃ n, n = cs.length := ⟨_, rfl⟩
          have hc1 : w2.cell? ⟨bb, off + i * 2 + 1, none⟩ = some (.slice Al n1 cl) := by rw [hn1]; exact hc1
          have hc0 : w2.cell? ⟨bb, off + i * 2, none⟩ = some (.int .i64 p) := hc0
          have HN1 := Lib.hid hn1
          have HC10 : Hid (cs.length ≤ 10) := Lib.hid (Nat.le_trans hl8 (by decide))
          have HFR := Lib.hid HR.out.fr
          have HFC := Lib.hid ((ChgsAt.far hhc.1 [b, m, b'] (by
            have h1 := HBM.out
            intro x hx
            simp only [List.mem_cons, List.not_mem_nil, or_false] at hx
            omega)).fr HFR.out (by simp))
          have HBB : Hid (∀ x ∈ [b, m], x ∈ ([] : List Nat) ∨ w2.heap.size ≤ x) := Lib.hid (fun x hx => .inr (by
            have h1 := HBM.out
            simp only [List.mem_cons, List.not_mem_nil, or_false] at hx
            omega))
          have HBB2 : Hid (∀ x ∈ [b'], x ∈ ([] : List Nat) ∨ w2.heap.size ≤ x) := Lib.hid (fun x hx => .inr (by
            have h1 := HBM.out
            simp only [List.mem_cons, List.not_mem_nil, or_false] at hx
            omega))
          have HS := Lib.hid hs
          have HRF := Lib.hid hr
          have hil : (i : Int) < (l.length : Int) := by omega
          have hi0 : (0 : Int) ≤ (i : Int) := by omega
          have hiw : IntKind.i64.wrap (i : Int) = (i : Int) := IntWalk.i64_in _ (by omega)
          have KPH := Lib.hid (fun w' (B : Fr [] w2 w') => (show w'.cell? ⟨bb, off + i * 2, none⟩ = some (.int .i64 p) ∧ w'.cell? ⟨bb, off + i * 2 + 1, none⟩ = some (.slice Al n1 cl) from ⟨(B.rules.1 bb _ hbb).trans hc0, (B.rules.1 bb _ hbb).trans hc1⟩))
          have HBYK := Lib.hid (fun w1 w2 (_ : True) {S : List Nat} (_ : Fr S w1 w2) (_ : ∀ x ∈ S, x ∈ [b, m, b']) => True.intro)
          have HBYD := Lib.hid True.intro
          clear hs hr hvo hn1 hc0 hc1 hhc hl8 hrq hbb
          go_upto_region 16 with fail
          go_cut [108] (fun sl wc => sl = .bool false ∧ Hid (SmRel w2 wc b m b'))
          case first =>
            have HSD := Lib.hid (HS.out.fr0 (Fr.refl [] _).drew)
            have HRD := Lib.hid (HRF.out.fr0 (Fr.refl [] _).drew)
            have HFCD := Lib.hid (HFC.out.fr (Fr.refl [] _).drew (by simp))
            have HFD := Lib.hid (HFR.out.drew)
            have y0 := (KPH.out _ HFR.out).1
            have y1 := (KPH.out _ HFR.out).2
            first | (go_region_held3 (fun w' => w'.cell? ⟨bb, off + i * 2, none⟩ = some (.int .i64 p) ∧ w'.cell? ⟨bb, off + i * 2 + 1, none⟩ = some (.slice Al n1 cl))
              (first | go_keep | exact KPH.out _ HF1.out | exact KPH.out _ HF2.out | exact KPH.out _ HF3.out)
              (first
              | (go_at_call 15; refine (sapply_fn b m s (p) cs Al n1 cl _ HSD.out (HFCD.out.less (by simp)) HC10.out HN1.out).mono ?_; rintro e x1 ⟨rfl, hs1, g1⟩; have HS1 := Lib.hid hs1; have HBY1 := Lib.hid (HBYK.out _ _ HBYD.out g1 (by simp)); have HR1 := Lib.hid (HRD.out.fr g1 (apart HSD.out HRD.out)); have HFC1 := Lib.hid (HFCD.out.fr g1 (by simp)); have HF1 := Lib.hid (HFD.out.trans' g1 HBB.out); clear hs1 g1)
              | (go_at_call 16; refine (rfapply_fn b' v L s (p) cs Al n1 cl _ HR1.out (HFC1.out.less (by simp)) HC10.out HN1.out).mono ?_; rintro e x2 ⟨rfl, v2, L2, hr2, g2, hv2⟩; have HR2 := Lib.hid hr2; have HS2 := Lib.hid (HS1.out.fr g2 (apart2 HS1.out HR1.out).1 (apart2 HS1.out HR1.out).2); have HBY2 := Lib.hid (HBYK.out _ _ HBY1.out g2 (by simp)); have HFC2 := Lib.hid (HFC1.out.fr g2 (by simp)); have HF2 := Lib.hid (HF1.out.trans' g2 HBB2.out); have HVO2 := Lib.hid (own2 HVO.out hv2 HF1.out.size); clear hr2 g2 hv2)
              | (go_at_call 17; refine (same_any b m b' v2 L2 _ _ HS2.out HR2.out).mono ?_; rintro e x3 ⟨rfl, g3⟩; have HS3 := Lib.hid (HS2.out.fr0 g3); have HR3 := Lib.hid (HR2.out.fr0 g3); have HBY3 := Lib.hid (HBYK.out _ _ HBY2.out g3 (by simp)); have HFC3 := Lib.hid (HFC2.out.fr g3 (by simp)); have HF3 := Lib.hid (HF2.out.trans g3); clear g3))) | fail "x"
            go_wp2_with fail
            go_meet
            exact ⟨rfl, Lib.hid ⟨⟨_, v2, L2, HS3.out, HR3.out, HVO2.out⟩, HF3.out⟩⟩
          case rest =>
            obtain ⟨rfl, HQ⟩ := hcut
            go_wp2_with fail
            go_roundw
            case rel => exact ⟨i + 1, by go_num, .inl (by omega), HQ⟩
            case measure => simp [intOf]; omega
      · skip
        have HAO := Lib.hid (HAT.out.open_ h1)
        obtain ⟨bb, off, Al, cl, hA, hbb, hc0, hc1, hhc, hl8⟩ := HAO.out
        subst hA
        obtain ⟨⟨p, cs⟩, hrq⟩ : ∃ r, l[i] = r := ⟨_, rfl⟩
        rw [hrq] at hc0 hc1 hhc hl8
        obtain ⟨s, v, L, hs, hr, hvo⟩ := HR.out.st
        have HVO := Lib.hid hvo
        obtain ⟨n1, hn1⟩ : ∃ n, n = cs.length := ⟨_, rfl⟩
        have hc1 : w2.cell? ⟨bb, off + i * 2 + 1, none⟩ = some (.slice Al n1 cl) := by rw [hn1]; exact hc1
        have hc0 : w2.cell? ⟨bb, off + i * 2, none⟩ = some (.int .i64 p) := hc0
        have HN1 := Lib.hid hn1
        have HC10 : Hid (cs.length ≤ 10) := Lib.hid (Nat.le_trans hl8 (by decide))
        have HFR := Lib.hid HR.out.fr
        have HFC := Lib.hid ((ChgsAt.far hhc.1 [b, m, b'] (by
          have h1 := HBM.out
          intro x hx
          simp only [List.mem_cons, List.not_mem_nil, or_false] at hx
          omega)).fr HFR.out (by simp))
        have HBB : Hid (∀ x ∈ [b, m], x ∈ ([] : List Nat) ∨ w2.heap.size ≤ x) := Lib.hid (fun x hx => .inr (by
          have h1 := HBM.out
          simp only [List.mem_cons, List.not_mem_nil, or_false] at hx
          omega))
        have HBB2 : Hid (∀ x ∈ [b'], x ∈ ([] : List Nat) ∨ w2.heap.size ≤ x) := Lib.hid (fun x hx => .inr (by
          have h1 := HBM.out
          simp only [List.mem_cons, List.not_mem_nil, or_false] at hx
          omega))
        have HS := Lib.hid hs
        have HRF := Lib.hid hr
        have hil : (i : Int) < (l.length : Int) := by omega
        have hi0 : (0 : Int) ≤ (i : Int) := by omega
        have hiw : IntKind.i64.wrap (i : Int) = (i : Int) := IntWalk.i64_in _ (by omega)
        have KPH := Lib.hid (fun w' (B : Fr [] w2 w') => (show w'.cell? ⟨bb, off + i * 2, none⟩ = some (.int .i64 p) ∧ w'.cell? ⟨bb, off + i * 2 + 1, none⟩ = some (.slice Al n1 cl) from ⟨(B.rules.1 bb _ hbb).trans hc0, (B.rules.1 bb _ hbb).trans hc1⟩))
        have HBYK := Lib.hid (fun w1 w2 (_ : True) {S : List Nat} (_ : Fr S w1 w2) (_ : ∀ x ∈ S, x ∈ [b, m, b']) => True.intro)
        have HBYD := Lib.hid True.intro
        clear hs hr hvo hn1 hc0 hc1 hhc hl8 hrq hbb
        go_upto_region 16 with fail
        go_cut [108] (fun sl wc => sl = .bool false ∧ Hid (SmRel w2 wc b m b'))
        case first =>
          have HSD := Lib.hid (HS.out.fr0 (Fr.refl [] _).drew)
          have HRD := Lib.hid (HRF.out.fr0 (Fr.refl [] _).drew)
          have HFCD := Lib.hid (HFC.out.fr (Fr.refl [] _).drew (by simp))
          have HFD := Lib.hid (HFR.out.drew)
          have y0 := (KPH.out _ HFR.out).1
          have y1 := (KPH.out _ HFR.out).2
          first | (go_region_held3 (fun w' => w'.cell? ⟨bb, off + i * 2, none⟩ = some (.int .i64 p) ∧ w'.cell? ⟨bb, off + i * 2 + 1, none⟩ = some (.slice Al n1 cl))
            (first | go_keep | exact KPH.out _ HF1.out | exact KPH.out _ HF2.out | exact KPH.out _ HF3.out)
            (first
            | (go_at_call 15; refine (sapply_fn b m s (p) cs Al n1 cl _ HSD.out (HFCD.out.less (by simp)) HC10.out HN1.out).mono ?_; rintro e x1 ⟨rfl, hs1, g1⟩; have HS1 := Lib.hid hs1; have HBY1 := Lib.hid (HBYK.out _ _ HBYD.out g1 (by simp)); have HR1 := Lib.hid (HRD.out.fr g1 (apart HSD.out HRD.out)); have HFC1 := Lib.hid (HFCD.out.fr g1 (by simp)); have HF1 := Lib.hid (HFD.out.trans' g1 HBB.out); clear hs1 g1)
            | (go_at_call 16; refine (rfapply_fn b' v L s (p) cs Al n1 cl _ HR1.out (HFC1.out.less (by simp)) HC10.out HN1.out).mono ?_; rintro e x2 ⟨rfl, v2, L2, hr2, g2, hv2⟩; have HR2 := Lib.hid hr2; have HS2 := Lib.hid (HS1.out.fr g2 (apart2 HS1.out HR1.out).1 (apart2 HS1.out HR1.out).2); have HBY2 := Lib.hid (HBYK.out _ _ HBY1.out g2 (by simp)); have HFC2 := Lib.hid (HFC1.out.fr g2 (by simp)); have HF2 := Lib.hid (HF1.out.trans' g2 HBB2.out); have HVO2 := Lib.hid (own2 HVO.out hv2 HF1.out.size); clear hr2 g2 hv2)
            | (go_at_call 17; refine (same_any b m b' v2 L2 _ _ HS2.out HR2.out).mono ?_; rintro e x3 ⟨rfl, g3⟩; have HS3 := Lib.hid (HS2.out.fr0 g3); have HR3 := Lib.hid (HR2.out.fr0 g3); have HBY3 := Lib.hid (HBYK.out _ _ HBY2.out g3 (by simp)); have HFC3 := Lib.hid (HFC2.out.fr g3 (by simp)); have HF3 := Lib.hid (HF2.out.trans g3); clear g3))) | fail "x"
          go_wp2_with fail
          go_meet
          exact ⟨rfl, Lib.hid ⟨⟨_, v2, L2, HS3.out, HR3.out, HVO2.out⟩, HF3.out⟩⟩
        case rest =>
          obtain ⟨rfl, HQ⟩ := hcut
          go_wp2_with fail
          go_roundw
          case rel => exact ⟨i + 1, by go_num, .inl (by omega), HQ⟩
          case measure => simp [intOf]; omega
    · by_cases h2 : i < nr
      · by_cases h3 : i < 10
        · obtain ⟨s, v, L, hs, hr, hvo⟩ := HR.out.st
          obtain ⟨br, orr, hAr, hraw⟩ : ∃ b off, Ar = some ⟨b, off, none⟩ ∧ RawAt w b off nr := by
            rcases HXR.out with h0 | ⟨bx, ox, h1, h2⟩
            · omega
            · exact ⟨bx, ox, h1, h2⟩
          subst hAr
          obtain ⟨p, Ak, nk, ck, cs, k0, k1, okp, hnk, hck, hcl, hca, _⟩ := hraw.each i h2
          have FWr := F2.out.trans HR.out.fr
          have hbl := hraw.lt
          have r0 : wr.cell? ⟨br, orr + i * 2, none⟩ = some (.int .i64 p) := (FWr.rules.1 br _ hbl).trans k0
          have r1 : wr.cell? ⟨br, orr + i * 2 + 1, none⟩ = some (.slice Ak nk ck) := (FWr.rules.1 br _ hbl).trans k1
          have HCA := Lib.hid (hca.take 10)
          have HC10 : Hid ((cs.take 10).length ≤ 10) := Lib.hid (by rw [List.length_take]; omega)
          obtain ⟨n1, hn1⟩ : ∃ n : Nat, (min (nk : Int) 10).toNat = n := ⟨_, rfl⟩
          have HN1 : Hid (n1 = (cs.take 10).length) := Lib.hid (by rw [List.length_take, hcl]; omega)
          have hn1b : n1 ≤ nk ∧ n1 ≤ 10 := by omega
          have hckb : ck < 9223372036854775808 := by simp only [maxLen] at hck; omega
          have HS := Lib.hid hs
          have HRF := Lib.hid hr
          have HVO := Lib.hid hvo
          have HFR := Lib.hid HR.out.fr
          have HN1Q := Lib.hid hn1
          clear hs hr hvo k0 k1 okp hcl hca FWr hraw hn1
          go_upto_region 11 with fail
          rw [HN1Q.out]
          have hby := Blk.new wr 32 #[.int .i64 p, .slice Ak n1 ck]
          have f5 := (Fr.refl [] wr).alloc (.cells #[.int .i64 p, .slice Ak n1 ck] 32)
          have hlt1 := HS.out.lt
          have hlt2 := HRF.out.blk.lt
          generalize (wr.alloc (.cells #[.int .i64 p, .slice Ak n1 ck] 32)) = W5 at hby f5 ⊢
          obtain ⟨gy, hgy⟩ : ∃ g, wr.heap.size = g := ⟨_, rfl⟩
          rw [hgy] at hby ⊢
          have HGN : Hid (gy ∉ [b, m, b']) := Lib.hid (by
            simp only [List.mem_cons, List.not_mem_nil, or_false, not_or]
            omega)
          have HGW : Hid (w2.heap.size ≤ gy) := Lib.hid (by have := HFR.out.size; omega)
          have HBY := Lib.hid hby
          have HFC := Lib.hid ((HCA.out.far [b, m, b', gy] (by
            have h1 := HBM.out
            have h2 := F2.out.size
            have h3 := HGW.out
            intro x hx
            simp only [List.mem_cons, List.not_mem_nil, or_false] at hx
            omega)).fr ((F2.out.trans HFR.out).trans f5) (by simp))
          replace HS := Lib.hid (HS.out.fr0 f5)
          replace HRF := Lib.hid (HRF.out.fr0 f5)
          have HFW := Lib.hid (HFR.out.trans f5)
          have HBB : Hid (∀ x ∈ [b, m], x ∈ ([] : List Nat) ∨ w2.heap.size ≤ x) := Lib.hid (fun x hx => .inr (by
            have h1 := HBM.out
            simp only [List.mem_cons, List.not_mem_nil, or_false] at hx
            omega))
          have HBB2 : Hid (∀ x ∈ [b'], x ∈ ([] : List Nat) ∨ w2.heap.size ≤ x) := Lib.hid (fun x hx => .inr (by
            have h1 := HBM.out
            simp only [List.mem_cons, List.not_mem_nil, or_false] at hx
            omega))
          clear hby f5 hlt1 hlt2 hgy HFR r0 r1
          go_cut [64] (fun sl wc => sl = .bool false ∧ Hid (SmReg w2 wc b m b' gy (p) (.slice Ak n1 ck) Ak (cs.take 10)))
          case first =>
            have HBYD := Lib.hid (HBY.out.drew)
            have HSD := Lib.hid (HS.out.fr0 (Fr.refl [] _).drew)
            have HRD := Lib.hid (HRF.out.fr0 (Fr.refl [] _).drew)
            have HFCD := Lib.hid (HFC.out.fr (Fr.refl [] _).drew (by simp))
            have HFD := Lib.hid (HFW.out.drew)
            have y0 := HBY.out.cell 0
            have y1 := HBY.out.cell 1
            have KPH := Lib.hid (fun w' (B : Blk w' gy 32 #[.int .i64 (p), .slice Ak n1 ck]) => (show w'.cell? ⟨gy, 0, none⟩ = some (.int .i64 (p)) ∧ w'.cell? ⟨gy, 1, none⟩ = some (.slice Ak n1 ck) from ⟨B.cell 0, B.cell 1⟩))
            have HBYK := Lib.hid (fun w1 w2 (B : Blk w1 gy 32 #[.int .i64 (p), .slice Ak n1 ck]) {S : List Nat} (f : Fr S w1 w2) (hS : ∀ x ∈ S, x ∈ [b, m, b']) => B.fr f (fun hm => HGN.out (hS _ hm)))
            first | (go_region_held3 (fun w' => w'.cell? ⟨gy, 0, none⟩ = some (.int .i64 (p)) ∧ w'.cell? ⟨gy, 1, none⟩ = some (.slice Ak n1 ck))
              (first | go_keep | exact KPH.out _ HBYD.out | exact KPH.out _ HBY1.out | exact KPH.out _ HBY2.out | exact KPH.out _ HBY3.out)
              (first
              | (go_at_call 15; refine (sapply_fn b m s (p) (cs.take 10) Ak n1 ck _ HSD.out (HFCD.out.less (by simp)) HC10.out HN1.out).mono ?_; rintro e x1 ⟨rfl, hs1, g1⟩; have HS1 := Lib.hid hs1; have HBY1 := Lib.hid (HBYK.out _ _ HBYD.out g1 (by simp)); have HR1 := Lib.hid (HRD.out.fr g1 (apart HSD.out HRD.out)); have HFC1 := Lib.hid (HFCD.out.fr g1 (by simp)); have HF1 := Lib.hid (HFD.out.trans' g1 HBB.out); clear hs1 g1)
              | (go_at_call 16; refine (rfapply_fn b' v L s (p) (cs.take 10) Ak n1 ck _ HR1.out (HFC1.out.less (by simp)) HC10.out HN1.out).mono ?_; rintro e x2 ⟨rfl, v2, L2, hr2, g2, hv2⟩; have HR2 := Lib.hid hr2; have HS2 := Lib.hid (HS1.out.fr g2 (apart2 HS1.out HR1.out).1 (apart2 HS1.out HR1.out).2); have HBY2 := Lib.hid (HBYK.out _ _ HBY1.out g2 (by simp)); have HFC2 := Lib.hid (HFC1.out.fr g2 (by simp)); have HF2 := Lib.hid (HF1.out.trans' g2 HBB2.out); have HVO2 := Lib.hid (own2 HVO.out hv2 HF1.out.size); clear hr2 g2 hv2)
              | (go_at_call 17; refine (same_any b m b' v2 L2 _ _ HS2.out HR2.out).mono ?_; rintro e x3 ⟨rfl, g3⟩; have HS3 := Lib.hid (HS2.out.fr0 g3); have HR3 := Lib.hid (HR2.out.fr0 g3); have HBY3 := Lib.hid (HBYK.out _ _ HBY2.out g3 (by simp)); have HFC3 := Lib.hid (HFC2.out.fr g3 (by simp)); have HF3 := Lib.hid (HF2.out.trans g3); clear g3))) | fail "x"
            go_wp2_with fail
            go_meet
            exact ⟨rfl, Lib.hid ⟨⟨⟨_, v2, L2, HS3.out, HR3.out, HVO2.out⟩, HF3.out⟩, HBY3.out, HFC3.out⟩⟩
          case rest =>
            obtain ⟨rfl, HQ⟩ := hcut
            clear HS HRF HBY HFC HFW HVO
            obtain ⟨s, v, L, hs, hr, hvo⟩ := HQ.out.rel.st
            have HVO := Lib.hid hvo
            have q1 : wc.cell? ⟨b', 1, none⟩ = some (.int .i64 s.pos) := hr.blk.cell 1
            have hp0 := hr.ok.p0
            have hp1 := hr.ok.p1
            have hzy := HQ.out.blk.frozen 0
            have hz0 := HQ.out.blk.cell 0
            have hly := HQ.out.blk.lt
            have hsw : IntKind.i64.wrap (s.pos + 1) = s.pos + 1 := IntWalk.i64_in _ (by omega)
            have hgb : b ≠ gy := fun e => HGN.out (by simp [e])
            have hgm : m ≠ gy := fun e => HGN.out (by simp [e])
            have hgb' : b' ≠ gy := fun e => HGN.out (by simp [e])
            have f6 := (Fr.refl [gy] wc).setCell (p := ⟨gy, 0, none⟩) (.inl (by simp)) (.int .i64 (s.pos + 1))
            have HS := Lib.hid (hs.fr f6 (by simpa using hgb) (by simpa using hgm))
            have HRF := Lib.hid (hr.fr f6 (by
              intro x hx
              simp only [fpRf, List.mem_cons, Option.mem_toList] at hx
              rcases hx with rfl | hx
              · simpa using hgb'
              · have h9 := hr.row.ne HQ.out.blk (by decide) hx
                simpa using h9))
            have HBY : Hid (Blk (wc.setCell ⟨gy, 0, none⟩ (.int .i64 (s.pos + 1))) gy 32 #[.int .i64 (s.pos + 1), .slice Ak n1 ck]) := Lib.hid (by
              have h1 := HQ.out.blk.set_ 0 (.int .i64 (s.pos + 1))
              simpa using h1)
            have HFC := Lib.hid (HQ.out.far.fr f6 (by simp))
            have HFW := Lib.hid (HQ.out.rel.fr.trans' f6 (fun x hx => .inr (by
              have h1 := HGW.out
              simp only [List.mem_cons, List.not_mem_nil, or_false] at hx
              omega)))
            have hgb2 := hgb'.symm
            clear hs hr hvo hgb hgm f6 hp0 hp1
            go_upto_region 14 with fail
            generalize (wc.setCell ⟨gy, 0, none⟩ (.int .i64 (s.pos + 1))) = W6 at HS HRF HBY HFC HFW ⊢
            clear q1 hzy hz0 hly hsw hgb' hgb2 HQ
            go_cut [83] (fun sl wc => sl = .bool false ∧ Hid (SmReg w2 wc b m b' gy (s.pos + 1) (.slice Ak n1 ck) Ak (cs.take 10)))
            case first =>
              have HBYD := Lib.hid (HBY.out.drew)
              have HSD := Lib.hid (HS.out.fr0 (Fr.refl [] _).drew)
              have HRD := Lib.hid (HRF.out.fr0 (Fr.refl [] _).drew)
              have HFCD := Lib.hid (HFC.out.fr (Fr.refl [] _).drew (by simp))
              have HFD := Lib.hid (HFW.out.drew)
              have y0 := HBY.out.cell 0
              have y1 := HBY.out.cell 1
              have KPH := Lib.hid (fun w' (B : Blk w' gy 32 #[.int .i64 (s.pos + 1), .slice Ak n1 ck]) => (show w'.cell? ⟨gy, 0, none⟩ = some (.int .i64 (s.pos + 1)) ∧ w'.cell? ⟨gy, 1, none⟩ = some (.slice Ak n1 ck) from ⟨B.cell 0, B.cell 1⟩))
              have HBYK := Lib.hid (fun w1 w2 (B : Blk w1 gy 32 #[.int .i64 (s.pos + 1), .slice Ak n1 ck]) {S : List Nat} (f : Fr S w1 w2) (hS : ∀ x ∈ S, x ∈ [b, m, b']) => B.fr f (fun hm => HGN.out (hS _ hm)))
              first | (go_region_held3 (fun w' => w'.cell? ⟨gy, 0, none⟩ = some (.int .i64 (s.pos + 1)) ∧ w'.cell? ⟨gy, 1, none⟩ = some (.slice Ak n1 ck))
                (first | go_keep | exact KPH.out _ HBYD.out | exact KPH.out _ HBY1.out | exact KPH.out _ HBY2.out | exact KPH.out _ HBY3.out)
                (first
                | (go_at_call 15; refine (sapply_fn b m s (s.pos + 1) (cs.take 10) Ak n1 ck _ HSD.out (HFCD.out.less (by simp)) HC10.out HN1.out).mono ?_; rintro e x1 ⟨rfl, hs1, g1⟩; have HS1 := Lib.hid hs1; have HBY1 := Lib.hid (HBYK.out _ _ HBYD.out g1 (by simp)); have HR1 := Lib.hid (HRD.out.fr g1 (apart HSD.out HRD.out)); have HFC1 := Lib.hid (HFCD.out.fr g1 (by simp)); have HF1 := Lib.hid (HFD.out.trans' g1 HBB.out); clear hs1 g1)
                | (go_at_call 16; refine (rfapply_fn b' v L s (s.pos + 1) (cs.take 10) Ak n1 ck _ HR1.out (HFC1.out.less (by simp)) HC10.out HN1.out).mono ?_; rintro e x2 ⟨rfl, v2, L2, hr2, g2, hv2⟩; have HR2 := Lib.hid hr2; have HS2 := Lib.hid (HS1.out.fr g2 (apart2 HS1.out HR1.out).1 (apart2 HS1.out HR1.out).2); have HBY2 := Lib.hid (HBYK.out _ _ HBY1.out g2 (by simp)); have HFC2 := Lib.hid (HFC1.out.fr g2 (by simp)); have HF2 := Lib.hid (HF1.out.trans' g2 HBB2.out); have HVO2 := Lib.hid (own2 HVO.out hv2 HF1.out.size); clear hr2 g2 hv2)
                | (go_at_call 17; refine (same_any b m b' v2 L2 _ _ HS2.out HR2.out).mono ?_; rintro e x3 ⟨rfl, g3⟩; have HS3 := Lib.hid (HS2.out.fr0 g3); have HR3 := Lib.hid (HR2.out.fr0 g3); have HBY3 := Lib.hid (HBYK.out _ _ HBY2.out g3 (by simp)); have HFC3 := Lib.hid (HFC2.out.fr g3 (by simp)); have HF3 := Lib.hid (HF2.out.trans g3); clear g3))) | fail "x"
              go_wp2_with fail
              go_meet
              exact ⟨rfl, Lib.hid ⟨⟨⟨_, v2, L2, HS3.out, HR3.out, HVO2.out⟩, HF3.out⟩, HBY3.out, HFC3.out⟩⟩
            case rest =>
              obtain ⟨rfl, HQ⟩ := hcut
              clear HS HRF HBY HFC HFW HVO HBB HBB2 HGN HGW HC10 HN1 HN1Q
              obtain ⟨wr, hwr⟩ : ∃ W, W = wc := ⟨_, rfl⟩
              subst hwr
              replace HR : Hid (SmRel w2 wr b m b') := Lib.hid HQ.out.rel
              clear HQ
              have hd : decide (i < l.length) = false := decide_eq_false h1
              go_upto_region 16 with fail
              refine wp_region_later (by kernel_rfl) (by kernel_rfl) ?_
              repeat (go_big_quiet_step (fail))
              refine wpQuiet_nil ?_
              rintro w' ⟨⟨wq, fq⟩, rfl⟩
              have HQ := Lib.hid (HR.out.fr0 fq)
              clear fq
              go_wp2_with fail
              go_roundw
              case rel => exact ⟨i + 1, by go_num, .inr (by omega), HQ⟩
              case measure => simp [intOf]; omega
        · skip
          have HF := Lib.hid (F2.out.trans HR.out.fr)
          clear HR
          go_wp2_with fail
          go_ret
          exact ⟨rfl, HF.out.below⟩
      · skip
        have HF := Lib.hid (F2.out.trans HR.out.fr)
        clear HR
        go_wp2_with fail
        go_ret
        exact ⟨rfl, HF.out.below⟩
end Go.Proofs.Ytakfaffgfdbfmaa
namespace Go.Proofs.Ytakfaffgfdbfmaa
open Go.RowKit Go.WideShapes Go.ChangeShapes

set_option maxRecDepth 100000 in
theorem smatch_law : LawWalk 3 Try.f3 := by
  intro H enc W base args ds p hval0 hA0 hlt hsz
  have hval : ∀ (j : Nat) t v, Try.f3.params[j]? = some t → args[j]? = some v → Value.okWide Try.prog W .any base t v := hval0
  have hA : DataW.TrodAll enc Try.prog W 0 (fun _ => true) true Try.f3.params.toList args.toList ds p := hA0
  clear hA0 hval0 hsz
  rw [Try.params3] at hA hval
  obtain ⟨v0, vs0, d0, ds0, p0, q0, hargs, rfl, rfl, h0, r0⟩ := trodAll_cons hA
  obtain ⟨v1, vs1, d1, ds1, p1, q1, rfl, rfl, rfl, h1, r1⟩ := trodAll_cons r0
  obtain ⟨rfl, rfl, rfl⟩ := trodAll_nil r1
  obtain rfl : args = #[v0, v1] := by cases args; simp_all
  obtain ⟨A0, n0, cap0, rfl, hn0, hmax0, hx0⟩ := open_sixes (hval 0 _ v0 rfl rfl) h0
  obtain ⟨A1, n1, cap1, rfl, hn1, hmax1, hx1⟩ := open_raws (hval 1 _ v1 rfl rfl) h1
  exact smatch_walk A0 n0 cap0 A1 n1 cap1 W hn0 hmax0 hx0 hn1 hmax1 hx1

set_option maxRecDepth 100000 in
theorem smatch_lifted (os : Os) (started : os.Started) (H : Type) (enc : TypeId × Value → H) :
    ReturnsInHanded {} Try.checked os 3 .any (Rows.storeMatchesReferenceSpec.pre6 enc Try.prog Try.f3 Rows.storeMatchesReferenceRow.domain false) (Rows.storeMatchesReferenceSpec.post enc Try.prog Try.f3 false true false false) :=
  law_lifted (s := Rows.storeMatchesReferenceSpec) (conds := Rows.storeMatchesReferenceRow.domain) Try.func3 (by kernel_rfl) rfl rfl
    (by
      rw [Try.params3]
      intro t ht
      simp only [List.mem_cons, List.not_mem_nil, or_false] at ht
      rcases ht with rfl | rfl
      all_goals exact ⟨by kernel_rfl, of_decide_eq_true (by kernel_rfl)⟩)
    (fun H ds h => by
      match ds, h with
      | [d0, d1], _ => exact ⟨rfl, rfl, rfl⟩) smatch_law os started H enc
    (ChangeSpec.witness6 (enc := enc) (C := Try.checked) false ⟨#[], #[.slice none 0 0, .slice none 0 0], []⟩ 8 (by kernel_rfl) (by kernel_rfl) (by kernel_rfl) (by kernel_rfl))

theorem smatch_holds : Rows.StoreMatchesReferenceSaid :=
  OpenClaim.holds_of_wide 3 Try.f3 rfl rfl rfl rfl rfl rfl rfl ⟨rfl, rfl, rfl, rfl, rfl⟩ rfl rfl rfl rfl rfl (by kernel_rfl) Try.func3 (by kernel_rfl)
    (of_decide_eq_true (by kernel_rfl)) (by unfold Func.isWrapper; rw [if_neg (of_decide_eq_false (by kernel_rfl))]; exact ⟨rfl, rfl⟩)
    (fun os started H enc _ => smatch_lifted os started H enc)
#print axioms smatch_holds

end Go.Proofs.Ytakfaffgfdbfmaa

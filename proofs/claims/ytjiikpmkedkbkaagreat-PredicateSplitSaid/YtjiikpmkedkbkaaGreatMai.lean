/-
  Records with their changes, as elements of a row.
-/
import Derived.Test.YtjiikpmkedkbkaaGreatMab
import Derived.Test.YtjiikpmkedkbkaaGreatMah
import Derived.Test.YtjiikpmkedkbkaaGreatMaf
import Derived.Test.YtjiikpmkedkbkaaGreatMad
import Derived.StillTailTactics
namespace Go.Proofs.YtjiikpmkedkbkaaGreat

/-- At A lie the elements L. -/
def AtL {X : Type} (enc : X → List Value) (size : Nat) (w : World) (A : Option Addr) (L : List X) : Prop :=
  0 < L.length → ∃ b off, A = some ⟨b, off, none⟩ ∧ b < w.heap.size ∧ ∀ i (h : i < L.length) j, j < size → w.cell? ⟨b, off + i * size + j, none⟩ = (enc L[i])[j]?
section
variable {X : Type} {enc : X → List Value} {size e : Nat} {w w' : World} {A : Option Addr} {L : List X} {v : Value}
theorem AtL.fr {S : List Nat} (h : AtL enc size w A L) (hf : Fr S w w') (hs : ∀ ad, A = some ad → ad.block ∉ S) : AtL enc size w' A L := by
  intro hl
  obtain ⟨b, off, e, hb, hc⟩ := h hl
  refine ⟨b, off, e, Nat.lt_of_lt_of_le hb hf.size, fun i hi j hj => ?_⟩
  rw [hf.cell (p := ⟨b, off + i * size + j, none⟩) hb (hs ⟨b, off, none⟩ e)]
  exact hc i hi j hj
theorem AtL.fr0 (h : AtL enc size w A L) (hf : Fr [] w w') : AtL enc size w' A L := h.fr hf (by simp)
theorem OwnL.at_ (henc : ∀ x, (enc x).length = size) (h : OwnL e size enc w v L) : ∃ A cap, v = .slice A L.length cap ∧ AtL enc size w A L := by
  rcases Nat.eq_zero_or_pos L.length with h0 | h0
  · obtain ⟨A, cap, hv⟩ := h.val
    exact ⟨A, cap, hv, fun hl => absurd hl (by omega)⟩
  · obtain ⟨g, cap, hv, _, _, hlt, hcell, _⟩ := h.form henc h0
    exact ⟨_, cap, hv, fun _ => ⟨g, 0, rfl, hlt, fun i hi j hj => by rw [Nat.zero_add]; exact hcell i hi j hj⟩⟩
theorem AtL.of_blk (henc : ∀ x, (enc x).length = size) {g t : Nat} {arr : Array Value} (hB : Blk w g t arr) (h : L.flatMap enc = arr.toList) : AtL enc size w (some ⟨g, 0, none⟩) L :=
  fun _ => ⟨g, 0, rfl, hB.lt, fun i hi j hj => by
    rw [← flat_get henc L i hi j hj, h, Nat.zero_add, hB.cell]
    simp⟩
end
theorem OwnL.at1 {X : Type} {e size : Nat} {enc : X → List Value} {w : World} {A : Option Addr} {n cap : Nat} {L : List X} (henc : ∀ x, (enc x).length = size) (h : OwnL e size enc w (.slice A n cap) L) : AtL enc size w A L ∧ n = L.length := by
  obtain ⟨A', cap', hv, ha⟩ := h.at_ henc
  cases hv
  exact ⟨ha, rfl⟩
end Go.Proofs.YtjiikpmkedkbkaaGreat
namespace Go.Proofs.YtjiikpmkedkbkaaGreat
open Go.RowKit

theorem after_no (c : Chg) (h : c.has = false) (w : World) : Calls Tryz.prog 32 #[c.val] w fun e w' =>
    e = .returned (.tuple #[rowVal 0 0 0 0 0, .bool false]) ∧ Fr [] w w' := by
  obtain ⟨t, k, had, o0, o1, o2, has, n0, n1, n2⟩ := c
  dsimp only at h
  subst h
  have F0 : Fr [] w ((w.alloc (.cells #[.int .i64 t, .int .i64 k, .bool had, .int .i64 o0, .int .i64 o1, .int .i64 o2, .bool false, .int .i64 n0, .int .i64 n1, .int .i64 n2] 45)).alloc (.cells #[.int .i64 0, .int .i64 0, .int .i64 0, .int .i64 0, .int .i64 0] 53)) := ((Fr.refl _ _).alloc _).alloc _
  have hB := Blk.new (w.alloc (.cells #[.int .i64 t, .int .i64 k, .bool had, .int .i64 o0, .int .i64 o1, .int .i64 o2, .bool false, .int .i64 n0, .int .i64 n1, .int .i64 n2] 45)) 53 #[.int .i64 0, .int .i64 0, .int .i64 0, .int .i64 0, .int .i64 0]
  rw [World.size_alloc] at hB
  have hh := half_no ⟨t, k, had, o0, o1, o2, false, n0, n1, n2⟩ n0 n1 n2
  unfold Chg.val rowVal at *
  go_enter Tryz.func32, Tryz.ntmps32
  go_wp2_with fail
  refine (hh _).mono ?_
  rintro e w1 ⟨rfl, f1⟩
  have F1 := F0.trans f1
  have hB1 := hB.fr f1 (by simp)
  have h0 := hB1.cell 0
  have h1 := hB1.cell 1
  have h2 := hB1.cell 2
  have h3 := hB1.cell 3
  have h4 := hB1.cell 4
  have z0 := hB1.frozen 0
  have z1 := hB1.frozen 1
  have z2 := hB1.frozen 2
  have z3 := hB1.frozen 3
  have z4 := hB1.frozen 4
  go_wp2_with fail
  refine bodyPost_ret (v := .tuple #[.agg #[.int .i64 0, .int .i64 0, .int .i64 0, .int .i64 0, .int .i64 0], .bool false]) (by simp [results, Tryz.results32, go_sem, h0, h1, h2, h3, h4]) rfl ⟨rfl, ?_⟩
  repeat first | exact F1 | refine Fr.setCell ?_ (.inr (by simp)) _
theorem after_yes (c : Chg) (h : c.has = true) (w : World) : Calls Tryz.prog 32 #[c.val] w fun e w' =>
    e = .returned (.tuple #[rowVal c.t c.k c.n0 c.n1 c.n2, .bool true]) ∧ Fr [] w w' := by
  obtain ⟨t, k, had, o0, o1, o2, has, n0, n1, n2⟩ := c
  dsimp only at h
  subst h
  have F0 : Fr [] w ((w.alloc (.cells #[.int .i64 t, .int .i64 k, .bool had, .int .i64 o0, .int .i64 o1, .int .i64 o2, .bool true, .int .i64 n0, .int .i64 n1, .int .i64 n2] 45)).alloc (.cells #[.int .i64 0, .int .i64 0, .int .i64 0, .int .i64 0, .int .i64 0] 53)) := ((Fr.refl _ _).alloc _).alloc _
  have hB := Blk.new (w.alloc (.cells #[.int .i64 t, .int .i64 k, .bool had, .int .i64 o0, .int .i64 o1, .int .i64 o2, .bool true, .int .i64 n0, .int .i64 n1, .int .i64 n2] 45)) 53 #[.int .i64 0, .int .i64 0, .int .i64 0, .int .i64 0, .int .i64 0]
  rw [World.size_alloc] at hB
  have hh := half_yes ⟨t, k, had, o0, o1, o2, true, n0, n1, n2⟩ n0 n1 n2
  unfold Chg.val rowVal at *
  go_enter Tryz.func32, Tryz.ntmps32
  go_wp2_with fail
  refine (hh _).mono ?_
  rintro e w1 ⟨rfl, f1⟩
  have F1 := F0.trans f1
  have hB1 := hB.fr f1 (by simp)
  have h0 := hB1.cell 0
  have h1 := hB1.cell 1
  have h2 := hB1.cell 2
  have h3 := hB1.cell 3
  have h4 := hB1.cell 4
  have z0 := hB1.frozen 0
  have z1 := hB1.frozen 1
  have z2 := hB1.frozen 2
  have z3 := hB1.frozen 3
  have z4 := hB1.frozen 4
  go_wp2_with fail
  refine bodyPost_ret (v := .tuple #[.agg #[.int .i64 t, .int .i64 k, .int .i64 n0, .int .i64 n1, .int .i64 n2], .bool true]) (by simp [results, Tryz.results32, go_sem, h0, h1, h2, h3, h4]) rfl ⟨rfl, ?_⟩
  repeat first | exact F1 | refine Fr.setCell ?_ (.inr (by simp)) _
end Go.Proofs.YtjiikpmkedkbkaaGreat
namespace Go.Proofs.YtjiikpmkedkbkaaGreat
open Go.RowKit

theorem Blk.ne {w : World} {a b ta tb : Nat} {ca cb : Array Value} (h1 : Blk w a ta ca) (h2 : Blk w b tb cb) (hne : ta ≠ tb) : a ≠ b := by
  rintro rfl
  unfold Blk at h1 h2
  rw [h1] at h2
  injection h2 with h2
  injection h2 with _ h2
  exact hne h2

/-- Changes of a record in a block of changes: nobody writes there. -/
def HoldsC (w : World) (A : Option Addr) (cs : List Chg) : Prop := ChgsAt w A cs ∧ (0 < cs.length → ∀ ad, A = some ad → ∃ arr fz, w.heap[ad.block]? = some (.cells arr 45 fz))
/-- None of the blocks in S holds changes. -/
def NoC (w : World) (S : List Nat) : Prop := ∀ s ∈ S, ∀ arr fz, w.heap[s]? ≠ some (.cells arr 45 fz)
theorem NoC.nil {w : World} : NoC w [] := fun _ h => by simp at h
theorem NoC.cons {w : World} {s : Nat} {S : List Nat} (h1 : ∀ arr fz, w.heap[s]? ≠ some (.cells arr 45 fz)) (h2 : NoC w S) : NoC w (s :: S) := fun x hx => by
  rcases List.mem_cons.1 hx with rfl | hx
  · exact h1
  · exact h2 x hx
theorem noC_blk {w : World} {s ty : Nat} {cs : Array Value} (h : Blk w s ty cs) (hne : ty ≠ 45) : ∀ arr fz, w.heap[s]? ≠ some (.cells arr 45 fz) := by
  intro arr fz e
  unfold Blk at h
  rw [h] at e
  injection e with e
  injection e with _ e
  exact hne e
theorem noC_map {K V : Type} {P : Program} {k : TypeId} {kl : K → Lit} {ev : V → Value} {w : World} {b : Nat} {M : List (K × V)} (h : VMap P k kl ev w b M) : ∀ arr fz, w.heap[b]? ≠ some (.cells arr 45 fz) := by
  intro arr fz e
  obtain ⟨es, clock, hb, _⟩ := h
  rw [hb] at e
  cases e
theorem noC_new {w : World} {s : Nat} (h : w.heap.size ≤ s) : ∀ arr fz, w.heap[s]? ≠ some (.cells arr 45 fz) := by
  intro arr fz e
  rw [Array.getElem?_eq_none h] at e
  cases e
theorem HoldsC.fr {w w' : World} {A : Option Addr} {cs : List Chg} {S : List Nat} (h : HoldsC w A cs) (hf : Fr S w w') (hs : NoC w S) : HoldsC w' A cs := by
  have hn : 0 < cs.length → ∀ ad, A = some ad → ad.block ∉ S := fun hl ad e hm => by
    obtain ⟨arr, fz, hb⟩ := h.2 hl ad e
    exact hs _ hm arr fz hb
  refine ⟨fun hl => (h.1.fr hf (hn hl)) hl, fun hl ad e => ?_⟩
  obtain ⟨arr, fz, hb⟩ := h.2 hl ad e
  exact ⟨arr, fz, (hf.block _ (Array.getElem?_eq_some_iff.1 hb).1 (hn hl ad e)).trans hb⟩
end Go.Proofs.YtjiikpmkedkbkaaGreat
namespace Go.Proofs.YtjiikpmkedkbkaaGreat
open Go.RowKit

/-- At the head of each round of Apply. -/
def ApRel (w : World) (m : Nat) (s : Sm.Sta) (cs : List Chg) (k : Nat) (wr : World) : Prop := k ≤ cs.length ∧ VMap Tryz.prog 78 klId RowV.val wr m ((cs.take k).foldl Sm.put1 s.M) ∧ Fr [m] w wr

set_option maxRecDepth 100000 in
set_option maxHeartbeats 2000000 in
theorem sapply_any (b m : Nat) (s : Sm.Sta) (r : Rec) (A : Option Addr) (cap : Nat) (w : World) (h : StaAt w b m s) (hc : HoldsC w A r.cs) (hlen : r.cs.length ≤ maxLen) :
    Calls Tryz.prog 13 #[.pointer (some ⟨b, 0, none⟩), .agg #[.int .i64 r.p, .slice A r.cs.length cap]] w fun e w' => e = .returned (.int .i64 (Sm.code s r)) ∧ StaAt w' b m (Sm.apply s r) ∧ Fr [b, m] w w' := by
  have HC : Hid (Sm.code s r = if Sm.fits s r = true then 0 else 40) := Lib.hid rfl
  have HA : Hid (Sm.apply s r = if Sm.fits s r = true then ⟨r.cs.foldl Sm.put1 s.M, r.p⟩ else s) := Lib.hid rfl
  have HOK := h.ok.applied r
  have hnb := h.ne
  have f0 : Fr [] w (w.alloc (.cells #[.int .i64 r.p, .slice A r.cs.length cap] 41)) := (Fr.refl _ _).alloc _
  have hr0 := Blk.new w 41 #[.int .i64 r.p, .slice A r.cs.length cap]
  go_enter Tryz.func13, Tryz.ntmps13
  go_wp2_with fail
  generalize w.alloc (.cells #[.int .i64 r.p, .slice A r.cs.length cap] 41) = W0 at *
  have h0 := h.fr0 f0
  have hc0 := hc.fr f0 NoC.nil
  have r0 := hr0.cell 0
  have r1 := hr0.cell 1
  have hlr := hr0.lt
  have hbr : b ≠ w.heap.size := Nat.ne_of_lt h.lt.1
  have hmr : m ≠ w.heap.size := Nat.ne_of_lt h.lt.2
  refine (fits_any b m s r A cap _ h0 hc0.1 hlen).mono ?_
  rintro e w1 ⟨rfl, f1⟩
  have h1 := h0.fr0 f1
  have hc1 := hc0.fr f1 NoC.nil
  have hr1 := hr0.fr f1 (by simp)
  have F1 : Fr [] w w1 := f0.trans f1
  clear f1 r0 r1 h0 hc0 hr0 f0 hlr
  cases hf : Sm.fits s r
  · rw [hf] at HC HA
    clear hf HOK
    go_wp2_with fail
    go_ret
    exact ⟨by rw [HC.out]; rfl, by rw [HA.out]; exact h1, F1.mono (by simp)⟩
  · rw [hf] at HC HA
    have HV := Lib.hid (Rw.valid_chgs (r := r) (by
      simp only [Sm.fits, Bool.and_eq_true] at hf
      exact hf.1.1))
    have hlen8 : 1 ≤ r.cs.length ∧ r.cs.length ≤ 8 := by
      have h1 := hf
      simp only [Sm.fits, Rw.valid, Rw.inI, Bool.and_eq_true, decide_eq_true_eq] at h1
      omega
    clear hf
    rw [HA.out, if_pos rfl] at HOK
    have r0 := hr1.cell 0
    have r1 := hr1.cell 1
    have R0 : ApRel w1 m s r.cs 0 w1 := ⟨Nat.zero_le _, h1.map, Fr.refl _ _⟩
    obtain ⟨bb, off, hA, hbb, hcc⟩ := hc1.1 (by omega)
    clear hbb hcc
    subst hA
    have HL := Sm.fold_len
    have hml := h1.ok.len
    have hnd := h1.ok.nd
    generalize r.cs = cs at *
    go_wp2_with fail
    go_loopw [21] (fun i wr => ∃ k : Nat, i = .int .i64 k ∧ ApRel w1 m s cs k wr) (fun i _ => cs.length - (intOf i).toNat)
    case atStart => exact ⟨0, rfl, R0⟩
    case round =>
      clear R0 r0 r1
      obtain ⟨k, rfl, hk, hm1, hf1⟩ := hrel
      have hc2 := hc1.fr hf1 (NoC.cons (noC_map h1.map) NoC.nil)
      have hb2 := h1.blk.fr hf1 (by simpa using hnb.symm)
      have hr2 := hr1.fr hf1 (by simpa using hmr.symm)
      have b0 : wr.cell? ⟨b, 0, none⟩ = some (.map (some m)) := hb2.cell 0
      by_cases hlt : k < cs.length
      · obtain ⟨bb', off', hA', hbb, hcc⟩ := hc2.1 (by omega)
        cases hA'
        have hck := Lib.hid (fun j hj => hcc k hlt j hj)
        have hcb := Rw.chg_bounds (HV.out _ (List.getElem_mem hlt))
        have htk : (cs.take (k + 1)).foldl Sm.put1 s.M = Sm.put1 ((cs.take k).foldl Sm.put1 s.M) cs[k] := by
          rw [List.take_succ_eq_append_getElem hlt, List.foldl_append]
          rfl
        have HTK := Lib.hid htk
        have hsz : ((cs.take k).foldl Sm.put1 s.M).length < maxLen := by
          have := (HL (cs.take k) s.M hnd).2
          rw [List.length_take] at this
          simp only [maxLen]
          omega
        clear hcc htk
        generalize cs[k] = c at hck HTK hcb
        generalize (cs.take k).foldl Sm.put1 s.M = M at *
        obtain ⟨t, kk, had, o0, o1, o2, has, n0, n1, n2⟩ := c
        dsimp only at hcb
        have c0 : wr.cell? ⟨bb, off + k * 10, none⟩ = some (.int .i64 t) := hck.out 0 (by decide)
        have c1 : wr.cell? ⟨bb, off + k * 10 + 1, none⟩ = some (.int .i64 kk) := hck.out 1 (by decide)
        have c2 : wr.cell? ⟨bb, off + k * 10 + 2, none⟩ = some (.bool had) := hck.out 2 (by decide)
        have c3 : wr.cell? ⟨bb, off + k * 10 + 3, none⟩ = some (.int .i64 o0) := hck.out 3 (by decide)
        have c4 : wr.cell? ⟨bb, off + k * 10 + 4, none⟩ = some (.int .i64 o1) := hck.out 4 (by decide)
        have c5 : wr.cell? ⟨bb, off + k * 10 + 5, none⟩ = some (.int .i64 o2) := hck.out 5 (by decide)
        have c6 : wr.cell? ⟨bb, off + k * 10 + 6, none⟩ = some (.bool has) := hck.out 6 (by decide)
        have c7 : wr.cell? ⟨bb, off + k * 10 + 7, none⟩ = some (.int .i64 n0) := hck.out 7 (by decide)
        have c8 : wr.cell? ⟨bb, off + k * 10 + 8, none⟩ = some (.int .i64 n1) := hck.out 8 (by decide)
        have c9 : wr.cell? ⟨bb, off + k * 10 + 9, none⟩ = some (.int .i64 n2) := hck.out 9 (by decide)
        clear hck
        have hid : IdK.val (idOf t kk) = .agg #[.int .i64 t, .int .i64 kk] := by
          have := idOf_val (t := t) (k := kk) (okI_mk (by omega) (by omega)) (okI_mk (by omega) (by omega))
          unfold IdK.val
          rw [this]
        have HID := Lib.hid hid.symm
        clear hid
        have hI := Blk.new (wr.alloc (.cells #[.int .i64 t, .int .i64 kk, .bool had, .int .i64 o0, .int .i64 o1, .int .i64 o2, .bool has, .int .i64 n0, .int .i64 n1, .int .i64 n2] 45)) 78 #[.int .i64 t, .int .i64 kk]
        rw [World.size_alloc] at hI
        have FA : Fr [] wr ((wr.alloc (.cells #[.int .i64 t, .int .i64 kk, .bool had, .int .i64 o0, .int .i64 o1, .int .i64 o2, .bool has, .int .i64 n0, .int .i64 n1, .int .i64 n2] 45)).alloc (.cells #[.int .i64 t, .int .i64 kk] 78)) := ((Fr.refl _ _).alloc _).alloc _
        cases has
        · have hay := after_no ⟨t, kk, had, o0, o1, o2, false, n0, n1, n2⟩ rfl
          unfold Chg.val rowVal at hay
          go_wp2_with fail
          refine (hay _).mono ?_
          rintro e w2 ⟨rfl, f2⟩
          have F2 := FA.trans f2
          have hI2 := hI.fr f2 (by simp)
          clear f2 hI FA hay c0 c1 c2 c3 c4 c5 c6 c7 c8 c9
          have F3 := F2.alloc (.cells #[.int .i64 0, .int .i64 0, .int .i64 0, .int .i64 0, .int .i64 0] 53)
          have hI3 := hI2.fr ((Fr.refl [] w2).alloc (.cells #[.int .i64 0, .int .i64 0, .int .i64 0, .int .i64 0, .int .i64 0] 53)) (by simp)
          have hR3 := Blk.new w2 53 #[.int .i64 0, .int .i64 0, .int .i64 0, .int .i64 0, .int .i64 0]
          have i0 := hI3.cell 0
          have i1 := hI3.cell 1
          have y0 := hR3.cell 0
          have y1 := hR3.cell 1
          have y2 := hR3.cell 2
          have y3 := hR3.cell 3
          have y4 := hR3.cell 4
          have b3 := (hb2.fr F3 (by simp)).cell 0
          go_wp2_with fail
          generalize w2.alloc (.cells #[.int .i64 0, .int .i64 0, .int .i64 0, .int .i64 0, .int .i64 0] 53) = W3 at *
          go_still_tail 6, (by kernel_rfl)
          have hm3 : VMap Tryz.prog 78 klId RowV.val W3.drew m M := (hm1.fr F3 (by simp)).drew
          have F4 : Fr [] wr W3.drew := F3.drew
          change wpList _ _ _ _ _ W3.drew
          generalize W3.drew = W4 at hm3 F4 ⊢
          clear F3 hI3 hR3 i0 i1 y0 y1 y2 y3 y4 b3 F2 hI2
          go_wp2_with (at_delete; refine wpList_vdel _ rfl _ _ rfl tyIdRow m _ rfl hm3 (idOf t kk) HID.out trivial ?_; intro w6 hm6 ht6)
          go_roundw
          case rel => exact ⟨k + 1, by go_num, by omega, by rw [HTK.out]; exact hm6, (hf1.trans (F4.mono (by simp))).trans (turned_fr ht6 (by simp))⟩
          case measure => simp [intOf]; omega
        · have hay := after_yes ⟨t, kk, had, o0, o1, o2, true, n0, n1, n2⟩ rfl
          unfold Chg.val rowVal at hay
          go_wp2_with fail
          refine (hay _).mono ?_
          rintro e w2 ⟨rfl, f2⟩
          have F2 := FA.trans f2
          have hI2 := hI.fr f2 (by simp)
          clear f2 hI FA hay c0 c1 c2 c3 c4 c5 c6 c7 c8 c9
          have F3 := F2.alloc (.cells #[.int .i64 t, .int .i64 kk, .int .i64 n0, .int .i64 n1, .int .i64 n2] 53)
          have hI3 := hI2.fr ((Fr.refl [] w2).alloc (.cells #[.int .i64 t, .int .i64 kk, .int .i64 n0, .int .i64 n1, .int .i64 n2] 53)) (by simp)
          have hR3 := Blk.new w2 53 #[.int .i64 t, .int .i64 kk, .int .i64 n0, .int .i64 n1, .int .i64 n2]
          have i0 := hI3.cell 0
          have i1 := hI3.cell 1
          have y0 := hR3.cell 0
          have y1 := hR3.cell 1
          have y2 := hR3.cell 2
          have y3 := hR3.cell 3
          have y4 := hR3.cell 4
          have b3 := (hb2.fr F3 (by simp)).cell 0
          go_wp2_with fail
          generalize w2.alloc (.cells #[.int .i64 t, .int .i64 kk, .int .i64 n0, .int .i64 n1, .int .i64 n2] 53) = W3 at *
          go_still_tail 7, (by kernel_rfl)
          have hm3 : VMap Tryz.prog 78 klId RowV.val W3.drew m M := (hm1.fr F3 (by simp)).drew
          have F4 : Fr [] wr W3.drew := F3.drew
          change wpList _ _ _ _ _ W3.drew
          generalize W3.drew = W4 at hm3 F4 ⊢
          clear F3 hI3 hR3 i0 i1 y0 y1 y2 y3 y4 b3 F2 hI2
          go_wp2_with (at_mapUpdate; refine wpList_vstore _ rfl _ _ _ rfl tyIdRow m _ rfl hm3 (idOf t kk) ⟨t, kk, n0, n1, n2⟩ HID.out rfl trivial hsz ?_; intro w6 hm6 ht6)
          go_roundw
          case rel => exact ⟨k + 1, by go_num, by omega, by rw [HTK.out]; exact hm6, (hf1.trans (F4.mono (by simp))).trans (turned_fr ht6 (by simp))⟩
          case measure => simp [intOf]; omega
      · have hke : cs.take k = cs := List.take_of_length_le (by omega)
        rw [hke] at hm1
        have r0 := hr2.cell 0
        have z1 := hb2.frozen 1
        have b1 := hb2.cell 1
        have hb3 := hb2.set_ 1 (.int .i64 r.p)
        have FS : Fr [b] wr (wr.setCell ⟨b, 1, none⟩ (.int .i64 r.p)) := (Fr.refl _ _).setCell (.inl (by simp)) _
        have hm3 := hm1.fr FS (by simpa using hnb)
        have F5 : Fr [b, m] w (wr.setCell ⟨b, 1, none⟩ (.int .i64 r.p)) := ((F1.mono (by simp)).trans (hf1.mono (by simp))).trans (FS.mono (by simp))
        clear hke FS
        go_wp2_with fail
        go_ret
        refine ⟨by rw [HC.out]; rfl, ?_, F5⟩
        rw [HA.out]
        simp only [↓reduceIte]
        exact ⟨by simpa using hb3, hm3, HOK⟩
end Go.Proofs.YtjiikpmkedkbkaaGreat
namespace Go.Proofs.YtjiikpmkedkbkaaGreat
open Go.RowKit

/-- A record that waits: what it is, and where its changes lie. -/
structure WRec where
  r : Rec
  A : Option Addr
  cap : Nat
  le : r.cs.length ≤ cap
@[reducible] def WRec.val (v : WRec) : Value := .agg #[.int .i64 v.r.p, .slice v.A v.r.cs.length v.cap]
def WRec.cells (u : WRec) : List Value := [.int .i64 u.r.p, .slice u.A u.r.cs.length u.cap]
theorem WRec.len (u : WRec) : u.cells.length = 2 := rfl
theorem WRec.one (u : WRec) : ∀ v ∈ u.cells, v.oneCell' = true := by
  intro v hv
  simp only [WRec.cells, List.mem_cons, List.not_mem_nil, or_false] at hv
  rcases hv with rfl | rfl <;> rfl
/-- v is a row that holds the records out. -/
def OwnR (w : World) (v : Value) (out : List Rec) : Prop := ∃ us : List WRec, OwnL 41 2 WRec.cells w v us ∧ us.map (·.r) = out ∧ ∀ u ∈ us, HoldsC w u.A u.r.cs ∧ u.r.cs.length ≤ 8
theorem OwnR.nil (w : World) : OwnR w (.slice none 0 0) [] := ⟨[], OwnL.nil, rfl, by simp⟩
theorem OwnR.fr {w w' : World} {v : Value} {out : List Rec} {S : List Nat} (h : OwnR w v out) (hf : Fr S w w') (hs : ∀ g, v.ownBlock = some g → g ∉ S) (hn : NoC w S) : OwnR w' v out := by
  obtain ⟨us, h1, h2, h3⟩ := h
  exact ⟨us, h1.fr hf hs, h2, fun u hu => ⟨(h3 u hu).1.fr hf hn, (h3 u hu).2⟩⟩
theorem OwnL.ne_map {X K V : Type} {e size : Nat} {enc : X → List Value} {w : World} {v : Value} {L : List X} {P : Program} {k : TypeId} {kl : K → Lit} {ev : V → Value} {b : Nat} {M : List (K × V)} (h : OwnL e size enc w v L) (hb : VMap P k kl ev w b M) {g : Nat} (hg : v.ownBlock = some g) : g ≠ b := by
  rcases h.2 with ⟨rfl, _⟩ | ⟨g', cap, cur, rfl, _, hh, _⟩
  · simp [Value.ownBlock] at hg
  · rintro rfl
    simp [Value.ownBlock] at hg
    subst hg
    exact (hb.ne hh) rfl
theorem OwnL.keep0 {X : Type} {e size : Nat} {enc : X → List Value} {w w' : World} {v : Value} {L : List X} (h : OwnL e size enc w v L) (hf : Fr [] w w') : OwnL e size enc w' v L := h.fr hf (by simp)
theorem OwnR.keep0 {w w' : World} {v : Value} {out : List Rec} (h : OwnR w v out) (hf : Fr [] w w') : OwnR w' v out := h.fr hf (by simp) NoC.nil
theorem OwnR.at1 {w : World} {A : Option Addr} {n cap : Nat} {out : List Rec} (h : OwnR w (.slice A n cap) out) : ∃ us : List WRec, AtL WRec.cells 2 w A us ∧ n = us.length ∧ us.map (·.r) = out ∧ ∀ u ∈ us, ChgsAt w u.A u.r.cs ∧ u.r.cs.length ≤ 8 := by
  obtain ⟨us, h1, h2, h3⟩ := h
  obtain ⟨h4, h5⟩ := h1.at1 WRec.len
  exact ⟨us, h4, h5, h2, fun u hu => ⟨(h3 u hu).1.1, (h3 u hu).2⟩⟩
end Go.Proofs.YtjiikpmkedkbkaaGreat

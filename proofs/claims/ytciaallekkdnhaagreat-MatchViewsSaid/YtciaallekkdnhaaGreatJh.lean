/-
  The reference of a state: Apply.
-/
import Derived.Test.YtciaallekkdnhaaGreatJe
import Derived.Test.YtciaallekkdnhaaGreatJb
namespace Go.Proofs.YtciaallekkdnhaaGreat
open Go.RowKit

theorem Rw.valid_chgs' {r : Rec} (h : Rw.valid r = true) : ∀ c ∈ r.cs, Rw.chg c = true := (Rw.valid_all h).1

theorem own_fresh {v : Value} {n B : Nat} (h : v.ownBlock = (Value.slice none 0 0).ownBlock ∨ v.ownBlock = some n) (hB : B ≤ n) : ∀ g, v.ownBlock = some g → B ≤ g := by
  intro g hg
  rcases h with h | h
  · rw [hg] at h; cases h
  · rw [hg] at h; injection h with h; omega
theorem own_fresh2 {v u : Value} {n B : Nat} (hu : ∀ g, u.ownBlock = some g → B ≤ g) (h : v.ownBlock = u.ownBlock ∨ v.ownBlock = some n) (hB : B ≤ n) : ∀ g, v.ownBlock = some g → B ≤ g := by
  intro g hg
  rcases h with h | h
  · exact hu g (h ▸ hg)
  · rw [hg] at h; injection h with h; omega
theorem Reads.from2 {X : Type} {w : World} {B size : Nat} {enc : X → List Value} {L : List X} (henc : ∀ x, (enc x).length = size) {g : Nat} (h : Reads w B size (some ⟨g, 0, none⟩) L.length (L.flatMap enc)) {k off n : Nat} (hk : k ≤ L.length) (ho : off = k * size) (hn : n = L.length - k) : Reads w B size (some ⟨g, off, none⟩) n ((L.drop k).flatMap enc) := by
  subst hn
  exact h.from_ henc hk ho
theorem own_cap {X : Type} {e size : Nat} {enc : X → List Value} {w : World} {A : Option Addr} {cap : Nat} {L : List X} (h : OwnL e size enc w (.slice A L.length cap) L) : L.length ≤ cap := by
  rcases h.2 with ⟨hv, h0⟩ | ⟨g, c, cur, hv, _, _, hnc, _⟩
  · omega
  · cases hv
    exact hnc
/-- Between two rounds of the second loop. -/
structure RfMid (w wr : World) (b : Nat) (s : Sm.Sta) (cs : List Chg) (k : Nat) (v : Value) (L : List RowV) : Prop where
  blk : Blk wr b 132 #[v, .int .i64 s.pos]
  row : RowsOwn wr v L
  sim : Sm.Sim ((cs.take k).foldl Sm.put1 s.M) L
  fr : Fr [b] w wr

set_option maxRecDepth 100000 in
set_option maxHeartbeats 20000000 in
theorem rfapply_any (b : Nat) (v : Value) (L : List RowV) (s : Sm.Sta) (r : Rec) (A : Option Addr) (cap : Nat) (w : World) (h : RfAt w b v L s) (hc : HoldsC w A r.cs) (hlen : r.cs.length ≤ maxLen) :
    Calls Tryz.prog 60 #[.pointer (some ⟨b, 0, none⟩), .agg #[.int .i64 r.p, .slice A r.cs.length cap]] w fun e w' =>
      e = .returned (.int .i64 (Sm.code s r)) ∧ ∃ v' L', RfAt w' b v' L' (Sm.apply s r) ∧ Fr [b] w w' ∧ ∀ g, v'.ownBlock = some g → v.ownBlock = some g ∨ w.heap.size ≤ g := by
  have HF : Hid (Sm.fits s r = (Rw.valid r && decide (r.p = s.pos + 1) && Sm.fitsGo s.M s.M.length r.cs)) := Lib.hid rfl
  have HCO : Hid (Sm.code s r = if Sm.fits s r = true then 0 else 40) := Lib.hid rfl
  have HAP : Hid (Sm.apply s r = if Sm.fits s r = true then ⟨r.cs.foldl Sm.put1 s.M, r.p⟩ else s) := Lib.hid rfl
  have HNO := Lib.hid (fun (hf : Sm.fits s r = false) (w' : World) (hr : RfAt w' b v L s) (f : Fr [] w w') => (show Ending.returned (Value.int .i64 40) = .returned (.int .i64 (Sm.code s r)) ∧ ∃ v' L', RfAt w' b v' L' (Sm.apply s r) ∧ Fr [b] w w' ∧ ∀ g, v'.ownBlock = some g → v.ownBlock = some g ∨ w.heap.size ≤ g from by
    rw [HCO.out, HAP.out, hf]
    exact ⟨rfl, v, L, hr, f.mono (by simp), fun g hg => .inl hg⟩))
  have HMID := Lib.hid (fun hf => Sm.fits_mid h.ok (r := r) hf)
  have HOK := Lib.hid (h.ok.applied r)
  have f0 : Fr [] w (w.alloc (.cells #[.int .i64 r.p, .slice A r.cs.length cap] 26)) := (Fr.refl _ _).alloc _
  have hr0 := Blk.new w 26 #[.int .i64 r.p, .slice A r.cs.length cap]
  have h0 := h.fr0 f0
  have hc0 := hc.fr f0 NoC.nil
  have hbr : b ≠ w.heap.size := Nat.ne_of_lt h.blk.lt
  have hp0 := h.ok.p0
  have hp1 := h.ok.p1
  have hml := h.ok.len
  go_enter Tryz.func60, Tryz.ntmps60
  go_wp2_with fail
  generalize w.alloc (.cells #[.int .i64 r.p, .slice A r.cs.length cap] 26) = W0 at *
  refine (rfRecord_any r A cap _ hc0.1 hlen).mono ?_
  rintro e w1 ⟨rfl, f1⟩
  have h1 := h0.fr0 f1
  have hc1 := hc0.fr f1 NoC.nil
  have hr1 := hr0.fr f1 (by simp)
  have F1 : Fr [] w w1 := f0.trans f1
  clear f1 h0 hc0 hr0 f0 hc
  cases hv : Rw.valid r
  · have HFA := Lib.hid (HNO.out (by rw [HF.out, hv]; rfl) w1.drew (h1.fr0 (Fr.refl [] w1).drew) F1.drew)
    clear hv
    go_wp2_with fail
    go_region
    go_wp2_with fail
    go_ret
    exact HFA.out
  have hvf : 1 ≤ r.p ∧ r.p ≤ 10000 ∧ 1 ≤ r.cs.length ∧ r.cs.length ≤ 8 := by
    have h1 := hv
    simp only [Rw.valid, Rw.inI, Bool.and_eq_true, decide_eq_true_eq] at h1
    omega
  have HV := Lib.hid hv
  clear hv
  have b1 : w1.cell? ⟨b, 1, none⟩ = some (.int .i64 s.pos) := h1.blk.cell 1
  have r0 := hr1.cell 0
  have hlb := h1.blk.lt
  by_cases hp : r.p = s.pos + 1
  · have hd : (r.p != s.pos + 1) = false := by simpa using hp
    have HP := Lib.hid hp
    clear hp
    have HFF : Hid (Sm.fits s r = Sm.fitsGo s.M s.M.length r.cs) := Lib.hid (by rw [HF.out, HV.out]; simp [HP.out])
    have hc1d := hc1.fr (Fr.refl [] w1).drew NoC.nil
    obtain ⟨bb, off, hA, hbb, hcc⟩ := hc1.1 (by omega)
    subst hA
    have Hcc := Lib.hid hcc
    have hHC := Lib.hid hc1
    have hbbb : bb ≠ b := by
      rintro rfl
      obtain ⟨arr, fz, e⟩ := hc1.2 (by omega) ⟨bb, off, none⟩ rfl
      exact noC_blk h1.blk (by decide) arr fz e
    clear hcc hc1 hc1d
    obtain ⟨A0, cap0, hv0⟩ := h1.row.val
    subst hv0
    have hsl := Lib.hid h1.sim.len
    have hLl : L.length ≤ 2000 := by rw [hsl.out]; exact hml
    have b0 : w1.cell? ⟨b, 0, none⟩ = some (.slice A0 L.length cap0) := h1.blk.cell 0
    have r1 : w1.cell? ⟨w.heap.size, 1, none⟩ = some (.slice (some ⟨bb, off, none⟩) r.cs.length cap) := hr1.cell 1
    have hval := Lib.hid (Rw.valid_chgs' HV.out)
    have FW1 : Fr [] w1 w1.drew := (Fr.refl _ _).drew
    have hLL : Sm.fitsGo s.M s.M.length r.cs = Sm.fitsGo s.M L.length (r.cs.drop 0) := by rw [hsl.out]; rfl
    have HLL := Lib.hid hLL
    clear hLL
    have hlr := hr1.lt
    go_wp2_with fail
    go_region
    go_wp2_with fail
    have h2 := h1.fr0 (Fr.refl [] w1).drew
    have hr2 := hr1.fr (Fr.refl [] w1).drew (by simp)
    have F2 : Fr [] w w1.drew := F1.drew
    have hcc2 := Lib.hid (fun i hi j hj => ((Fr.refl [] w1).drew.cell (p := ⟨bb, off + i * 10 + j, none⟩) hbb (by simp)).trans (Hcc.out i hi j hj))
    have hbb2 : bb < w1.drew.heap.size := hbb
    have hHC2 := Lib.hid (hHC.out.fr (Fr.refl [] w1).drew NoC.nil)
    generalize w1.drew = W2 at *
    clear h1 hr1 F1 b1 r0 b0 r1 FW1 hbb hlr hlb Hcc hHC
    have R0 : Fr [] W2 W2 := Fr.refl _ _
    go_loopw [6, 7] (fun nv i wr => ∃ (k : Nat) (n : Int), (nv = .int .i64 n ∧ i = .int .i64 k) ∧ k ≤ r.cs.length ∧ Hid (Sm.fitsGo s.M s.M.length r.cs = Sm.fitsGo s.M n (r.cs.drop k)) ∧ Fr [] W2 wr ∧ (-(k : Int) ≤ n ∧ n ≤ 2000 + k)) (fun _ i _ => r.cs.length - (intOf i).toNat)
    case atStart => exact ⟨0, _, ⟨rfl, rfl⟩, Nat.zero_le _, HLL, R0, by omega⟩
    case round =>
      clear R0
      obtain ⟨k, n, ⟨rfl, rfl⟩, hk, HGO, hf2, hn1, hn2⟩ := hrel
      have hr3 := hr2.fr hf2 (by simp)
      have r1 := hr3.cell 1
      have hlr := hr3.lt
      by_cases hlt : k < r.cs.length
      · have hck := Lib.hid (fun j hj => (hf2.cell (p := ⟨bb, off + k * 10 + j, none⟩) hbb2 (by simp)).trans (hcc2.out k hlt j hj))
        have hgo' : Sm.fitsGo s.M s.M.length r.cs = (Sm.meets s.M r.cs[k] && Sm.fitsGo s.M (Sm.grow n r.cs[k]) (r.cs.drop (k + 1))) := by
          rw [HGO.out, List.drop_eq_getElem_cons hlt]; rfl
        have HGN := Lib.hid hgo'
        have hcb := Rw.chg_bounds (hval.out _ (List.getElem_mem hlt))
        clear HGO hgo'
        generalize r.cs[k] = c at hck HGN hcb
        obtain ⟨t, kk, had, o0, o1, o2, has, n0, n1, n2⟩ := c
        dsimp only at hcb
        have c0 : wr.cell? ⟨bb, off + k * 10, none⟩ = some (.int .i64 t) := hck.out 0 (by decide)
        have c1 : wr.cell? ⟨bb, off + k * 10 + 1, none⟩ = some (.int .i64 kk) := hck.out 1 (by decide)
        have c2 : wr.cell? ⟨bb, off + k * 10 + 2, none⟩ = some (.bool had) := hck.out 2 (by decide)
        have c3 : wr.cell? ⟨bb, off + k * 10 + 3, none⟩ = some (.int .i64 o0) := hck.out 3 (by decide)
        have c4 : wr.cell? ⟨bb, off + k * 10 + 4, none⟩ = some (.int .i64 o1) := hck.out 4 (by decide)
        have c5 : wr.cell? ⟨bb, off + k * 10 + 5, none⟩ = some (.int .i64 o2) := hck.out 5 (by decide)
        have c6 : wr.cell? ⟨bb, off + k * 10 + 6, none⟩ = some (.bool has) := hck.out 6 (by decide)
        have c7 : wr.cell? ⟨bb, off + k * 10 + 7, none⟩ = some (.int .i64 n0) := hck.out 7 (by decide)
        have c8 : wr.cell? ⟨bb, off + k * 10 + 8, none⟩ = some (.int .i64 n1) := hck.out 8 (by decide)
        have c9 : wr.cell? ⟨bb, off + k * 10 + 9, none⟩ = some (.int .i64 n2) := hck.out 9 (by decide)
        clear hck
        have h3 := h2.fr0 hf2
        have hN0 := Blk.new wr 59 #[.int .i64 t, .int .i64 kk, .bool had, .int .i64 o0, .int .i64 o1, .int .i64 o2, .bool has, .int .i64 n0, .int .i64 n1, .int .i64 n2]
        have f4 : Fr [] wr (wr.alloc (.cells #[.int .i64 t, .int .i64 kk, .bool had, .int .i64 o0, .int .i64 o1, .int .i64 o2, .bool has, .int .i64 n0, .int .i64 n1, .int .i64 n2] 59)) := (Fr.refl _ _).alloc _
        go_wp2_with fail
        refine (rfget_any b _ L s t kk _ (h3.fr0 f4) (okI_mk (by omega) (by omega)) (okI_mk (by omega) (by omega))).mono ?_
        rintro e w5 ⟨rfl, f5⟩
        have F5 : Fr [] W2 w5 := hf2.trans (f4.trans f5)
        have hN := hN0.fr f5 (by simp)
        clear c0 c1 c2 c3 c4 c5 c6 c7 c8 c9 f4 f5 hN0 h3 r1 hlr hr3 hf2
        have c2 := hN.cell 2
        have c3 := hN.cell 3
        have c4 := hN.cell 4
        have c5 := hN.cell 5
        have c6 := hN.cell 6
        have hlN := hN.lt
        have HM : Hid (Sm.meets s.M ⟨t, kk, had, o0, o1, o2, has, n0, n1, n2⟩ = match mget s.M (idOf t kk) with
          | some r => had && decide (r.x = o0 ∧ r.y = o1 ∧ r.z = o2)
          | none => !had) := Lib.hid rfl
        have hqn := neq_v3
        have hqg := eqGuard_v3
        cases hg : mget s.M (idOf t kk) with
        | none =>
          have HM2 : Hid (Sm.meets s.M ⟨t, kk, had, o0, o1, o2, has, n0, n1, n2⟩ = !had) := Lib.hid (by rw [HM.out, hg])
          clear HM hg
          simp only [gotVal, Option.map_none, Option.getD_none, Option.isSome_none]
          cases had
          · cases has
            all_goals
              go_wp2_with fail
              go_roundw
              case rel => first
                | exact ⟨k + 1, n, ⟨rfl, by go_num⟩, by omega, Lib.hid (by rw [HGN.out, HM2.out]; simp [Sm.grow]), F5.alloc _, by omega, by omega⟩
                | exact ⟨k + 1, n + 1, ⟨rfl, by go_num⟩, by omega, Lib.hid (by rw [HGN.out, HM2.out]; simp [Sm.grow]), F5.alloc _, by omega, by omega⟩
              case measure => simp [intOf]; omega
          · have HFA := Lib.hid (HNO.out (by rw [HFF.out, HGN.out, HM2.out]; rfl) (w5.alloc (.cells #[.int .i64 0, .int .i64 0, .int .i64 0, .int .i64 0, .int .i64 0] 116)) (h2.fr0 (F5.alloc _)) (F2.trans (F5.alloc _)))
            go_wp2_with fail
            go_ret
            exact HFA.out
        | some u =>
          have HM2 : Hid (Sm.meets s.M ⟨t, kk, had, o0, o1, o2, has, n0, n1, n2⟩ = (had && decide (u.x = o0 ∧ u.y = o1 ∧ u.z = o2))) := Lib.hid (by rw [HM.out, hg])
          clear HM hg
          obtain ⟨ut, uk, ux, uy, uz⟩ := u
          simp only [gotVal, Option.map_some, Option.getD_some, Option.isSome_some, RowV.val]
          dsimp only at HM2
          have HE := Lib.hid (fun hff => HNO.out hff (w5.alloc (.cells #[.int .i64 ut, .int .i64 uk, .int .i64 ux, .int .i64 uy, .int .i64 uz] 116)) (h2.fr0 (F5.alloc _)) (F2.trans (F5.alloc _)))
          cases had
          · have HFA := Lib.hid (HE.out (by rw [HFF.out, HGN.out, HM2.out]; rfl))
            go_wp2_with fail
            go_ret
            exact HFA.out
          · have hq := neq_v3 ux uy uz o0 o1 o2
            by_cases he : ux = o0 ∧ uy = o1 ∧ uz = o2
            · rw [decide_eq_true he] at hq HM2
              clear he hqn
              cases has
              all_goals
                go_wp2_with fail
                go_roundw
                case rel => first
                  | exact ⟨k + 1, n, ⟨rfl, by go_num⟩, by omega, Lib.hid (by rw [HGN.out, HM2.out]; simp [Sm.grow]), F5.alloc _, by omega, by omega⟩
                  | exact ⟨k + 1, n - 1, ⟨rfl, by go_num⟩, by omega, Lib.hid (by rw [HGN.out, HM2.out]; simp [Sm.grow]), F5.alloc _, by omega, by omega⟩
                case measure => simp [intOf]; omega
            · rw [decide_eq_false he] at hq HM2
              have HFA := Lib.hid (HE.out (by rw [HFF.out, HGN.out, HM2.out]; rfl))
              clear he hqn
              go_wp2_with fail
              go_ret
              exact HFA.out
      · have hFA : Sm.fitsGo s.M s.M.length r.cs = decide (n ≤ 2000) := by
          rw [HGO.out, List.drop_of_length_le (by omega)]
          rfl
        have HFA := Lib.hid hFA
        clear HGO hFA
        have h3 := h2.fr0 hf2
        have F3 := F2.trans hf2
        have hHC3 := Lib.hid (hHC2.out.fr hf2 NoC.nil)
        clear hf2 hcc2 h2 hr2 hHC2 F2
        by_cases hn : 2000 < n
        · have HFB := Lib.hid (HNO.out (by rw [HFF.out, HFA.out]; simp; omega) wr h3 F3)
          go_wp2_with fail
          go_ret
          exact HFB.out
        · have HFT : Hid (Sm.fits s r = true) := Lib.hid (by rw [HFF.out, HFA.out]; simp; omega)
          have HAP2 : Hid (Sm.apply s r = ⟨r.cs.foldl Sm.put1 s.M, r.p⟩) := Lib.hid (by rw [HAP.out, if_pos HFT.out])
          have HCO2 : Hid (Sm.code s r = 0) := Lib.hid (by rw [HCO.out, if_pos HFT.out])
          have HMI := Lib.hid (HMID.out HFT.out)
          clear HAP HCO HMID HNO HFA HFF HF
          go_wp2_with fail
          obtain ⟨W3, hW3⟩ : ∃ W, W = wr := ⟨_, rfl⟩
          subst hW3
          have M0 : RfMid W3 W3 b s r.cs 0 (.slice A0 L.length cap0) L := ⟨h3.blk, h3.row, h3.sim, Fr.refl _ _⟩
          have HM0 := Lib.hid M0
          have nob : NoC W3 [b] := NoC.cons (noC_blk h3.blk (by decide)) NoC.nil
          have hwb : bb < W3.heap.size := by
            obtain ⟨bb', off', hA', hbb', _⟩ := hHC3.out.1 (by omega)
            cases hA'
            exact hbb'
          clear M0 h3 hlt hk hn1 hn2 hn
          go_loopw [11] (fun i wr => ∃ (k : Nat) (v : Value) (L' : List RowV), i = .int .i64 k ∧ k ≤ r.cs.length ∧ Hid (RfMid W3 wr b s r.cs k v L' ∧ ∀ g, v.ownBlock = some g → (Value.slice A0 L.length cap0).ownBlock = some g ∨ w.heap.size ≤ g)) (fun i _ => r.cs.length - (intOf i).toNat)
          case atStart => exact ⟨0, _, L, rfl, Nat.zero_le _, Lib.hid ⟨HM0.out, fun g hg => .inl hg⟩⟩
          case round =>
            clear HM0 r1 hlr
            obtain ⟨k, v, L', rfl, hk, HMM⟩ := hrel
            have hfq := HMM.out.1.fr
            have hr4 := hr3.fr hfq (by simpa using hbr.symm)
            have r1 := hr4.cell 1
            have hlr := hr4.lt
            by_cases hlt : k < r.cs.length
            · obtain ⟨A1, cap1, hv1⟩ := HMM.out.1.row.val
              subst hv1
              obtain ⟨mnd, mkey, mmeets, mlen⟩ := HMI.out k hlt
              have hchg := hval.out _ (List.getElem_mem hlt)
              have hcb := Rw.chg_bounds hchg
              have hL'l : L'.length ≤ 2010 := by rw [HMM.out.1.sim.len]; omega
              have hcq : ∀ j, j < 10 → wr.cell? ⟨bb, off + k * 10 + j, none⟩ = r.cs[k].cells[j]? := by
                obtain ⟨bb', off', e1, _, e2⟩ := (hHC3.out.fr hfq nob).1 (by omega)
                cases e1
                exact fun j hj => e2 k hlt j hj
              have hck := Lib.hid hcq
              clear hcq
              have htk : (r.cs.take (k + 1)).foldl Sm.put1 s.M = Sm.put1 ((r.cs.take k).foldl Sm.put1 s.M) r.cs[k] := by
                rw [List.take_succ_eq_append_getElem hlt, List.foldl_append]
                rfl
              have HTK := Lib.hid htk
              have HPUT := Lib.hid (fun n (hp : Sm.Plc L' r.cs[k].t r.cs[k].k n) => HMM.out.1.sim.put1 mnd mkey (c := r.cs[k]) (okI_mk (by omega) (by omega)) (okI_mk (by omega) (by omega)) hp mmeets)
              clear htk mnd mkey mmeets mlen hchg
              generalize r.cs[k] = c at hck HTK HPUT hcb
              obtain ⟨t, kk, had, o0, o1, o2, has, n0, n1, n2⟩ := c
              dsimp only at hcb HPUT
              have c0 : wr.cell? ⟨bb, off + k * 10, none⟩ = some (.int .i64 t) := hck.out 0 (by decide)
              have c1 : wr.cell? ⟨bb, off + k * 10 + 1, none⟩ = some (.int .i64 kk) := hck.out 1 (by decide)
              have c2 : wr.cell? ⟨bb, off + k * 10 + 2, none⟩ = some (.bool had) := hck.out 2 (by decide)
              have c3 : wr.cell? ⟨bb, off + k * 10 + 3, none⟩ = some (.int .i64 o0) := hck.out 3 (by decide)
              have c4 : wr.cell? ⟨bb, off + k * 10 + 4, none⟩ = some (.int .i64 o1) := hck.out 4 (by decide)
              have c5 : wr.cell? ⟨bb, off + k * 10 + 5, none⟩ = some (.int .i64 o2) := hck.out 5 (by decide)
              have c6 : wr.cell? ⟨bb, off + k * 10 + 6, none⟩ = some (.bool has) := hck.out 6 (by decide)
              have c7 : wr.cell? ⟨bb, off + k * 10 + 7, none⟩ = some (.int .i64 n0) := hck.out 7 (by decide)
              have c8 : wr.cell? ⟨bb, off + k * 10 + 8, none⟩ = some (.int .i64 n1) := hck.out 8 (by decide)
              have c9 : wr.cell? ⟨bb, off + k * 10 + 9, none⟩ = some (.int .i64 n2) := hck.out 9 (by decide)
              clear hck
              have hN0 := Blk.new wr 59 #[.int .i64 t, .int .i64 kk, .bool had, .int .i64 o0, .int .i64 o1, .int .i64 o2, .bool has, .int .i64 n0, .int .i64 n1, .int .i64 n2]
              have f4 : Fr [] wr (wr.alloc (.cells #[.int .i64 t, .int .i64 kk, .bool had, .int .i64 o0, .int .i64 o1, .int .i64 o2, .bool has, .int .i64 n0, .int .i64 n1, .int .i64 n2] 59)) := (Fr.refl _ _).alloc _
              have hb4 := HMM.out.1.blk.fr f4 (by simp)
              have hrw4 := HMM.out.1.row.fr f4 (by simp)
              go_wp2_with fail
              refine (place_any b A1 cap1 L' t kk _ (hb4.cell 0) hrw4 HMM.out.1.sim.srt (by omega)).mono ?_
              rintro e w' ⟨m, ⟨rfl, rfl⟩, hp⟩
              obtain ⟨hle, hsim⟩ := HPUT.out m hp
              have HSIM := Lib.hid hsim
              have hml' := hp.le
              clear HPUT hp hsim c0 c1 c2 c3 c4 c5 c6 c7 c8 c9
              have c0 := hN0.cell 0
              have c1 := hN0.cell 1
              have c2 := hN0.cell 2
              have c3 := hN0.cell 3
              have c4 := hN0.cell 4
              have c5 := hN0.cell 5
              have c6 := hN0.cell 6
              have c7 := hN0.cell 7
              have c8 := hN0.cell 8
              have c9 := hN0.cell 9
              have b0 := hb4.cell 0
              generalize wr.alloc (.cells #[.int .i64 t, .int .i64 kk, .bool had, .int .i64 o0, .int .i64 o1, .int .i64 o2, .bool has, .int .i64 n0, .int .i64 n1, .int .i64 n2] 59) = W5 at *
              have HAF := Lib.hid (rfAfter_any ⟨t, kk, had, o0, o1, o2, has, n0, n1, n2⟩ W5)
              unfold Chg.val rowVal at HAF
              have HMC := Lib.hid (fun v9 L9 w9 (hb9 : Blk w9 b 132 #[.slice A1 L'.length cap1, .int .i64 s.pos]) (hr9 : RowsOwn w9 v9 L9) (hs9 : Sm.Sim ((r.cs.take (k + 1)).foldl Sm.put1 s.M) L9) (hf9 : Fr [b] W3 w9) (hv9 : ∀ g, v9.ownBlock = some g → w.heap.size ≤ g) =>
                (show RfMid W3 (w9.setCell ⟨b, 0, none⟩ v9) b s r.cs (k + 1) v9 L9 ∧ ∀ g, v9.ownBlock = some g → (Value.slice A0 L.length cap0).ownBlock = some g ∨ w.heap.size ≤ g from
                  ⟨⟨by have h1 := hb9.set_ 0 v9; simpa using h1, hr9.fr (S := [b]) ((Fr.refl _ _).setCell (.inl (by simp)) _) (fun g hg => by simpa using hr9.ne hb9 (by decide) hg), hs9, hf9.setCell (.inl (by simp)) _⟩, fun g hg => .inr (hv9 g hg)⟩))
              have F5 : Fr [b] W3 W5 := hfq.trans (f4.mono (by simp))
              have hsz3 : w.heap.size ≤ W3.heap.size := F3.size
              have hsz5 : w.heap.size ≤ W5.heap.size := Nat.le_trans hsz3 F5.size
              obtain ⟨i0, TR⟩ := etRow
              clear f4 hN0 HMM hfq hr4
              have Hb4 := Lib.hid hb4
              have hRD := Lib.hid (hrw4.reads (A := A1) (n := L'.length) (cap := cap1) rfl)
              have hFM := Lib.hid (fun (h : 0 < L'.length) => hrw4.form RowV.cells_len h)
              have hcpl : L'.length ≤ cap1 := own_cap hrw4
              clear hb4 hrw4
              cases had
              · cases has
                · simp only [Bool.false_eq_true, if_false, Nat.add_zero, List.nil_append] at hle HSIM HAF
                  by_cases hq : m < L'.length
                  · obtain ⟨gR, cap', hA, hlc, hcm, hgl, hcell, hfz⟩ := hFM.out (by omega)
                    cases hA
                    clear hcell hfz hlc hcm hgl
                    have hDR := Lib.hid (hRD.out.from2 RowV.cells_len (k := m) (off := m * 5) (n := L'.length - m) (by omega) (by omega) (by omega))
                    have hTK := Lib.hid (hRD.out.takeL RowV.cells_len (k := m) (by omega))
                    have htl : Hid ((L'.take m).length = m) := Lib.hid (by rw [List.length_take]; omega)
                    have HS9 : Hid (Sm.Sim ((r.cs.take (k + 1)).foldl Sm.put1 s.M) ((L'.take m ++ ([] : List RowV)) ++ (L'.drop (m)))) := Lib.hid (by have h := HSIM.out; rw [← HTK.out] at h; simpa [List.append_assoc, Sm.after] using h)
                    have hcne : ¬ cap1 = m := by omega
                    have hmx : Hid ((2020 : Nat) ≤ maxLen) := Lib.hid (by decide)
                    have hn1 : Hid (([] : List RowV).length + (L'.take m).length ≤ 2020) := Lib.hid (by rw [htl.out, List.length_nil]; omega)
                    have hn2 : Hid ((L'.take m).length + ([] : List RowV).length ≤ 2020) := Lib.hid (by rw [htl.out]; simp; omega)
                    have hn3 : Hid ((L'.take m ++ ([] : List RowV)).length + (L'.drop (m)).length ≤ 2020) := Lib.hid (by rw [List.length_append, htl.out]; simp; omega)
                    clear HSIM HTK hRD hFM
                    go_wp2_with (first | (go_at_call 72; refine HAF.out.mono ?_; rintro e w6 ⟨rfl, f6⟩; have hb6 := Hb4.out.fr f6 (by simp); have b0' := hb6.cell 0; have hl6 := hb6.lt; have hs6 := f6.size; have HBA := Lib.hid (hb6.alloc (.cells #[.int .i64 0, .int .i64 0, .int .i64 0, .int .i64 0, .int .i64 0] 116)); have FA : Fr [] W5 (w6.alloc (.cells #[.int .i64 0, .int .i64 0, .int .i64 0, .int .i64 0, .int .i64 0] 116)) := f6.alloc (.cells #[.int .i64 0, .int .i64 0, .int .i64 0, .int .i64 0, .int .i64 0] 116); have HFA := Lib.hid FA; have hTKa := Lib.hid (hTK.out.fr (Nat.le_refl _) FA (by simp)); have hDRa := Lib.hid (hDR.out.fr (Nat.le_refl _) FA (by simp)); have hMDa := Lib.hid True.intro; clear f6 FA) | (at_builtin; first | (refine wpList_appendL rfl _ _ rfl TR RowV.cells_len RowV.cells_one rfl hrow8 _ _ _ _ (L'.drop (m)) rfl (by simp; try omega) hDR8.out (Nat.le_trans hn3.out hmx.out) (Nat.le_trans (Nat.mul_le_mul_right 40 hn3.out) (by decide)) ?_; intro v9 w9 hrow9 (hg9 : World.grownBy _ w9 (Value.slice A8 m8 cap8).ownBlock) (hat9 : v9.ownBlock = (Value.slice A8 m8 cap8).ownBlock ∨ v9.ownBlock = some w8.heap.size); have HB9 := Lib.hid (HB8.out.grown hg9 (fun e => hrow8.ne HB8.out (by decide) e.symm rfl)); have b09 := HB9.out.cell 0; have z09 := HB9.out.frozen 0; have hrb9 : Hid (∀ g, v9.ownBlock = some g → W5.heap.size ≤ g) := Lib.hid (own_fresh2 hrb8.out hat9 HG8.out.size); have HG9 := Lib.hid (HG8.out.grown hg9 (fun g hg => .inr (hrb8.out g hg))); have HR9 := Lib.hid hrow9; obtain ⟨A9, m9, cap9, hv9⟩ : ∃ A n c, v9 = .slice A n c := (match hrow9.val with | ⟨_, _, hv⟩ => ⟨_, _, _, hv⟩); subst hv9; clear hg9 hat9 hrow8 hrow9) | (refine wpList_appendL rfl _ _ rfl TR RowV.cells_len RowV.cells_one rfl hrow7 0 _ _ _ ([] : List RowV) rfl rfl Reads.none_ (Nat.le_trans hn2.out hmx.out) (Nat.le_trans (Nat.mul_le_mul_right 40 hn2.out) (by decide)) ?_; intro v8 w8 hrow8 (hg8 : World.grownBy _ w8 (Value.slice A7 m cap7).ownBlock) (hat8 : v8.ownBlock = (Value.slice A7 m cap7).ownBlock ∨ v8.ownBlock = some w7.heap.size); have HB8 := Lib.hid (HB7.out.grown hg8 (fun e => hrow7.ne HB7.out (by decide) e.symm rfl)); have b08 := HB8.out.cell 0; have hrb8 : Hid (∀ g, v8.ownBlock = some g → W5.heap.size ≤ g) := Lib.hid (own_fresh2 hrb7.out hat8 HG7.out.size); have HG8 := Lib.hid (HG7.out.grown hg8 (fun g hg => .inr (hrb7.out g hg))); have hDR8 := Lib.hid (hDR7.out.grown hg8 HG7.out.size hrb7.out); obtain ⟨A8, m8, cap8, hv8⟩ : ∃ A n c, v8 = .slice A n c := (match hrow8.val with | ⟨_, _, hv⟩ => ⟨_, _, _, hv⟩); subst hv8; clear hg8 hat8 hrow7) | (refine wpList_appendL rfl _ _ rfl TR RowV.cells_len RowV.cells_one rfl (OwnL.nil (X := RowV)) _ _ _ _ (L'.take m) rfl htl.out.symm hTKa.out (Nat.le_trans hn1.out hmx.out) (Nat.le_trans (Nat.mul_le_mul_right 40 hn1.out) (by decide)) ?_; intro v7 w7 hrow7 (hg7 : World.grownBy _ w7 none) hat7; rw [List.nil_append] at hrow7; have HB7 := Lib.hid (HBA.out.grown hg7 (by simp)); have b07 := HB7.out.cell 0; have hrb7 : Hid (∀ g, v7.ownBlock = some g → W5.heap.size ≤ g) := Lib.hid (own_fresh hat7 HFA.out.size); have HG7 := Lib.hid (HFA.out.grown hg7 (fun g hg => by cases hg)); have hDR7 := Lib.hid (hDRa.out.grown hg7 HFA.out.size (fun g hg => by cases hg));  obtain ⟨A7, cap7, hv7⟩ := hrow7.val; rw [htl.out] at hv7; subst hv7; clear hg7 hat7)))
                    go_roundw
                    case rel => exact ⟨k + 1, _, _, by go_num, by omega, Lib.hid (HMC.out _ _ _ HB9.out HR9.out HS9.out (F5.trans (HG9.out.mono (by simp))) (fun g hg => Nat.le_trans hsz5 (hrb9.out g hg)))⟩
                    case measure => simp [intOf]; omega
                  · have hDR := Lib.hid True.intro
                    have hTK := Lib.hid (hRD.out.takeL RowV.cells_len (k := m) (by omega))
                    have htl : Hid ((L'.take m).length = m) := Lib.hid (by rw [List.length_take]; omega)
                    have HS9 : Hid (Sm.Sim ((r.cs.take (k + 1)).foldl Sm.put1 s.M) ((L'.take m ++ ([] : List RowV)) ++ ([] : List RowV))) := Lib.hid (by have h := HSIM.out; rw [← HTK.out] at h; rw [List.drop_eq_nil_of_le (by omega)] at h; simpa [List.append_assoc, Sm.after] using h)
                    have hmx : Hid ((2020 : Nat) ≤ maxLen) := Lib.hid (by decide)
                    have hn1 : Hid (([] : List RowV).length + (L'.take m).length ≤ 2020) := Lib.hid (by rw [htl.out, List.length_nil]; omega)
                    have hn2 : Hid ((L'.take m).length + ([] : List RowV).length ≤ 2020) := Lib.hid (by rw [htl.out]; simp; omega)
                    have hn3 : Hid ((L'.take m ++ ([] : List RowV)).length + ([] : List RowV).length ≤ 2020) := Lib.hid (by rw [List.length_append, htl.out]; simp; omega)
                    clear HSIM HTK hRD hFM
                    go_wp2_with (first | (go_at_call 72; refine HAF.out.mono ?_; rintro e w6 ⟨rfl, f6⟩; have hb6 := Hb4.out.fr f6 (by simp); have b0' := hb6.cell 0; have hl6 := hb6.lt; have hs6 := f6.size; have HBA := Lib.hid (hb6.alloc (.cells #[.int .i64 0, .int .i64 0, .int .i64 0, .int .i64 0, .int .i64 0] 116)); have FA : Fr [] W5 (w6.alloc (.cells #[.int .i64 0, .int .i64 0, .int .i64 0, .int .i64 0, .int .i64 0] 116)) := f6.alloc (.cells #[.int .i64 0, .int .i64 0, .int .i64 0, .int .i64 0, .int .i64 0] 116); have HFA := Lib.hid FA; have hTKa := Lib.hid (hTK.out.fr (Nat.le_refl _) FA (by simp)); have hDRa := Lib.hid True.intro; have hMDa := Lib.hid True.intro; clear f6 FA) | (at_builtin; first | (refine wpList_appendL rfl _ _ rfl TR RowV.cells_len RowV.cells_one rfl hrow8 0 _ _ _ ([] : List RowV) rfl (by simp; try omega) (reads_none (by omega)) (Nat.le_trans hn3.out hmx.out) (Nat.le_trans (Nat.mul_le_mul_right 40 hn3.out) (by decide)) ?_; intro v9 w9 hrow9 (hg9 : World.grownBy _ w9 (Value.slice A8 m8 cap8).ownBlock) (hat9 : v9.ownBlock = (Value.slice A8 m8 cap8).ownBlock ∨ v9.ownBlock = some w8.heap.size); have HB9 := Lib.hid (HB8.out.grown hg9 (fun e => hrow8.ne HB8.out (by decide) e.symm rfl)); have b09 := HB9.out.cell 0; have z09 := HB9.out.frozen 0; have hrb9 : Hid (∀ g, v9.ownBlock = some g → W5.heap.size ≤ g) := Lib.hid (own_fresh2 hrb8.out hat9 HG8.out.size); have HG9 := Lib.hid (HG8.out.grown hg9 (fun g hg => .inr (hrb8.out g hg))); have HR9 := Lib.hid hrow9; obtain ⟨A9, m9, cap9, hv9⟩ : ∃ A n c, v9 = .slice A n c := (match hrow9.val with | ⟨_, _, hv⟩ => ⟨_, _, _, hv⟩); subst hv9; clear hg9 hat9 hrow8 hrow9) | (refine wpList_appendL rfl _ _ rfl TR RowV.cells_len RowV.cells_one rfl hrow7 0 _ _ _ ([] : List RowV) rfl rfl Reads.none_ (Nat.le_trans hn2.out hmx.out) (Nat.le_trans (Nat.mul_le_mul_right 40 hn2.out) (by decide)) ?_; intro v8 w8 hrow8 (hg8 : World.grownBy _ w8 (Value.slice A7 m cap7).ownBlock) (hat8 : v8.ownBlock = (Value.slice A7 m cap7).ownBlock ∨ v8.ownBlock = some w7.heap.size); have HB8 := Lib.hid (HB7.out.grown hg8 (fun e => hrow7.ne HB7.out (by decide) e.symm rfl)); have b08 := HB8.out.cell 0; have hrb8 : Hid (∀ g, v8.ownBlock = some g → W5.heap.size ≤ g) := Lib.hid (own_fresh2 hrb7.out hat8 HG7.out.size); have HG8 := Lib.hid (HG7.out.grown hg8 (fun g hg => .inr (hrb7.out g hg)));  obtain ⟨A8, m8, cap8, hv8⟩ : ∃ A n c, v8 = .slice A n c := (match hrow8.val with | ⟨_, _, hv⟩ => ⟨_, _, _, hv⟩); subst hv8; clear hg8 hat8 hrow7) | (refine wpList_appendL rfl _ _ rfl TR RowV.cells_len RowV.cells_one rfl (OwnL.nil (X := RowV)) _ _ _ _ (L'.take m) rfl htl.out.symm hTKa.out (Nat.le_trans hn1.out hmx.out) (Nat.le_trans (Nat.mul_le_mul_right 40 hn1.out) (by decide)) ?_; intro v7 w7 hrow7 (hg7 : World.grownBy _ w7 none) hat7; rw [List.nil_append] at hrow7; have HB7 := Lib.hid (HBA.out.grown hg7 (by simp)); have b07 := HB7.out.cell 0; have hrb7 : Hid (∀ g, v7.ownBlock = some g → W5.heap.size ≤ g) := Lib.hid (own_fresh hat7 HFA.out.size); have HG7 := Lib.hid (HFA.out.grown hg7 (fun g hg => by cases hg));   obtain ⟨A7, cap7, hv7⟩ := hrow7.val; rw [htl.out] at hv7; subst hv7; clear hg7 hat7)))
                    go_roundw
                    case rel => exact ⟨k + 1, _, _, by go_num, by omega, Lib.hid (HMC.out _ _ _ HB9.out HR9.out HS9.out (F5.trans (HG9.out.mono (by simp))) (fun g hg => Nat.le_trans hsz5 (hrb9.out g hg)))⟩
                    case measure => simp [intOf]; omega
                · simp only [Bool.false_eq_true, if_false, if_true, Nat.add_zero, List.nil_append, List.cons_append] at hle HSIM HAF
                  by_cases hq : m < L'.length
                  · obtain ⟨gR, cap', hA, hlc, hcm, hgl, hcell, hfz⟩ := hFM.out (by omega)
                    cases hA
                    clear hcell hfz hlc hcm hgl
                    have hDR := Lib.hid (hRD.out.from2 RowV.cells_len (k := m) (off := m * 5) (n := L'.length - m) (by omega) (by omega) (by omega))
                    have hTK := Lib.hid (hRD.out.takeL RowV.cells_len (k := m) (by omega))
                    have htl : Hid ((L'.take m).length = m) := Lib.hid (by rw [List.length_take]; omega)
                    have HS9 : Hid (Sm.Sim ((r.cs.take (k + 1)).foldl Sm.put1 s.M) ((L'.take m ++ [(⟨t, kk, n0, n1, n2⟩ : RowV)]) ++ (L'.drop (m)))) := Lib.hid (by have h := HSIM.out; rw [← HTK.out] at h; simpa [List.append_assoc, Sm.after] using h)
                    have hcne : ¬ cap1 = m := by omega
                    have hmx : Hid ((2020 : Nat) ≤ maxLen) := Lib.hid (by decide)
                    have hn1 : Hid (([] : List RowV).length + (L'.take m).length ≤ 2020) := Lib.hid (by rw [htl.out, List.length_nil]; omega)
                    have hn2 : Hid ((L'.take m).length + [(⟨t, kk, n0, n1, n2⟩ : RowV)].length ≤ 2020) := Lib.hid (by rw [htl.out]; simp; omega)
                    have hn3 : Hid ((L'.take m ++ [(⟨t, kk, n0, n1, n2⟩ : RowV)]).length + (L'.drop (m)).length ≤ 2020) := Lib.hid (by rw [List.length_append, htl.out]; simp; omega)
                    clear HSIM HTK hRD hFM
                    go_wp2_with (first | (go_at_call 72; refine HAF.out.mono ?_; rintro e w6 ⟨rfl, f6⟩; have hb6 := Hb4.out.fr f6 (by simp); have b0' := hb6.cell 0; have hl6 := hb6.lt; have hs6 := f6.size; have HBA := Lib.hid ((hb6.alloc (.cells #[.int .i64 t, .int .i64 kk, .int .i64 n0, .int .i64 n1, .int .i64 n2] 116)).alloc (.cells #[.int .i64 t, .int .i64 kk, .int .i64 n0, .int .i64 n1, .int .i64 n2] 116)); have FA : Fr [] W5 ((w6.alloc (.cells #[.int .i64 t, .int .i64 kk, .int .i64 n0, .int .i64 n1, .int .i64 n2] 116)).alloc (.cells #[.int .i64 t, .int .i64 kk, .int .i64 n0, .int .i64 n1, .int .i64 n2] 116)) := (f6.alloc (.cells #[.int .i64 t, .int .i64 kk, .int .i64 n0, .int .i64 n1, .int .i64 n2] 116)).alloc (.cells #[.int .i64 t, .int .i64 kk, .int .i64 n0, .int .i64 n1, .int .i64 n2] 116); have HFA := Lib.hid FA; have hTKa := Lib.hid (hTK.out.fr (Nat.le_refl _) FA (by simp)); have hDRa := Lib.hid (hDR.out.fr (Nat.le_refl _) FA (by simp)); have hMDa := Lib.hid (show Reads ((w6.alloc (.cells #[.int .i64 t, .int .i64 kk, .int .i64 n0, .int .i64 n1, .int .i64 n2] 116)).alloc (.cells #[.int .i64 t, .int .i64 kk, .int .i64 n0, .int .i64 n1, .int .i64 n2] 116)) (w6.heap.size + 1 + 1) 5 (some ⟨w6.heap.size + 1, 0, none⟩) 1 ([(⟨t, kk, n0, n1, n2⟩ : RowV)].flatMap RowV.cells) from by have h1 := reads_new (enc := RowV.cells) (w6.alloc (.cells #[.int .i64 t, .int .i64 kk, .int .i64 n0, .int .i64 n1, .int .i64 n2] 116)) 116 ⟨t, kk, n0, n1, n2⟩ rfl; rw [World.size_alloc] at h1; exact h1); clear f6 FA) | (at_builtin; first | (refine wpList_appendL rfl _ _ rfl TR RowV.cells_len RowV.cells_one rfl hrow8 _ _ _ _ (L'.drop (m)) rfl (by simp; try omega) hDR8.out (Nat.le_trans hn3.out hmx.out) (Nat.le_trans (Nat.mul_le_mul_right 40 hn3.out) (by decide)) ?_; intro v9 w9 hrow9 (hg9 : World.grownBy _ w9 (Value.slice A8 m8 cap8).ownBlock) (hat9 : v9.ownBlock = (Value.slice A8 m8 cap8).ownBlock ∨ v9.ownBlock = some w8.heap.size); have HB9 := Lib.hid (HB8.out.grown hg9 (fun e => hrow8.ne HB8.out (by decide) e.symm rfl)); have b09 := HB9.out.cell 0; have z09 := HB9.out.frozen 0; have hrb9 : Hid (∀ g, v9.ownBlock = some g → W5.heap.size ≤ g) := Lib.hid (own_fresh2 hrb8.out hat9 HG8.out.size); have HG9 := Lib.hid (HG8.out.grown hg9 (fun g hg => .inr (hrb8.out g hg))); have HR9 := Lib.hid hrow9; obtain ⟨A9, m9, cap9, hv9⟩ : ∃ A n c, v9 = .slice A n c := (match hrow9.val with | ⟨_, _, hv⟩ => ⟨_, _, _, hv⟩); subst hv9; clear hg9 hat9 hrow8 hrow9) | (refine wpList_appendL rfl _ _ rfl TR RowV.cells_len RowV.cells_one rfl hrow7 _ _ _ _ [(⟨t, kk, n0, n1, n2⟩ : RowV)] rfl rfl hMD7.out (Nat.le_trans hn2.out hmx.out) (Nat.le_trans (Nat.mul_le_mul_right 40 hn2.out) (by decide)) ?_; intro v8 w8 hrow8 (hg8 : World.grownBy _ w8 (Value.slice A7 m cap7).ownBlock) (hat8 : v8.ownBlock = (Value.slice A7 m cap7).ownBlock ∨ v8.ownBlock = some w7.heap.size); have HB8 := Lib.hid (HB7.out.grown hg8 (fun e => hrow7.ne HB7.out (by decide) e.symm rfl)); have b08 := HB8.out.cell 0; have hrb8 : Hid (∀ g, v8.ownBlock = some g → W5.heap.size ≤ g) := Lib.hid (own_fresh2 hrb7.out hat8 HG7.out.size); have HG8 := Lib.hid (HG7.out.grown hg8 (fun g hg => .inr (hrb7.out g hg))); have hDR8 := Lib.hid (hDR7.out.grown hg8 HG7.out.size hrb7.out); obtain ⟨A8, m8, cap8, hv8⟩ : ∃ A n c, v8 = .slice A n c := (match hrow8.val with | ⟨_, _, hv⟩ => ⟨_, _, _, hv⟩); subst hv8; clear hg8 hat8 hrow7) | (refine wpList_appendL rfl _ _ rfl TR RowV.cells_len RowV.cells_one rfl (OwnL.nil (X := RowV)) _ _ _ _ (L'.take m) rfl htl.out.symm hTKa.out (Nat.le_trans hn1.out hmx.out) (Nat.le_trans (Nat.mul_le_mul_right 40 hn1.out) (by decide)) ?_; intro v7 w7 hrow7 (hg7 : World.grownBy _ w7 none) hat7; rw [List.nil_append] at hrow7; have HB7 := Lib.hid (HBA.out.grown hg7 (by simp)); have b07 := HB7.out.cell 0; have hrb7 : Hid (∀ g, v7.ownBlock = some g → W5.heap.size ≤ g) := Lib.hid (own_fresh hat7 HFA.out.size); have HG7 := Lib.hid (HFA.out.grown hg7 (fun g hg => by cases hg)); have hDR7 := Lib.hid (hDRa.out.grown hg7 HFA.out.size (fun g hg => by cases hg)); have hMD7 := Lib.hid (hMDa.out.grown hg7 (by simp) (fun g hg => by cases hg)); obtain ⟨A7, cap7, hv7⟩ := hrow7.val; rw [htl.out] at hv7; subst hv7; clear hg7 hat7)))
                    go_roundw
                    case rel => exact ⟨k + 1, _, _, by go_num, by omega, Lib.hid (HMC.out _ _ _ HB9.out HR9.out HS9.out (F5.trans (HG9.out.mono (by simp))) (fun g hg => Nat.le_trans hsz5 (hrb9.out g hg)))⟩
                    case measure => simp [intOf]; omega
                  · have hDR := Lib.hid True.intro
                    have hTK := Lib.hid (hRD.out.takeL RowV.cells_len (k := m) (by omega))
                    have htl : Hid ((L'.take m).length = m) := Lib.hid (by rw [List.length_take]; omega)
                    have HS9 : Hid (Sm.Sim ((r.cs.take (k + 1)).foldl Sm.put1 s.M) ((L'.take m ++ [(⟨t, kk, n0, n1, n2⟩ : RowV)]) ++ ([] : List RowV))) := Lib.hid (by have h := HSIM.out; rw [← HTK.out] at h; rw [List.drop_eq_nil_of_le (by omega)] at h; simpa [List.append_assoc, Sm.after] using h)
                    have hmx : Hid ((2020 : Nat) ≤ maxLen) := Lib.hid (by decide)
                    have hn1 : Hid (([] : List RowV).length + (L'.take m).length ≤ 2020) := Lib.hid (by rw [htl.out, List.length_nil]; omega)
                    have hn2 : Hid ((L'.take m).length + [(⟨t, kk, n0, n1, n2⟩ : RowV)].length ≤ 2020) := Lib.hid (by rw [htl.out]; simp; omega)
                    have hn3 : Hid ((L'.take m ++ [(⟨t, kk, n0, n1, n2⟩ : RowV)]).length + ([] : List RowV).length ≤ 2020) := Lib.hid (by rw [List.length_append, htl.out]; simp; omega)
                    clear HSIM HTK hRD hFM
                    go_wp2_with (first | (go_at_call 72; refine HAF.out.mono ?_; rintro e w6 ⟨rfl, f6⟩; have hb6 := Hb4.out.fr f6 (by simp); have b0' := hb6.cell 0; have hl6 := hb6.lt; have hs6 := f6.size; have HBA := Lib.hid ((hb6.alloc (.cells #[.int .i64 t, .int .i64 kk, .int .i64 n0, .int .i64 n1, .int .i64 n2] 116)).alloc (.cells #[.int .i64 t, .int .i64 kk, .int .i64 n0, .int .i64 n1, .int .i64 n2] 116)); have FA : Fr [] W5 ((w6.alloc (.cells #[.int .i64 t, .int .i64 kk, .int .i64 n0, .int .i64 n1, .int .i64 n2] 116)).alloc (.cells #[.int .i64 t, .int .i64 kk, .int .i64 n0, .int .i64 n1, .int .i64 n2] 116)) := (f6.alloc (.cells #[.int .i64 t, .int .i64 kk, .int .i64 n0, .int .i64 n1, .int .i64 n2] 116)).alloc (.cells #[.int .i64 t, .int .i64 kk, .int .i64 n0, .int .i64 n1, .int .i64 n2] 116); have HFA := Lib.hid FA; have hTKa := Lib.hid (hTK.out.fr (Nat.le_refl _) FA (by simp)); have hDRa := Lib.hid True.intro; have hMDa := Lib.hid (show Reads ((w6.alloc (.cells #[.int .i64 t, .int .i64 kk, .int .i64 n0, .int .i64 n1, .int .i64 n2] 116)).alloc (.cells #[.int .i64 t, .int .i64 kk, .int .i64 n0, .int .i64 n1, .int .i64 n2] 116)) (w6.heap.size + 1 + 1) 5 (some ⟨w6.heap.size + 1, 0, none⟩) 1 ([(⟨t, kk, n0, n1, n2⟩ : RowV)].flatMap RowV.cells) from by have h1 := reads_new (enc := RowV.cells) (w6.alloc (.cells #[.int .i64 t, .int .i64 kk, .int .i64 n0, .int .i64 n1, .int .i64 n2] 116)) 116 ⟨t, kk, n0, n1, n2⟩ rfl; rw [World.size_alloc] at h1; exact h1); clear f6 FA) | (at_builtin; first | (refine wpList_appendL rfl _ _ rfl TR RowV.cells_len RowV.cells_one rfl hrow8 0 _ _ _ ([] : List RowV) rfl (by simp; try omega) (reads_none (by omega)) (Nat.le_trans hn3.out hmx.out) (Nat.le_trans (Nat.mul_le_mul_right 40 hn3.out) (by decide)) ?_; intro v9 w9 hrow9 (hg9 : World.grownBy _ w9 (Value.slice A8 m8 cap8).ownBlock) (hat9 : v9.ownBlock = (Value.slice A8 m8 cap8).ownBlock ∨ v9.ownBlock = some w8.heap.size); have HB9 := Lib.hid (HB8.out.grown hg9 (fun e => hrow8.ne HB8.out (by decide) e.symm rfl)); have b09 := HB9.out.cell 0; have z09 := HB9.out.frozen 0; have hrb9 : Hid (∀ g, v9.ownBlock = some g → W5.heap.size ≤ g) := Lib.hid (own_fresh2 hrb8.out hat9 HG8.out.size); have HG9 := Lib.hid (HG8.out.grown hg9 (fun g hg => .inr (hrb8.out g hg))); have HR9 := Lib.hid hrow9; obtain ⟨A9, m9, cap9, hv9⟩ : ∃ A n c, v9 = .slice A n c := (match hrow9.val with | ⟨_, _, hv⟩ => ⟨_, _, _, hv⟩); subst hv9; clear hg9 hat9 hrow8 hrow9) | (refine wpList_appendL rfl _ _ rfl TR RowV.cells_len RowV.cells_one rfl hrow7 _ _ _ _ [(⟨t, kk, n0, n1, n2⟩ : RowV)] rfl rfl hMD7.out (Nat.le_trans hn2.out hmx.out) (Nat.le_trans (Nat.mul_le_mul_right 40 hn2.out) (by decide)) ?_; intro v8 w8 hrow8 (hg8 : World.grownBy _ w8 (Value.slice A7 m cap7).ownBlock) (hat8 : v8.ownBlock = (Value.slice A7 m cap7).ownBlock ∨ v8.ownBlock = some w7.heap.size); have HB8 := Lib.hid (HB7.out.grown hg8 (fun e => hrow7.ne HB7.out (by decide) e.symm rfl)); have b08 := HB8.out.cell 0; have hrb8 : Hid (∀ g, v8.ownBlock = some g → W5.heap.size ≤ g) := Lib.hid (own_fresh2 hrb7.out hat8 HG7.out.size); have HG8 := Lib.hid (HG7.out.grown hg8 (fun g hg => .inr (hrb7.out g hg)));  obtain ⟨A8, m8, cap8, hv8⟩ : ∃ A n c, v8 = .slice A n c := (match hrow8.val with | ⟨_, _, hv⟩ => ⟨_, _, _, hv⟩); subst hv8; clear hg8 hat8 hrow7) | (refine wpList_appendL rfl _ _ rfl TR RowV.cells_len RowV.cells_one rfl (OwnL.nil (X := RowV)) _ _ _ _ (L'.take m) rfl htl.out.symm hTKa.out (Nat.le_trans hn1.out hmx.out) (Nat.le_trans (Nat.mul_le_mul_right 40 hn1.out) (by decide)) ?_; intro v7 w7 hrow7 (hg7 : World.grownBy _ w7 none) hat7; rw [List.nil_append] at hrow7; have HB7 := Lib.hid (HBA.out.grown hg7 (by simp)); have b07 := HB7.out.cell 0; have hrb7 : Hid (∀ g, v7.ownBlock = some g → W5.heap.size ≤ g) := Lib.hid (own_fresh hat7 HFA.out.size); have HG7 := Lib.hid (HFA.out.grown hg7 (fun g hg => by cases hg));  have hMD7 := Lib.hid (hMDa.out.grown hg7 (by simp) (fun g hg => by cases hg)); obtain ⟨A7, cap7, hv7⟩ := hrow7.val; rw [htl.out] at hv7; subst hv7; clear hg7 hat7)))
                    go_roundw
                    case rel => exact ⟨k + 1, _, _, by go_num, by omega, Lib.hid (HMC.out _ _ _ HB9.out HR9.out HS9.out (F5.trans (HG9.out.mono (by simp))) (fun g hg => Nat.le_trans hsz5 (hrb9.out g hg)))⟩
                    case measure => simp [intOf]; omega
              · cases has
                · simp only [Bool.false_eq_true, if_false, if_true, List.nil_append] at hle HSIM HAF
                  by_cases hq : m + 1 < L'.length
                  · obtain ⟨gR, cap', hA, hlc, hcm, hgl, hcell, hfz⟩ := hFM.out (by omega)
                    cases hA
                    clear hcell hfz hlc hcm hgl
                    have hDR := Lib.hid (hRD.out.from2 RowV.cells_len (k := m + 1) (off := m * 5 + 5) (n := L'.length - m - 1) (by omega) (by omega) (by omega))
                    have hTK := Lib.hid (hRD.out.takeL RowV.cells_len (k := m) (by omega))
                    have htl : Hid ((L'.take m).length = m) := Lib.hid (by rw [List.length_take]; omega)
                    have HS9 : Hid (Sm.Sim ((r.cs.take (k + 1)).foldl Sm.put1 s.M) ((L'.take m ++ ([] : List RowV)) ++ (L'.drop (m + 1)))) := Lib.hid (by have h := HSIM.out; rw [← HTK.out] at h; simpa [List.append_assoc, Sm.after] using h)
                    have hcne : ¬ cap1 = m := by omega
                    have hcne2 : ¬ cap1 - m = 1 := by omega
                    have hmx : Hid ((2020 : Nat) ≤ maxLen) := Lib.hid (by decide)
                    have hn1 : Hid (([] : List RowV).length + (L'.take m).length ≤ 2020) := Lib.hid (by rw [htl.out, List.length_nil]; omega)
                    have hn2 : Hid ((L'.take m).length + ([] : List RowV).length ≤ 2020) := Lib.hid (by rw [htl.out]; simp; omega)
                    have hn3 : Hid ((L'.take m ++ ([] : List RowV)).length + (L'.drop (m + 1)).length ≤ 2020) := Lib.hid (by rw [List.length_append, htl.out]; simp; omega)
                    clear HSIM HTK hRD hFM
                    go_wp2_with (first | (go_at_call 72; refine HAF.out.mono ?_; rintro e w6 ⟨rfl, f6⟩; have hb6 := Hb4.out.fr f6 (by simp); have b0' := hb6.cell 0; have hl6 := hb6.lt; have hs6 := f6.size; have HBA := Lib.hid (hb6.alloc (.cells #[.int .i64 0, .int .i64 0, .int .i64 0, .int .i64 0, .int .i64 0] 116)); have FA : Fr [] W5 (w6.alloc (.cells #[.int .i64 0, .int .i64 0, .int .i64 0, .int .i64 0, .int .i64 0] 116)) := f6.alloc (.cells #[.int .i64 0, .int .i64 0, .int .i64 0, .int .i64 0, .int .i64 0] 116); have HFA := Lib.hid FA; have hTKa := Lib.hid (hTK.out.fr (Nat.le_refl _) FA (by simp)); have hDRa := Lib.hid (hDR.out.fr (Nat.le_refl _) FA (by simp)); have hMDa := Lib.hid True.intro; clear f6 FA) | (at_builtin; first | (refine wpList_appendL rfl _ _ rfl TR RowV.cells_len RowV.cells_one rfl hrow8 _ _ _ _ (L'.drop (m + 1)) rfl (by simp; try omega) hDR8.out (Nat.le_trans hn3.out hmx.out) (Nat.le_trans (Nat.mul_le_mul_right 40 hn3.out) (by decide)) ?_; intro v9 w9 hrow9 (hg9 : World.grownBy _ w9 (Value.slice A8 m8 cap8).ownBlock) (hat9 : v9.ownBlock = (Value.slice A8 m8 cap8).ownBlock ∨ v9.ownBlock = some w8.heap.size); have HB9 := Lib.hid (HB8.out.grown hg9 (fun e => hrow8.ne HB8.out (by decide) e.symm rfl)); have b09 := HB9.out.cell 0; have z09 := HB9.out.frozen 0; have hrb9 : Hid (∀ g, v9.ownBlock = some g → W5.heap.size ≤ g) := Lib.hid (own_fresh2 hrb8.out hat9 HG8.out.size); have HG9 := Lib.hid (HG8.out.grown hg9 (fun g hg => .inr (hrb8.out g hg))); have HR9 := Lib.hid hrow9; obtain ⟨A9, m9, cap9, hv9⟩ : ∃ A n c, v9 = .slice A n c := (match hrow9.val with | ⟨_, _, hv⟩ => ⟨_, _, _, hv⟩); subst hv9; clear hg9 hat9 hrow8 hrow9) | (refine wpList_appendL rfl _ _ rfl TR RowV.cells_len RowV.cells_one rfl hrow7 0 _ _ _ ([] : List RowV) rfl rfl Reads.none_ (Nat.le_trans hn2.out hmx.out) (Nat.le_trans (Nat.mul_le_mul_right 40 hn2.out) (by decide)) ?_; intro v8 w8 hrow8 (hg8 : World.grownBy _ w8 (Value.slice A7 m cap7).ownBlock) (hat8 : v8.ownBlock = (Value.slice A7 m cap7).ownBlock ∨ v8.ownBlock = some w7.heap.size); have HB8 := Lib.hid (HB7.out.grown hg8 (fun e => hrow7.ne HB7.out (by decide) e.symm rfl)); have b08 := HB8.out.cell 0; have hrb8 : Hid (∀ g, v8.ownBlock = some g → W5.heap.size ≤ g) := Lib.hid (own_fresh2 hrb7.out hat8 HG7.out.size); have HG8 := Lib.hid (HG7.out.grown hg8 (fun g hg => .inr (hrb7.out g hg))); have hDR8 := Lib.hid (hDR7.out.grown hg8 HG7.out.size hrb7.out); obtain ⟨A8, m8, cap8, hv8⟩ : ∃ A n c, v8 = .slice A n c := (match hrow8.val with | ⟨_, _, hv⟩ => ⟨_, _, _, hv⟩); subst hv8; clear hg8 hat8 hrow7) | (refine wpList_appendL rfl _ _ rfl TR RowV.cells_len RowV.cells_one rfl (OwnL.nil (X := RowV)) _ _ _ _ (L'.take m) rfl htl.out.symm hTKa.out (Nat.le_trans hn1.out hmx.out) (Nat.le_trans (Nat.mul_le_mul_right 40 hn1.out) (by decide)) ?_; intro v7 w7 hrow7 (hg7 : World.grownBy _ w7 none) hat7; rw [List.nil_append] at hrow7; have HB7 := Lib.hid (HBA.out.grown hg7 (by simp)); have b07 := HB7.out.cell 0; have hrb7 : Hid (∀ g, v7.ownBlock = some g → W5.heap.size ≤ g) := Lib.hid (own_fresh hat7 HFA.out.size); have HG7 := Lib.hid (HFA.out.grown hg7 (fun g hg => by cases hg)); have hDR7 := Lib.hid (hDRa.out.grown hg7 HFA.out.size (fun g hg => by cases hg));  obtain ⟨A7, cap7, hv7⟩ := hrow7.val; rw [htl.out] at hv7; subst hv7; clear hg7 hat7)))
                    go_roundw
                    case rel => exact ⟨k + 1, _, _, by go_num, by omega, Lib.hid (HMC.out _ _ _ HB9.out HR9.out HS9.out (F5.trans (HG9.out.mono (by simp))) (fun g hg => Nat.le_trans hsz5 (hrb9.out g hg)))⟩
                    case measure => simp [intOf]; omega
                  · obtain ⟨gR, cap', hA, hlc, hcm, hgl, hcell, hfz⟩ := hFM.out (by omega)
                    cases hA
                    clear hcell hfz hlc hcm hgl
                    have hDR := Lib.hid True.intro
                    have hTK := Lib.hid (hRD.out.takeL RowV.cells_len (k := m) (by omega))
                    have htl : Hid ((L'.take m).length = m) := Lib.hid (by rw [List.length_take]; omega)
                    have HS9 : Hid (Sm.Sim ((r.cs.take (k + 1)).foldl Sm.put1 s.M) ((L'.take m ++ ([] : List RowV)) ++ ([] : List RowV))) := Lib.hid (by have h := HSIM.out; rw [← HTK.out] at h; rw [List.drop_eq_nil_of_le (by omega)] at h; simpa [List.append_assoc, Sm.after] using h)
                    have hcne : ¬ cap1 = m := by omega
                    have hmx : Hid ((2020 : Nat) ≤ maxLen) := Lib.hid (by decide)
                    have hn1 : Hid (([] : List RowV).length + (L'.take m).length ≤ 2020) := Lib.hid (by rw [htl.out, List.length_nil]; omega)
                    have hn2 : Hid ((L'.take m).length + ([] : List RowV).length ≤ 2020) := Lib.hid (by rw [htl.out]; simp; omega)
                    have hn3 : Hid ((L'.take m ++ ([] : List RowV)).length + ([] : List RowV).length ≤ 2020) := Lib.hid (by rw [List.length_append, htl.out]; simp; omega)
                    clear HSIM HTK hRD hFM
                    go_wp2_with (first | (go_at_call 72; refine HAF.out.mono ?_; rintro e w6 ⟨rfl, f6⟩; have hb6 := Hb4.out.fr f6 (by simp); have b0' := hb6.cell 0; have hl6 := hb6.lt; have hs6 := f6.size; have HBA := Lib.hid (hb6.alloc (.cells #[.int .i64 0, .int .i64 0, .int .i64 0, .int .i64 0, .int .i64 0] 116)); have FA : Fr [] W5 (w6.alloc (.cells #[.int .i64 0, .int .i64 0, .int .i64 0, .int .i64 0, .int .i64 0] 116)) := f6.alloc (.cells #[.int .i64 0, .int .i64 0, .int .i64 0, .int .i64 0, .int .i64 0] 116); have HFA := Lib.hid FA; have hTKa := Lib.hid (hTK.out.fr (Nat.le_refl _) FA (by simp)); have hDRa := Lib.hid True.intro; have hMDa := Lib.hid True.intro; clear f6 FA) | (at_builtin; first | (refine wpList_appendL rfl _ _ rfl TR RowV.cells_len RowV.cells_one rfl hrow8 0 _ _ _ ([] : List RowV) rfl (by simp; try omega) (reads_none (by omega)) (Nat.le_trans hn3.out hmx.out) (Nat.le_trans (Nat.mul_le_mul_right 40 hn3.out) (by decide)) ?_; intro v9 w9 hrow9 (hg9 : World.grownBy _ w9 (Value.slice A8 m8 cap8).ownBlock) (hat9 : v9.ownBlock = (Value.slice A8 m8 cap8).ownBlock ∨ v9.ownBlock = some w8.heap.size); have HB9 := Lib.hid (HB8.out.grown hg9 (fun e => hrow8.ne HB8.out (by decide) e.symm rfl)); have b09 := HB9.out.cell 0; have z09 := HB9.out.frozen 0; have hrb9 : Hid (∀ g, v9.ownBlock = some g → W5.heap.size ≤ g) := Lib.hid (own_fresh2 hrb8.out hat9 HG8.out.size); have HG9 := Lib.hid (HG8.out.grown hg9 (fun g hg => .inr (hrb8.out g hg))); have HR9 := Lib.hid hrow9; obtain ⟨A9, m9, cap9, hv9⟩ : ∃ A n c, v9 = .slice A n c := (match hrow9.val with | ⟨_, _, hv⟩ => ⟨_, _, _, hv⟩); subst hv9; clear hg9 hat9 hrow8 hrow9) | (refine wpList_appendL rfl _ _ rfl TR RowV.cells_len RowV.cells_one rfl hrow7 0 _ _ _ ([] : List RowV) rfl rfl Reads.none_ (Nat.le_trans hn2.out hmx.out) (Nat.le_trans (Nat.mul_le_mul_right 40 hn2.out) (by decide)) ?_; intro v8 w8 hrow8 (hg8 : World.grownBy _ w8 (Value.slice A7 m cap7).ownBlock) (hat8 : v8.ownBlock = (Value.slice A7 m cap7).ownBlock ∨ v8.ownBlock = some w7.heap.size); have HB8 := Lib.hid (HB7.out.grown hg8 (fun e => hrow7.ne HB7.out (by decide) e.symm rfl)); have b08 := HB8.out.cell 0; have hrb8 : Hid (∀ g, v8.ownBlock = some g → W5.heap.size ≤ g) := Lib.hid (own_fresh2 hrb7.out hat8 HG7.out.size); have HG8 := Lib.hid (HG7.out.grown hg8 (fun g hg => .inr (hrb7.out g hg)));  obtain ⟨A8, m8, cap8, hv8⟩ : ∃ A n c, v8 = .slice A n c := (match hrow8.val with | ⟨_, _, hv⟩ => ⟨_, _, _, hv⟩); subst hv8; clear hg8 hat8 hrow7) | (refine wpList_appendL rfl _ _ rfl TR RowV.cells_len RowV.cells_one rfl (OwnL.nil (X := RowV)) _ _ _ _ (L'.take m) rfl htl.out.symm hTKa.out (Nat.le_trans hn1.out hmx.out) (Nat.le_trans (Nat.mul_le_mul_right 40 hn1.out) (by decide)) ?_; intro v7 w7 hrow7 (hg7 : World.grownBy _ w7 none) hat7; rw [List.nil_append] at hrow7; have HB7 := Lib.hid (HBA.out.grown hg7 (by simp)); have b07 := HB7.out.cell 0; have hrb7 : Hid (∀ g, v7.ownBlock = some g → W5.heap.size ≤ g) := Lib.hid (own_fresh hat7 HFA.out.size); have HG7 := Lib.hid (HFA.out.grown hg7 (fun g hg => by cases hg));   obtain ⟨A7, cap7, hv7⟩ := hrow7.val; rw [htl.out] at hv7; subst hv7; clear hg7 hat7)))
                    go_roundw
                    case rel => exact ⟨k + 1, _, _, by go_num, by omega, Lib.hid (HMC.out _ _ _ HB9.out HR9.out HS9.out (F5.trans (HG9.out.mono (by simp))) (fun g hg => Nat.le_trans hsz5 (hrb9.out g hg)))⟩
                    case measure => simp [intOf]; omega
                · simp only [if_true, List.nil_append, List.cons_append] at hle HSIM HAF
                  by_cases hq : m + 1 < L'.length
                  · obtain ⟨gR, cap', hA, hlc, hcm, hgl, hcell, hfz⟩ := hFM.out (by omega)
                    cases hA
                    clear hcell hfz hlc hcm hgl
                    have hDR := Lib.hid (hRD.out.from2 RowV.cells_len (k := m + 1) (off := m * 5 + 5) (n := L'.length - m - 1) (by omega) (by omega) (by omega))
                    have hTK := Lib.hid (hRD.out.takeL RowV.cells_len (k := m) (by omega))
                    have htl : Hid ((L'.take m).length = m) := Lib.hid (by rw [List.length_take]; omega)
                    have HS9 : Hid (Sm.Sim ((r.cs.take (k + 1)).foldl Sm.put1 s.M) ((L'.take m ++ [(⟨t, kk, n0, n1, n2⟩ : RowV)]) ++ (L'.drop (m + 1)))) := Lib.hid (by have h := HSIM.out; rw [← HTK.out] at h; simpa [List.append_assoc, Sm.after] using h)
                    have hcne : ¬ cap1 = m := by omega
                    have hcne2 : ¬ cap1 - m = 1 := by omega
                    have hmx : Hid ((2020 : Nat) ≤ maxLen) := Lib.hid (by decide)
                    have hn1 : Hid (([] : List RowV).length + (L'.take m).length ≤ 2020) := Lib.hid (by rw [htl.out, List.length_nil]; omega)
                    have hn2 : Hid ((L'.take m).length + [(⟨t, kk, n0, n1, n2⟩ : RowV)].length ≤ 2020) := Lib.hid (by rw [htl.out]; simp; omega)
                    have hn3 : Hid ((L'.take m ++ [(⟨t, kk, n0, n1, n2⟩ : RowV)]).length + (L'.drop (m + 1)).length ≤ 2020) := Lib.hid (by rw [List.length_append, htl.out]; simp; omega)
                    clear HSIM HTK hRD hFM
                    go_wp2_with (first | (go_at_call 72; refine HAF.out.mono ?_; rintro e w6 ⟨rfl, f6⟩; have hb6 := Hb4.out.fr f6 (by simp); have b0' := hb6.cell 0; have hl6 := hb6.lt; have hs6 := f6.size; have HBA := Lib.hid ((hb6.alloc (.cells #[.int .i64 t, .int .i64 kk, .int .i64 n0, .int .i64 n1, .int .i64 n2] 116)).alloc (.cells #[.int .i64 t, .int .i64 kk, .int .i64 n0, .int .i64 n1, .int .i64 n2] 116)); have FA : Fr [] W5 ((w6.alloc (.cells #[.int .i64 t, .int .i64 kk, .int .i64 n0, .int .i64 n1, .int .i64 n2] 116)).alloc (.cells #[.int .i64 t, .int .i64 kk, .int .i64 n0, .int .i64 n1, .int .i64 n2] 116)) := (f6.alloc (.cells #[.int .i64 t, .int .i64 kk, .int .i64 n0, .int .i64 n1, .int .i64 n2] 116)).alloc (.cells #[.int .i64 t, .int .i64 kk, .int .i64 n0, .int .i64 n1, .int .i64 n2] 116); have HFA := Lib.hid FA; have hTKa := Lib.hid (hTK.out.fr (Nat.le_refl _) FA (by simp)); have hDRa := Lib.hid (hDR.out.fr (Nat.le_refl _) FA (by simp)); have hMDa := Lib.hid (show Reads ((w6.alloc (.cells #[.int .i64 t, .int .i64 kk, .int .i64 n0, .int .i64 n1, .int .i64 n2] 116)).alloc (.cells #[.int .i64 t, .int .i64 kk, .int .i64 n0, .int .i64 n1, .int .i64 n2] 116)) (w6.heap.size + 1 + 1) 5 (some ⟨w6.heap.size + 1, 0, none⟩) 1 ([(⟨t, kk, n0, n1, n2⟩ : RowV)].flatMap RowV.cells) from by have h1 := reads_new (enc := RowV.cells) (w6.alloc (.cells #[.int .i64 t, .int .i64 kk, .int .i64 n0, .int .i64 n1, .int .i64 n2] 116)) 116 ⟨t, kk, n0, n1, n2⟩ rfl; rw [World.size_alloc] at h1; exact h1); clear f6 FA) | (at_builtin; first | (refine wpList_appendL rfl _ _ rfl TR RowV.cells_len RowV.cells_one rfl hrow8 _ _ _ _ (L'.drop (m + 1)) rfl (by simp; try omega) hDR8.out (Nat.le_trans hn3.out hmx.out) (Nat.le_trans (Nat.mul_le_mul_right 40 hn3.out) (by decide)) ?_; intro v9 w9 hrow9 (hg9 : World.grownBy _ w9 (Value.slice A8 m8 cap8).ownBlock) (hat9 : v9.ownBlock = (Value.slice A8 m8 cap8).ownBlock ∨ v9.ownBlock = some w8.heap.size); have HB9 := Lib.hid (HB8.out.grown hg9 (fun e => hrow8.ne HB8.out (by decide) e.symm rfl)); have b09 := HB9.out.cell 0; have z09 := HB9.out.frozen 0; have hrb9 : Hid (∀ g, v9.ownBlock = some g → W5.heap.size ≤ g) := Lib.hid (own_fresh2 hrb8.out hat9 HG8.out.size); have HG9 := Lib.hid (HG8.out.grown hg9 (fun g hg => .inr (hrb8.out g hg))); have HR9 := Lib.hid hrow9; obtain ⟨A9, m9, cap9, hv9⟩ : ∃ A n c, v9 = .slice A n c := (match hrow9.val with | ⟨_, _, hv⟩ => ⟨_, _, _, hv⟩); subst hv9; clear hg9 hat9 hrow8 hrow9) | (refine wpList_appendL rfl _ _ rfl TR RowV.cells_len RowV.cells_one rfl hrow7 _ _ _ _ [(⟨t, kk, n0, n1, n2⟩ : RowV)] rfl rfl hMD7.out (Nat.le_trans hn2.out hmx.out) (Nat.le_trans (Nat.mul_le_mul_right 40 hn2.out) (by decide)) ?_; intro v8 w8 hrow8 (hg8 : World.grownBy _ w8 (Value.slice A7 m cap7).ownBlock) (hat8 : v8.ownBlock = (Value.slice A7 m cap7).ownBlock ∨ v8.ownBlock = some w7.heap.size); have HB8 := Lib.hid (HB7.out.grown hg8 (fun e => hrow7.ne HB7.out (by decide) e.symm rfl)); have b08 := HB8.out.cell 0; have hrb8 : Hid (∀ g, v8.ownBlock = some g → W5.heap.size ≤ g) := Lib.hid (own_fresh2 hrb7.out hat8 HG7.out.size); have HG8 := Lib.hid (HG7.out.grown hg8 (fun g hg => .inr (hrb7.out g hg))); have hDR8 := Lib.hid (hDR7.out.grown hg8 HG7.out.size hrb7.out); obtain ⟨A8, m8, cap8, hv8⟩ : ∃ A n c, v8 = .slice A n c := (match hrow8.val with | ⟨_, _, hv⟩ => ⟨_, _, _, hv⟩); subst hv8; clear hg8 hat8 hrow7) | (refine wpList_appendL rfl _ _ rfl TR RowV.cells_len RowV.cells_one rfl (OwnL.nil (X := RowV)) _ _ _ _ (L'.take m) rfl htl.out.symm hTKa.out (Nat.le_trans hn1.out hmx.out) (Nat.le_trans (Nat.mul_le_mul_right 40 hn1.out) (by decide)) ?_; intro v7 w7 hrow7 (hg7 : World.grownBy _ w7 none) hat7; rw [List.nil_append] at hrow7; have HB7 := Lib.hid (HBA.out.grown hg7 (by simp)); have b07 := HB7.out.cell 0; have hrb7 : Hid (∀ g, v7.ownBlock = some g → W5.heap.size ≤ g) := Lib.hid (own_fresh hat7 HFA.out.size); have HG7 := Lib.hid (HFA.out.grown hg7 (fun g hg => by cases hg)); have hDR7 := Lib.hid (hDRa.out.grown hg7 HFA.out.size (fun g hg => by cases hg)); have hMD7 := Lib.hid (hMDa.out.grown hg7 (by simp) (fun g hg => by cases hg)); obtain ⟨A7, cap7, hv7⟩ := hrow7.val; rw [htl.out] at hv7; subst hv7; clear hg7 hat7)))
                    go_roundw
                    case rel => exact ⟨k + 1, _, _, by go_num, by omega, Lib.hid (HMC.out _ _ _ HB9.out HR9.out HS9.out (F5.trans (HG9.out.mono (by simp))) (fun g hg => Nat.le_trans hsz5 (hrb9.out g hg)))⟩
                    case measure => simp [intOf]; omega
                  · obtain ⟨gR, cap', hA, hlc, hcm, hgl, hcell, hfz⟩ := hFM.out (by omega)
                    cases hA
                    clear hcell hfz hlc hcm hgl
                    have hDR := Lib.hid True.intro
                    have hTK := Lib.hid (hRD.out.takeL RowV.cells_len (k := m) (by omega))
                    have htl : Hid ((L'.take m).length = m) := Lib.hid (by rw [List.length_take]; omega)
                    have HS9 : Hid (Sm.Sim ((r.cs.take (k + 1)).foldl Sm.put1 s.M) ((L'.take m ++ [(⟨t, kk, n0, n1, n2⟩ : RowV)]) ++ ([] : List RowV))) := Lib.hid (by have h := HSIM.out; rw [← HTK.out] at h; rw [List.drop_eq_nil_of_le (by omega)] at h; simpa [List.append_assoc, Sm.after] using h)
                    have hcne : ¬ cap1 = m := by omega
                    have hmx : Hid ((2020 : Nat) ≤ maxLen) := Lib.hid (by decide)
                    have hn1 : Hid (([] : List RowV).length + (L'.take m).length ≤ 2020) := Lib.hid (by rw [htl.out, List.length_nil]; omega)
                    have hn2 : Hid ((L'.take m).length + [(⟨t, kk, n0, n1, n2⟩ : RowV)].length ≤ 2020) := Lib.hid (by rw [htl.out]; simp; omega)
                    have hn3 : Hid ((L'.take m ++ [(⟨t, kk, n0, n1, n2⟩ : RowV)]).length + ([] : List RowV).length ≤ 2020) := Lib.hid (by rw [List.length_append, htl.out]; simp; omega)
                    clear HSIM HTK hRD hFM
                    go_wp2_with (first | (go_at_call 72; refine HAF.out.mono ?_; rintro e w6 ⟨rfl, f6⟩; have hb6 := Hb4.out.fr f6 (by simp); have b0' := hb6.cell 0; have hl6 := hb6.lt; have hs6 := f6.size; have HBA := Lib.hid ((hb6.alloc (.cells #[.int .i64 t, .int .i64 kk, .int .i64 n0, .int .i64 n1, .int .i64 n2] 116)).alloc (.cells #[.int .i64 t, .int .i64 kk, .int .i64 n0, .int .i64 n1, .int .i64 n2] 116)); have FA : Fr [] W5 ((w6.alloc (.cells #[.int .i64 t, .int .i64 kk, .int .i64 n0, .int .i64 n1, .int .i64 n2] 116)).alloc (.cells #[.int .i64 t, .int .i64 kk, .int .i64 n0, .int .i64 n1, .int .i64 n2] 116)) := (f6.alloc (.cells #[.int .i64 t, .int .i64 kk, .int .i64 n0, .int .i64 n1, .int .i64 n2] 116)).alloc (.cells #[.int .i64 t, .int .i64 kk, .int .i64 n0, .int .i64 n1, .int .i64 n2] 116); have HFA := Lib.hid FA; have hTKa := Lib.hid (hTK.out.fr (Nat.le_refl _) FA (by simp)); have hDRa := Lib.hid True.intro; have hMDa := Lib.hid (show Reads ((w6.alloc (.cells #[.int .i64 t, .int .i64 kk, .int .i64 n0, .int .i64 n1, .int .i64 n2] 116)).alloc (.cells #[.int .i64 t, .int .i64 kk, .int .i64 n0, .int .i64 n1, .int .i64 n2] 116)) (w6.heap.size + 1 + 1) 5 (some ⟨w6.heap.size + 1, 0, none⟩) 1 ([(⟨t, kk, n0, n1, n2⟩ : RowV)].flatMap RowV.cells) from by have h1 := reads_new (enc := RowV.cells) (w6.alloc (.cells #[.int .i64 t, .int .i64 kk, .int .i64 n0, .int .i64 n1, .int .i64 n2] 116)) 116 ⟨t, kk, n0, n1, n2⟩ rfl; rw [World.size_alloc] at h1; exact h1); clear f6 FA) | (at_builtin; first | (refine wpList_appendL rfl _ _ rfl TR RowV.cells_len RowV.cells_one rfl hrow8 0 _ _ _ ([] : List RowV) rfl (by simp; try omega) (reads_none (by omega)) (Nat.le_trans hn3.out hmx.out) (Nat.le_trans (Nat.mul_le_mul_right 40 hn3.out) (by decide)) ?_; intro v9 w9 hrow9 (hg9 : World.grownBy _ w9 (Value.slice A8 m8 cap8).ownBlock) (hat9 : v9.ownBlock = (Value.slice A8 m8 cap8).ownBlock ∨ v9.ownBlock = some w8.heap.size); have HB9 := Lib.hid (HB8.out.grown hg9 (fun e => hrow8.ne HB8.out (by decide) e.symm rfl)); have b09 := HB9.out.cell 0; have z09 := HB9.out.frozen 0; have hrb9 : Hid (∀ g, v9.ownBlock = some g → W5.heap.size ≤ g) := Lib.hid (own_fresh2 hrb8.out hat9 HG8.out.size); have HG9 := Lib.hid (HG8.out.grown hg9 (fun g hg => .inr (hrb8.out g hg))); have HR9 := Lib.hid hrow9; obtain ⟨A9, m9, cap9, hv9⟩ : ∃ A n c, v9 = .slice A n c := (match hrow9.val with | ⟨_, _, hv⟩ => ⟨_, _, _, hv⟩); subst hv9; clear hg9 hat9 hrow8 hrow9) | (refine wpList_appendL rfl _ _ rfl TR RowV.cells_len RowV.cells_one rfl hrow7 _ _ _ _ [(⟨t, kk, n0, n1, n2⟩ : RowV)] rfl rfl hMD7.out (Nat.le_trans hn2.out hmx.out) (Nat.le_trans (Nat.mul_le_mul_right 40 hn2.out) (by decide)) ?_; intro v8 w8 hrow8 (hg8 : World.grownBy _ w8 (Value.slice A7 m cap7).ownBlock) (hat8 : v8.ownBlock = (Value.slice A7 m cap7).ownBlock ∨ v8.ownBlock = some w7.heap.size); have HB8 := Lib.hid (HB7.out.grown hg8 (fun e => hrow7.ne HB7.out (by decide) e.symm rfl)); have b08 := HB8.out.cell 0; have hrb8 : Hid (∀ g, v8.ownBlock = some g → W5.heap.size ≤ g) := Lib.hid (own_fresh2 hrb7.out hat8 HG7.out.size); have HG8 := Lib.hid (HG7.out.grown hg8 (fun g hg => .inr (hrb7.out g hg)));  obtain ⟨A8, m8, cap8, hv8⟩ : ∃ A n c, v8 = .slice A n c := (match hrow8.val with | ⟨_, _, hv⟩ => ⟨_, _, _, hv⟩); subst hv8; clear hg8 hat8 hrow7) | (refine wpList_appendL rfl _ _ rfl TR RowV.cells_len RowV.cells_one rfl (OwnL.nil (X := RowV)) _ _ _ _ (L'.take m) rfl htl.out.symm hTKa.out (Nat.le_trans hn1.out hmx.out) (Nat.le_trans (Nat.mul_le_mul_right 40 hn1.out) (by decide)) ?_; intro v7 w7 hrow7 (hg7 : World.grownBy _ w7 none) hat7; rw [List.nil_append] at hrow7; have HB7 := Lib.hid (HBA.out.grown hg7 (by simp)); have b07 := HB7.out.cell 0; have hrb7 : Hid (∀ g, v7.ownBlock = some g → W5.heap.size ≤ g) := Lib.hid (own_fresh hat7 HFA.out.size); have HG7 := Lib.hid (HFA.out.grown hg7 (fun g hg => by cases hg));  have hMD7 := Lib.hid (hMDa.out.grown hg7 (by simp) (fun g hg => by cases hg)); obtain ⟨A7, cap7, hv7⟩ := hrow7.val; rw [htl.out] at hv7; subst hv7; clear hg7 hat7)))
                    go_roundw
                    case rel => exact ⟨k + 1, _, _, by go_num, by omega, Lib.hid (HMC.out _ _ _ HB9.out HR9.out HS9.out (F5.trans (HG9.out.mono (by simp))) (fun g hg => Nat.le_trans hsz5 (hrb9.out g hg)))⟩
                    case measure => simp [intOf]; omega
            · have hke : r.cs.take k = r.cs := List.take_of_length_le (by omega)
              have HKE := Lib.hid hke
              clear hke
              have r0 := hr4.cell 0
              have z1 := HMM.out.1.blk.frozen 1
              have b1 := HMM.out.1.blk.cell 1
              go_wp2_with fail
              go_ret
              obtain ⟨hM, hfresh⟩ := HMM.out
              have hsm := hM.sim
              rw [HKE.out] at hsm
              have FS : Fr [b] wr (wr.setCell ⟨b, 1, none⟩ (.int .i64 r.p)) := (Fr.refl _ _).setCell (.inl (by simp)) _
              have hok := HOK.out
              rw [HCO2.out]
              rw [HAP2.out] at hok ⊢
              refine ⟨rfl, v, L', ⟨?_, hM.row.fr FS (fun g hg => by simpa using hM.row.ne hM.blk (by decide) hg), hsm, hok⟩, (F3.mono (by simp)).trans (hM.fr.trans FS), hfresh⟩
              have h1 := hM.blk.set_ 1 (.int .i64 r.p)
              simpa using h1
  · have hd : (r.p != s.pos + 1) = true := by simpa using hp
    have HFA := Lib.hid (HNO.out (by rw [HF.out, HV.out]; simp [hp]) w1.drew (h1.fr0 (Fr.refl [] w1).drew) F1.drew)
    clear hp
    go_wp2_with fail
    go_region
    go_wp2_with fail
    go_ret
    exact HFA.out
end Go.Proofs.YtciaallekkdnhaaGreat

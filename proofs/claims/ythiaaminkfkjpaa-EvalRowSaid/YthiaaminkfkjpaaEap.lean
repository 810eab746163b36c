/-
  'fits'.
-/
import Derived.Test.YthiaaminkfkjpaaEan
import Derived.Test.YthiaaminkfkjpaaEah
namespace Go.Proofs.Ythiaaminkfkjpaa
open Go.RowKit

theorem Rw.valid_chgs {r : Rec} (h : Rw.valid r = true) : ∀ c ∈ r.cs, Rw.chg c = true := by
  simp only [Rw.valid, Bool.and_eq_true] at h
  have h1 := h.2
  generalize (-1 : Int) = a at h1
  generalize (0 : Int) = b at h1
  revert h1
  generalize r.cs = cs
  clear h
  induction cs generalizing a b with
  | nil => intro _ c hc; simp at hc
  | cons x cs ih =>
    intro h c hc
    simp only [Rw.chgs, Bool.and_eq_true] at h
    rcases List.mem_cons.1 hc with rfl | hc
    · exact h.1.1
    · exact ih _ _ h.2 c hc

set_option maxRecDepth 100000 in
set_option maxHeartbeats 2000000 in
theorem fits_any (b m : Nat) (s : Sm.Sta) (r : Rec) (A : Option Addr) (cap : Nat) (w : World) (h : StaAt w b m s) (hc : ChgsAt w A r.cs) (hlen : r.cs.length ≤ maxLen) :
    Calls Try.prog 28 #[.pointer (some ⟨b, 0, none⟩), .agg #[.int .i64 r.p, .slice A r.cs.length cap]] w fun e w' => e = .returned (.bool (Sm.fits s r)) ∧ Fr [] w w' := by
  have HF : Hid (Sm.fits s r = (Rw.valid r && decide (r.p = s.pos + 1) && Sm.fitsGo s.M s.M.length r.cs)) := Lib.hid rfl
  cases hv : Rw.valid r
  · refine (fits_skip b m s r A cap w h hc hlen hv).mono ?_
    rintro e w' ⟨rfl, hf⟩
    exact ⟨by rw [HF.out, hv]; rfl, hf⟩
  have hvf : 1 ≤ r.p ∧ r.p ≤ 10000 ∧ 1 ≤ r.cs.length ∧ r.cs.length ≤ 8 := by
    have h1 := hv
    simp only [Rw.valid, Rw.inI, Bool.and_eq_true, decide_eq_true_eq] at h1
    omega
  have HV := Lib.hid hv
  clear hv
  have hp0 := h.ok.p0
  have hp1 := h.ok.p1
  have hml := h.ok.len
  go_enter Try.func28, Try.ntmps28
  go_wp2_with fail
  have f0 : Fr [] w (w.alloc (.cells #[.int .i64 r.p, .slice A r.cs.length cap] 38)) := (Fr.refl _ _).alloc _
  have hr0 := Blk.new w 38 #[.int .i64 r.p, .slice A r.cs.length cap]
  generalize w.alloc (.cells #[.int .i64 r.p, .slice A r.cs.length cap] 38) = W0 at *
  have h0 := h.fr0 f0
  have hc0 := hc.fr f0 (by simp)
  have hcd := hc0.fr (Fr.refl [] W0).drew (by simp)
  have b1 : W0.cell? ⟨b, 1, none⟩ = some (.int .i64 s.pos) := h0.blk.cell 1
  have r0 := hr0.cell 0
  have r1 := hr0.cell 1
  have hlb := h0.blk.lt
  have hlr := hr0.lt
  have hw1 : IntKind.i64.wrap (s.pos + 1) = s.pos + 1 := IntWalk.i64_in _ (by omega)
  go_region_held3 (fun w' => w'.cell? ⟨w.heap.size, 0, none⟩ = some (.int .i64 r.p) ∧ w'.cell? ⟨w.heap.size, 1, none⟩ = some (.slice A r.cs.length cap) ∧ w'.cell? ⟨b, 1, none⟩ = some (.int .i64 s.pos))
    (first | go_keep | exact ⟨(hcc _ _ hlr).trans r0, (hcc _ _ hlr).trans r1, (hcc _ _ hlb).trans b1⟩)
    (first
      | (go_at_call 46; refine (validRecord_any r A cap _ hcd hlen).mono ?_; rintro e w1 ⟨he, f1⟩; rw [HV.out] at he; subst he; obtain ⟨hcc, hff⟩ := f1.rules))
  have f01 : Fr [] W0 w1 := ((Fr.refl [] _).drew).trans f1
  have h1 := h0.fr0 f01
  have hc1 := hc0.fr f01 (by simp)
  have hr1 := hr0.fr f01 (by simp)
  have F1 : Fr [] w w1 := f0.trans f01
  clear f01 hcc hff f1 r0 r1 b1 hcd h0 hc0 hr0 f0 hw1
  by_cases hp : r.p = s.pos + 1
  · have hd : (r.p != s.pos + 1) = false := by simpa using hp
    have HP := Lib.hid hp
    clear hp
    obtain ⟨bb, off, hA, hbb, hcc⟩ := hc1 (by omega)
    subst hA
    have Hcc := Lib.hid hcc
    clear hcc
    have b0 : w1.cell? ⟨b, 0, none⟩ = some (.map (some m)) := h1.blk.cell 0
    have r1 : w1.cell? ⟨w.heap.size, 1, none⟩ = some (.slice (some ⟨bb, off, none⟩) r.cs.length cap) := hr1.cell 1
    have hm1 := h1.map
    have HFF : Hid (Sm.fits s r = Sm.fitsGo s.M s.M.length r.cs) := Lib.hid (by rw [HF.out, HV.out]; simp [HP.out])
    have R0 : FitsRel w b m s r.cs 0 s.M.length w1 := ⟨Nat.zero_le _, rfl, F1, by omega⟩
    have hval := Lib.hid (Rw.valid_chgs HV.out)
    have FW1 : Fr [] w1 w1 := Fr.refl _ _
    generalize r.cs = cs at *
    go_wp2_with (at_len; refine wpList_vlen _ rfl _ rfl Try.underlying65 m _ rfl hm1 ?_)
    clear b0 r1 hm1
    go_loopw [5, 33] (fun nv i wr => ∃ (k : Nat) (n : Int), (nv = .int .i64 n ∧ i = .int .i64 k) ∧ FitsRel w b m s cs k n wr ∧ Fr [] w1 wr) (fun _ i _ => cs.length - (intOf i).toNat)
    case atStart => exact ⟨0, _, ⟨rfl, rfl⟩, R0, FW1⟩
    case round =>
      clear R0 FW1
      obtain ⟨k, n, ⟨rfl, rfl⟩, ⟨hk, hgo, hfr, hn1, hn2⟩, hf1⟩ := hrel
      by_cases hlt : k < cs.length
      · have hck := Lib.hid (fun j hj => (hf1.cell (p := ⟨bb, off + k * 10 + j, none⟩) hbb (by simp)).trans (Hcc.out k hlt j hj))
        have hgo' : Sm.fitsGo s.M s.M.length cs = (Sm.meets s.M cs[k] && Sm.fitsGo s.M (Sm.grow n cs[k]) (cs.drop (k + 1))) := by
          rw [hgo, List.drop_eq_getElem_cons hlt]; rfl
        have HGO := Lib.hid hgo'
        have hcb := Rw.chg_bounds (hval.out _ (List.getElem_mem hlt))
        clear hgo hgo'
        generalize cs[k] = c at hck HGO hcb
        obtain ⟨t, kk, had, o0, o1, o2, has, n0, n1, n2⟩ := c
        dsimp only at hcb
        have c0 : wr.cell? ⟨bb, off + k * 10, none⟩ = some (.int .i64 t) := hck.out 0 (by decide)
        have c1 : wr.cell? ⟨bb, off + k * 10 + 1, none⟩ = some (.int .i64 kk) := hck.out 1 (by decide)
        have c2 : wr.cell? ⟨bb, off + k * 10 + 2, none⟩ = some (.bool had) := hck.out 2 (by decide)
        have c3 : wr.cell? ⟨bb, off + k * 10 + 3, none⟩ = some (.int .i64 o0) := hck.out 3 (by decide)
        have c4 : wr.cell? ⟨bb, off + k * 10 + 4, none⟩ = some (.int .i64 o1) := hck.out 4 (by decide)
        have c5 : wr.cell? ⟨bb, off + k * 10 + 5, none⟩ = some (.int .i64 o2) := hck.out 5 (by decide)
        have c6 : wr.cell? ⟨bb, off + k * 10 + 6, none⟩ = some (.bool has) := hck.out 6 (by decide)
        have c7 : wr.cell? ⟨bb, off + k * 10 + 7, none⟩ = some (.int .i64 n0) := hck.out 7 (by decide)
        have c8 : wr.cell? ⟨bb, off + k * 10 + 8, none⟩ = some (.int .i64 n1) := hck.out 8 (by decide)
        have c9 : wr.cell? ⟨bb, off + k * 10 + 9, none⟩ = some (.int .i64 n2) := hck.out 9 (by decide)
        clear hck
        have hs := hfr
        have h2 := h1.fr0 hf1
        have b0 : wr.cell? ⟨b, 0, none⟩ = some (.map (some m)) := h2.blk.cell 0
        have hlb2 := h2.blk.lt
        have hid : IdK.val (idOf t kk) = .agg #[.int .i64 t, .int .i64 kk] := by
          have := idOf_val (t := t) (k := kk) (okI_mk (by omega) (by omega)) (okI_mk (by omega) (by omega))
          unfold IdK.val
          rw [this]
        have hlk : ∀ o, (Instr.lookup 65 (.map (some m)) (.agg #[.int .i64 t, .int .i64 kk]) true).run Try.prog (wr.alloc o).drew = .ok (.tuple #[((mget s.M (idOf t kk)).map RowV.val).getD (.agg #[.int .i64 0, .int .i64 0, .int .i64 0, .int .i64 0, .int .i64 0]), .bool (mget s.M (idOf t kk)).isSome]) (wr.alloc o).drew := by
          intro o
          have h3 := VMap.look tyIdRow (h2.map.alloc o).drew (idOf t kk) trivial true
          rw [hid] at h3
          exact h3
        have hlk2 : ∀ o o', (Instr.lookup 65 (.map (some m)) (.agg #[.int .i64 t, .int .i64 kk]) true).run Try.prog ((wr.alloc o).alloc o').drew = .ok (.tuple #[((mget s.M (idOf t kk)).map RowV.val).getD (.agg #[.int .i64 0, .int .i64 0, .int .i64 0, .int .i64 0, .int .i64 0]), .bool (mget s.M (idOf t kk)).isSome]) ((wr.alloc o).alloc o').drew := by
          intro o o'
          have h3 := VMap.look tyIdRow ((h2.map.alloc o).alloc o').drew (idOf t kk) trivial true
          rw [hid] at h3
          exact h3
        clear hid
        have HM : Hid (Sm.meets s.M ⟨t, kk, had, o0, o1, o2, has, n0, n1, n2⟩ = match mget s.M (idOf t kk) with
          | some r => had && decide (r.x = o0 ∧ r.y = o1 ∧ r.z = o2)
          | none => !had) := Lib.hid rfl
        have hqn := neq_v3
        have hqg := eqGuard_v3
        cases hg : mget s.M (idOf t kk) with
        | none =>
          simp only [hg, Option.map_none, Option.getD_none, Option.isSome_none] at hlk hlk2
          have HM2 : Hid (Sm.meets s.M ⟨t, kk, had, o0, o1, o2, has, n0, n1, n2⟩ = !had) := Lib.hid (by rw [HM.out, hg])
          clear HM hg
          go_wp2_with fail
          go_region
          cases had
          · cases has
            · go_wp2_with fail
              go_roundw
              case rel => exact ⟨k + 1, n, ⟨rfl, by go_num⟩, ⟨by omega, by rw [HGO.out, HM2.out]; simp [Sm.grow], hfr.trans (((Fr.refl _ _).alloc _).alloc _).drew, by omega, by omega⟩, hf1.trans (((Fr.refl _ _).alloc _).alloc _).drew⟩
              case measure => simp [intOf]; omega
            · go_wp2_with fail
              go_roundw
              case rel => exact ⟨k + 1, n + 1, ⟨rfl, by go_num⟩, ⟨by omega, by rw [HGO.out, HM2.out]; simp [Sm.grow], hfr.trans (((Fr.refl _ _).alloc _).alloc _).drew, by omega, by omega⟩, hf1.trans (((Fr.refl _ _).alloc _).alloc _).drew⟩
              case measure => simp [intOf]; omega
          · have HFA : Hid (Sm.fits s r = false) := Lib.hid (by rw [HFF.out, HGO.out, HM2.out]; rfl)
            go_wp2_with fail
            go_ret
            exact ⟨by rw [HFA.out]; rfl, hfr.trans (((Fr.refl _ _).alloc _).alloc _).drew⟩
        | some u =>
          simp only [hg, Option.map_some, Option.getD_some, Option.isSome_some] at hlk hlk2
          have HM2 : Hid (Sm.meets s.M ⟨t, kk, had, o0, o1, o2, has, n0, n1, n2⟩ = (had && decide (u.x = o0 ∧ u.y = o1 ∧ u.z = o2))) := Lib.hid (by rw [HM.out, hg])
          clear HM hg
          cases had
          · have HFA : Hid (Sm.fits s r = false) := Lib.hid (by rw [HFF.out, HGO.out, HM2.out]; rfl)
            go_wp2_with fail
            go_region
            go_wp2_with fail
            go_ret
            exact ⟨by rw [HFA.out]; rfl, hfr.trans (((Fr.refl _ _).alloc _).alloc _).drew⟩
          · have hq := neq_v3 u.x u.y u.z o0 o1 o2
            by_cases he : u.x = o0 ∧ u.y = o1 ∧ u.z = o2
            · rw [decide_eq_true he] at hq HM2
              clear he hqn
              cases has
              · go_wp2_with fail
                go_region
                go_wp2_with fail
                go_roundw
                case rel => exact ⟨k + 1, n - 1, ⟨rfl, by go_num⟩, ⟨by omega, by rw [HGO.out, HM2.out]; simp [Sm.grow], hfr.trans (((Fr.refl _ _).alloc _).alloc _).drew, by omega, by omega⟩, hf1.trans (((Fr.refl _ _).alloc _).alloc _).drew⟩
                case measure => simp [intOf]; omega
              · go_wp2_with fail
                go_region
                go_wp2_with fail
                go_roundw
                case rel => exact ⟨k + 1, n, ⟨rfl, by go_num⟩, ⟨by omega, by rw [HGO.out, HM2.out]; simp [Sm.grow], hfr.trans (((Fr.refl _ _).alloc _).alloc _).drew, by omega, by omega⟩, hf1.trans (((Fr.refl _ _).alloc _).alloc _).drew⟩
                case measure => simp [intOf]; omega
            · rw [decide_eq_false he] at hq HM2
              have HFA : Hid (Sm.fits s r = false) := Lib.hid (by rw [HFF.out, HGO.out, HM2.out]; rfl)
              clear he hqn
              go_wp2_with fail
              go_region
              go_wp2_with fail
              go_ret
              exact ⟨by rw [HFA.out]; rfl, hfr.trans (((Fr.refl _ _).alloc _).alloc _).drew⟩
      · have HFA : Hid (Sm.fits s r = decide (n ≤ 2000)) := Lib.hid (by
          rw [HFF.out, hgo, List.drop_of_length_le (by omega)]
          rfl)
        clear hgo
        go_wp2_with fail
        go_ret
        exact ⟨by rw [HFA.out]; rfl, hfr⟩
  · have hd : (r.p != s.pos + 1) = true := by simpa using hp
    have HFF : Hid (Sm.fits s r = false) := Lib.hid (by rw [HF.out, HV.out]; simp [hp])
    clear hp
    go_wp2_with fail
    go_ret
    exact ⟨by rw [HFF.out]; rfl, F1⟩
end Go.Proofs.Ythiaaminkfkjpaa

/-
  The reference of a state in memory; New, place, Get.
-/
import Derived.Test.YthiaaminkfkjpaaEaj
import Derived.Test.YthiaaminkfkjpaaEan
namespace Go.Proofs.Ythiaaminkfkjpaa
open Go.RowKit

theorem infoRow : (Try.prog.info? 33).map (fun i => (i.zero, i.size, i.bytes)) = some (some (.agg #[.int .i64 0, .int .i64 0, .int .i64 0, .int .i64 0, .int .i64 0]), 5, 40) := by kernel_rfl
theorem etRow : ∃ i0, ET Try.prog 44 33 5 40 i0 (.agg #[.int .i64 0, .int .i64 0, .int .i64 0, .int .i64 0, .int .i64 0]) := by
  obtain ⟨i0, hi, hz0, hz1, hz2⟩ := info_parts infoRow
  exact ⟨i0, Try.underlying44, hi, hz0, hz1, hz2, rfl, by decide⟩
abbrev RowsOwn (w : World) (v : Value) (L : List RowV) : Prop := OwnL 33 5 RowV.cells w v L

/-- At block b lies the reference's state: the rows L, in v's row; it is the state s. -/
structure RfAt (w : World) (b : Nat) (v : Value) (L : List RowV) (s : Sm.Sta) : Prop where
  blk : Blk w b 57 #[v, .int .i64 s.pos]
  row : RowsOwn w v L
  sim : Sm.Sim s.M L
  ok : Sm.Ok s
def fpRf (b : Nat) (v : Value) : List Nat := b :: v.ownBlock.toList
theorem RfAt.fr {w w' : World} {b : Nat} {v : Value} {L : List RowV} {s : Sm.Sta} {S : List Nat} (h : RfAt w b v L s) (hf : Fr S w w') (hs : ∀ i ∈ fpRf b v, i ∉ S) : RfAt w' b v L s :=
  ⟨h.blk.fr hf (hs b (by simp [fpRf])), h.row.fr hf (fun g hg => hs g (by simp [fpRf, hg])), h.sim, h.ok⟩
theorem RfAt.fr0 {w w' : World} {b : Nat} {v : Value} {L : List RowV} {s : Sm.Sta} (h : RfAt w b v L s) (hf : Fr [] w w') : RfAt w' b v L s := h.fr hf (by simp)

set_option maxRecDepth 100000 in
/-- 'place': at the rows L, which lie in a block. -/
theorem place_any (b : Nat) (A : Option Addr) (cap : Nat) (L : List RowV) (t k : Int) (w : World) (h0 : w.cell? ⟨b, 0, none⟩ = some (.slice A L.length cap)) (hrow : RowsOwn w (.slice A L.length cap) L) (hsrt : Sm.Srt L) (hl : L.length ≤ 5000) :
    Calls Try.prog 25 #[.pointer (some ⟨b, 0, none⟩), .int .i64 t, .int .i64 k] w fun e w' => ∃ n : Nat, (e = .returned (.int .i64 n) ∧ w = w') ∧ Sm.Plc L t k n := by
  have HS := Lib.hid hsrt
  have HR := Lib.hid (fun (h : 0 < L.length) => hrow.form RowV.cells_len h)
  clear hrow hsrt
  go_enter Try.func25, Try.ntmps25
  go_wp2_with fail
  go_loop [7, 8] (fun lo hi => ∃ l h : Nat, (lo = .int .i64 l ∧ hi = .int .i64 h) ∧ l ≤ h ∧ h ≤ L.length ∧ Hid (∀ i (hi : i < L.length), (i < l → Sm.bef L[i] t k = true) ∧ (h ≤ i → Sm.bef L[i] t k = false))) (fun lo hi => (intOf hi - intOf lo).toNat)
  case atStart => exact ⟨0, L.length, ⟨rfl, rfl⟩, by omega, Nat.le_refl _, Lib.hid fun i hi => ⟨fun h => by omega, fun h => by omega⟩⟩
  case round =>
    obtain ⟨l, h, ⟨rfl, rfl⟩, hlh, hhL, hinv⟩ := hrel
    by_cases hlt : l < h
    · obtain ⟨gR, cap', hA, hlc, hcm, hgl, hcell, hfz⟩ := HR.out (by omega)
      cases hA
      have hm1 : l ≤ (l + h) / 2 := by omega
      have hm2 : (l + h) / 2 < h := by omega
      have hml : (l + h) / 2 < L.length := by omega
      have d0 : w.cell? ⟨gR, (l + h) / 2 * 5, none⟩ = some (.int .i64 L[(l + h) / 2].t) := hcell _ (by omega) 0 (by decide)
      have d1 : w.cell? ⟨gR, (l + h) / 2 * 5 + 1, none⟩ = some (.int .i64 L[(l + h) / 2].k) := hcell _ (by omega) 1 (by decide)
      obtain ⟨x, hx⟩ : ∃ x, L[(l + h) / 2] = x := ⟨_, rfl⟩
      rw [hx] at d0 d1
      have HX := Lib.hid hx
      clear hx hcell hfz
      obtain ⟨xt, xk, x1, x2, x3⟩ := x
      dsimp only at d0 d1
      have hlow : Hid (Sm.bef ⟨xt, xk, x1, x2, x3⟩ t k = true → ∀ i (hi : i < L.length), (i < (l + h) / 2 + 1 → Sm.bef L[i] t k = true) ∧ (h ≤ i → Sm.bef L[i] t k = false)) := Lib.hid fun hb i hi => ⟨fun h1 => by
        rcases Nat.lt_or_ge i ((l + h) / 2) with h2 | h2
        · have h3 := HS.out.get hi hml h2
          rw [HX.out] at h3
          simp only [Sm.bef, decide_eq_true_eq] at hb ⊢
          dsimp only at h3
          omega
        · obtain rfl : i = (l + h) / 2 := by omega
          rw [HX.out]; exact hb, (hinv.out i hi).2⟩
      have hhigh : Hid (Sm.bef ⟨xt, xk, x1, x2, x3⟩ t k = false → ∀ i (hi : i < L.length), (i < l → Sm.bef L[i] t k = true) ∧ ((l + h) / 2 ≤ i → Sm.bef L[i] t k = false)) := Lib.hid fun hb i hi => ⟨(hinv.out i hi).1, fun h1 => by
        rcases Nat.lt_or_ge ((l + h) / 2) i with h2 | h2
        · have h3 := HS.out.get hml hi h2
          rw [HX.out] at h3
          simp only [Sm.bef, decide_eq_false_iff_not] at hb ⊢
          dsimp only at h3
          omega
        · obtain rfl : i = (l + h) / 2 := by omega
          rw [HX.out]; exact hb⟩
      clear hinv
      by_cases h1 : xt < t
      · have HB := Lib.hid (hlow.out (by simp only [Sm.bef, decide_eq_true_eq]; omega))
        clear hlow hhigh
        go_wp2_with fail
        go_round
        case rel => exact ⟨(l + h) / 2 + 1, h, ⟨by go_num, rfl⟩, by omega, by omega, HB⟩
        case measure => simp [intOf]; omega
      · by_cases h2 : xt = t
        · have h2' : (xt == t) = true := by simpa using h2
          by_cases h3 : xk < k
          · have HB := Lib.hid (hlow.out (by simp only [Sm.bef, decide_eq_true_eq]; omega))
            clear hlow hhigh h2
            go_wp2_with fail
            go_round
            case rel => exact ⟨(l + h) / 2 + 1, h, ⟨by go_num, rfl⟩, by omega, by omega, HB⟩
            case measure => simp [intOf]; omega
          · have HB := Lib.hid (hhigh.out (by simp only [Sm.bef, decide_eq_false_iff_not]; omega))
            clear hlow hhigh h2
            go_wp2_with fail
            go_round
            case rel => exact ⟨l, (l + h) / 2, ⟨rfl, by go_num⟩, by omega, by omega, HB⟩
            case measure => simp [intOf]; omega
        · have h2' : (xt == t) = false := by simpa using h2
          have HB := Lib.hid (hhigh.out (by simp only [Sm.bef, decide_eq_false_iff_not]; omega))
          clear hlow hhigh h2
          go_wp2_with fail
          go_round
          case rel => exact ⟨l, (l + h) / 2, ⟨rfl, by go_num⟩, by omega, by omega, HB⟩
          case measure => simp [intOf]; omega
    · go_wp2
      go_ret
      have : l = h := by omega
      subst this
      exact ⟨l, ⟨rfl, rfl⟩, hhL, fun i hi h1 => (hinv.out i hi).1 h1, fun i hi h1 => (hinv.out i hi).2 h1⟩
end Go.Proofs.Ythiaaminkfkjpaa

/-
  Law 4's helpers: pick, equal, same.
-/
import Derived.Test.YtakfaffgfdbfmaaRfI
import Derived.Test.YtakfaffgfdbfmaaRfE
import Derived.Test.YtakfaffgfdbfmaaRfD
import Derived.Test.YtakfaffgfdbfmaaRfG
import Derived.Test.YtakfaffgfdbfmaaLaw
import Derived.Deep.DeepCutAuto
namespace Go.Proofs.Ytakfaffgfdbfmaa
open Go.RowKit Go.WideShapes Go.ChangeShapes

/-- 'pick'. -/
def pickI (c n : Int) : Int := (if c < 0 then -(c + 1) else c) % n
theorem pickI_nonneg (c : Int) {n : Int} (h : 1 ≤ n) : 0 ≤ pickI c n := Int.emod_nonneg _ (by omega)
theorem pickI_lt (c : Int) {n : Int} (h : 1 ≤ n) : pickI c n < n := Int.emod_lt_of_pos _ (by omega)
set_option maxRecDepth 100000 in
theorem pick_any (c n : Int) (w : World) (h1 : -9223372036854775808 ≤ c) (h2 : c ≤ 9223372036854775807) (h3 : 1 ≤ n) (h4 : n ≤ 1000000000) :
    Calls Try.prog 18 #[.int .i64 c, .int .i64 n] w fun e w' => e = .returned (.int .i64 (pickI c n)) ∧ w = w' := by
  have hn : (n == 0) = false := by simp; omega
  have hn' : ¬ n = 0 := by omega
  by_cases hc : c < 0
  · go_enter Try.func18, Try.ntmps18
    go_wp2
    go_ret
    have e1 : pickI c n = -(c + 1) % n := by unfold pickI; rw [if_pos hc]
    rw [e1]
    refine ⟨?_, rfl⟩
    show Ending.returned (.int .i64 (-((c + 1).tmod n))) = _
    rw [← Int.neg_tmod, Int.tmod_eq_emod_of_nonneg (by omega)]
  · go_enter Try.func18, Try.ntmps18
    go_wp2
    go_ret
    have e1 : pickI c n = c % n := by unfold pickI; rw [if_neg (by omega)]
    rw [e1]
    refine ⟨by simp, rfl⟩

theorem Picked.perm' {s s' : Sm.Sta} {c : Int} {p : RowV → Bool} {R : List RowV} (h : Picked s c p R) (hp : s.M.Perm s'.M) : Picked s' c p R :=
  ⟨h.perm.trans ((hp.map _).filter _), h.srt⟩
/-- The rows of a table: one list, whoever picked it, in a form for SameRows. -/
theorem RowsOwn.sl {w : World} {v : Value} {L : List RowV} (h : RowsOwn w v L) : ∃ A cap, v = .slice A L.length cap ∧ RowsAt w A L := by
  obtain ⟨A, cap, hv, ha⟩ := h.at_ RowV.cells_len
  exact ⟨A, cap, hv, ha⟩
theorem RowsAt.fr0 {w w' : World} {A : Option Addr} {L : List RowV} (h : RowsAt w A L) (hf : Fr [] w w') : RowsAt w' A L := h.fr hf (by simp)
theorem Picked.len {s : Sm.Sta} {c : Int} {p : RowV → Bool} {R : List RowV} (h : Picked s c p R) (ho : Sm.Ok s) : R.length ≤ 2000 := by
  rw [h.perm.length_eq]
  refine Nat.le_trans (List.length_filter_le _ _) ?_
  rw [List.length_map]
  exact ho.len

set_option maxRecDepth 100000 in
set_option maxHeartbeats 2000000 in
theorem equal_any (b m b' m' : Nat) (s s' : Sm.Sta) (w : World) (h : StaAt w b m s) (h' : StaAt w b' m' s') (hp : s.M.Perm s'.M) :
    Calls Try.prog 26 #[.pointer (some ⟨b, 0, none⟩), .pointer (some ⟨b', 0, none⟩)] w fun e w' => e = .returned (.bool true) ∧ Fr [] w w' := by
  have hle : ((s.M.length : Int) != (s'.M.length : Int)) = false := by rw [hp.length_eq]; simp
  have HP := Lib.hid hp
  have H := Lib.hid h
  have H' := Lib.hid h'
  have hL := Lib.hid (slen_any b m s w h)
  have hL' := Lib.hid (slen_any b' m' s' w h')
  clear h h' hp
  go_enter Try.func26, Try.ntmps26
  go_wp2_with (go_at_call 29; first | (refine hL.out.mono ?_; rintro e w1 ⟨rfl, rfl⟩; clear hL) | (refine hL'.out.mono ?_; rintro e w1 ⟨rfl, rfl⟩))
  go_loopw [5] (fun i wr => ∃ k : Nat, i = .int .i64 k ∧ k ≤ 4 ∧ Hid (Fr [] w wr)) (fun i _ => 4 - (intOf i).toNat)
  case atStart => exact ⟨0, rfl, by omega, Lib.hid (Fr.refl _ _)⟩
  case round =>
    obtain ⟨k, rfl, hk, F⟩ := hrel
    by_cases hlt : k < 4
    · have hR := Lib.hid (srows_any b m s k wr (H.out.fr0 F.out))
      have hR' := Lib.hid (fun W (f : Fr [] wr W) => srows_any b' m' s' k W (H'.out.fr0 (F.out.trans f)))
      go_wp2_with (first | (go_at_call 30; first | (refine hR.out.mono ?_; rintro e w1 ⟨v1, R1, rfl, hv1, hp1, f1, -⟩; obtain ⟨A1, c1, hv, ha1⟩ := hv1.sl; subst hv; have HA1 := Lib.hid ha1; have HP1 := Lib.hid hp1; have F1 := Lib.hid f1; clear hv1 ha1 hp1 f1 hR) | (refine (hR'.out _ F1.out).mono ?_; rintro e w2 ⟨v2, R2, rfl, hv2, hp2, f2, -⟩; obtain ⟨A2, c2, hv, ha2⟩ := hv2.sl; subst hv; have HA2 := Lib.hid ha2; have HP2 := Lib.hid hp2; have F2 := Lib.hid f2; clear hv2 ha2 hp2 f2 hR')) | (go_at_call 23; refine (sameRows_any R1 R2 A1 A2 c1 c2 _ (HA1.out.fr0 F2.out) HA2.out (Nat.le_trans (HP1.out.len H.out.ok) (by decide)) (Nat.le_trans (HP2.out.len H'.out.ok) (by decide))).mono ?_; rintro e w3 ⟨rfl, f3⟩; have heq : R1 = R2 := (HP1.out.perm' HP.out).uniq HP2.out H'.out.ok inTab_t; rw [decide_eq_true heq]; have F3 := Lib.hid (((F.out.trans F1.out).trans F2.out).trans f3); clear heq f3))
      go_roundw
      case rel => exact ⟨k + 1, by go_num, by omega, F3⟩
      case measure => simp [intOf]; omega
    · have hk4 : k = 4 := by omega
      subst hk4
      go_wp2_with fail
      go_ret
      exact ⟨rfl, F.out⟩

set_option maxRecDepth 100000 in
set_option maxHeartbeats 2000000 in
theorem same_any (b m b' : Nat) (v : Value) (L : List RowV) (s : Sm.Sta) (w : World) (h : StaAt w b m s) (h' : RfAt w b' v L s) :
    Calls Try.prog 17 #[.pointer (some ⟨b, 0, none⟩), .pointer (some ⟨b', 0, none⟩)] w fun e w' => e = .returned (.bool true) ∧ Fr [] w w' := by
  obtain ⟨A, cap, hv⟩ := h'.row.val
  subst hv
  have hle : ((s.M.length : Int) != (L.length : Int)) = false := by rw [h'.sim.len]; simp
  have hle' : (s.pos != s.pos) = false := by simp
  have c0 : w.cell? ⟨b', 0, none⟩ = some (.slice A L.length cap) := h'.blk.cell 0
  have c1 : w.cell? ⟨b', 1, none⟩ = some (.int .i64 s.pos) := h'.blk.cell 1
  have H := Lib.hid h
  have H' := Lib.hid h'
  have hL := Lib.hid (slen_any b m s _ (h.fr0 (Fr.refl [] w).drew))
  have hPo := Lib.hid (sposition_any b m s _ (h.fr0 (Fr.refl [] w).drew))
  clear h h'
  go_enter Try.func17, Try.ntmps17
  go_upto_region 1 with fail
  go_cut [4, 26] (fun s4 s26 wc => (s4 = .bool false ∧ s26 = .bool false) ∧ Hid (Fr [] w wc))
  case first =>
    first
      | (go_region_with (first | (go_at_call 27; refine hPo.out.mono ?_; rintro e w1 ⟨rfl, rfl⟩) | (go_at_call 29; refine hL.out.mono ?_; rintro e w1 ⟨rfl, rfl⟩)))
      | fail "with"
    all_goals
      go_wp2_with fail
      go_meet
      case rel => exact ⟨⟨rfl, rfl⟩, Lib.hid (Fr.refl [] w).drew⟩
  case rest =>
    obtain ⟨⟨rfl, rfl⟩, F0⟩ := hcut
    clear hL hPo c0 c1
    go_wp2_with fail
    go_loopw [5] (fun i wr => ∃ k : Nat, i = .int .i64 k ∧ k ≤ 4 ∧ Hid (Fr [] w wr)) (fun i _ => 4 - (intOf i).toNat)
    case atStart => exact ⟨0, rfl, by omega, F0⟩
    case round =>
      obtain ⟨k, rfl, hk, F⟩ := hrel
      by_cases hlt : k < 4
      · have hR := Lib.hid (srows_any b m s k wr (H.out.fr0 F.out))
        have hR' := Lib.hid (fun W (f : Fr [] wr W) => rfrows_any b' _ L s k W (H'.out.fr0 (F.out.trans f)))
        go_wp2_with (first | (go_at_call 30; refine hR.out.mono ?_; rintro e w1 ⟨v1, R1, rfl, hv1, hp1, f1, -⟩; obtain ⟨A1, c1, hv, ha1⟩ := hv1.sl; subst hv; have HA1 := Lib.hid ha1; have HP1 := Lib.hid hp1; have F1 := Lib.hid f1; clear hv1 ha1 hp1 f1 hR) | (go_at_call 38; refine (hR'.out _ F1.out).mono ?_; rintro e w2 ⟨v2, rfl, hv2, f2, -⟩; obtain ⟨A2, c2, hv, ha2⟩ := hv2.sl; subst hv; have HA2 := Lib.hid ha2; have HP2 := Lib.hid (picked_filter H'.out.sim (k : Int)); have F2 := Lib.hid f2; clear hv2 ha2 f2 hR'; generalize L.filter (inTab (k : Int)) = R2 at *) | (go_at_call 23; refine (sameRows_any R1 R2 A1 A2 c1 c2 _ (HA1.out.fr0 F2.out) HA2.out (Nat.le_trans (HP1.out.len H.out.ok) (by decide)) (Nat.le_trans (HP2.out.len H'.out.ok) (by decide))).mono ?_; rintro e w3 ⟨rfl, f3⟩; have heq : R1 = R2 := HP1.out.uniq HP2.out H'.out.ok inTab_t; rw [decide_eq_true heq]; have F3 := Lib.hid (((F.out.trans F1.out).trans F2.out).trans f3); clear heq f3))
        go_roundw
        case rel => exact ⟨k + 1, by go_num, by omega, F3⟩
        case measure => simp [intOf]; omega
      · have hk4 : k = 4 := by omega
        subst hk4
        go_wp2_with fail
        go_ret
        exact ⟨rfl, F.out⟩
end Go.Proofs.Ytakfaffgfdbfmaa

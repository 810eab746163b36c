/-
  The walks of DiskNewMatches and DiskNil.
-/
import Derived.Test.YtbmakjhfoaadoaaDkQ
namespace Go.Proofs.Ytbmakjhfoaadoaa
open Go.RowKit

set_option maxRecDepth 100000 in
set_option maxHeartbeats 2000000 in
theorem dnew_walk (n a : Int) (W : World) (hn : okI n) (ha : okI a) :
    Calls Try.prog 3 #[.int .i64 n, .int .i64 a] W fun e W' => e = .returned (.bool true) ∧ Below W.heap.size W W' := by
  obtain ⟨n1, n2⟩ := okI_bounds hn
  by_cases h : 1 ≤ n ∧ n ≤ 4194304
  · obtain ⟨h1, h2⟩ := h
    obtain ⟨m, rfl⟩ : ∃ m : Nat, n = (m : Int) := ⟨n.toNat, by omega⟩
    go_enter Try.func3, Try.ntmps3
    go_wp2_with fail
    refine (sane_any _).mono ?_
    rintro e w1 ⟨rfl, f1⟩
    have F1 := Lib.hid f1
    clear f1
    go_wp2_with fail
    refine (mnew m F1.out (by omega) (by omega)).mono ?_
    rintro e w2 ⟨b, rfl, m2⟩
    have M2 := Lib.hid m2
    clear m2
    go_wp2_with fail
    refine (pick_nat a m _ ha (by omega) (by omega)).mono ?_
    rintro e w' ⟨k, ⟨rfl, hk, -⟩, rfl⟩
    have hr : Dm.read (Dm.new m) (k : Int) 1 = ([0], 0) := by
      unfold Dm.read
      rw [if_neg (by simp [Dm.new]), if_pos (by rw [Dm.inside_iff]; simp [Dm.new]; omega)]
      have e1 : (Dm.new m).vis = List.replicate m 0 := rfl
      rw [e1]
      obtain ⟨j, hj⟩ : ∃ j, m - k = j + 1 := ⟨m - k - 1, by omega⟩
      simp [hj, List.replicate_succ]
    have HR := Lib.hid hr
    clear hr
    go_wp2_with fail
    refine (mread (k : Int) 1 M2.out (okI_mk (by omega) (by omega)) HR.out).mono ?_
    rintro e w' ⟨rfl, rfl⟩
    go_wp2_with fail
    refine (msize (n := m) M2.out (by simp [Dm.new])).mono ?_
    rintro e w' ⟨rfl, rfl⟩
    go_wp2_with fail
    refine (mpending (n := 0) M2.out rfl).mono ?_
    rintro e w' ⟨rfl, rfl⟩
    go_wp2_with fail
    go_ret
    exact ⟨rfl, M2.out.frame.below⟩
  · have h' : n < 1 ∨ 4194304 < n := by omega
    by_cases h1 : n < 1
    · go_enter Try.func3, Try.ntmps3
      go_wp2_with fail
      refine (sane_any _).mono ?_
      rintro e w1 ⟨rfl, f1⟩
      go_wp2_with fail
      refine (new_bad n _ h').mono ?_
      rintro e w' ⟨rfl, rfl⟩
      go_wp2_with fail
      go_ret
      exact ⟨rfl, f1.below⟩
    · have h2 : 4194304 < n := by omega
      go_enter Try.func3, Try.ntmps3
      go_wp2_with fail
      refine (sane_any _).mono ?_
      rintro e w1 ⟨rfl, f1⟩
      go_wp2_with fail
      refine (new_bad n _ h').mono ?_
      rintro e w' ⟨rfl, rfl⟩
      go_wp2_with fail
      go_ret
      exact ⟨rfl, f1.below⟩
set_option maxRecDepth 100000 in
set_option maxHeartbeats 2000000 in
theorem dnil_walk (off n : Int) (s : ByteArray) (A : Option Addr) (zs : List Int) (cap : Nat) (W : World) (_ : okI off) (_ : okI n) (hs : s.size ≤ maxLen) (_ : IntsIn W A zs) (hc : zs.length ≤ cap) (hm : cap ≤ maxLen) :
    Calls Try.prog 5 #[.int .i64 off, .int .i64 n, .string s, .slice A zs.length cap] W fun e W' => e = .returned (.bool true) ∧ Below W.heap.size W W' := by
  unfold maxLen at hm
  obtain ⟨l, rfl⟩ : ∃ l : List UInt8, s = ⟨l.toArray⟩ := ⟨s.data.toList, by simp⟩
  have hl : l.length ≤ maxLen := by simpa [ByteArray.size] using hs
  have HL := Lib.hid hl
  clear hl hs
  generalize zs.length = k at *
  go_enter Try.func5, Try.ntmps5
  go_wp2_with fail
  refine (sane_any _).mono ?_
  rintro e w1 ⟨rfl, f1⟩
  have F1 := Lib.hid f1
  clear f1
  go_wp2_with fail
  refine (read_nil _ _ _).mono ?_
  rintro e w' ⟨rfl, rfl⟩
  go_wp2_with fail
  refine (cutS_any l 100 _ HL.out (by decide)).mono ?_
  rintro e w' ⟨rfl, rfl⟩
  go_wp2_with fail
  refine (write_nil _ _ _).mono ?_
  rintro e w' ⟨rfl, rfl⟩
  go_wp2_with fail
  refine (sync_nil _).mono ?_
  rintro e w' ⟨rfl, rfl⟩
  go_wp2_with fail
  refine (cut_nil _ _).mono ?_
  rintro e w' ⟨rfl, rfl⟩
  by_cases h100 : k ≤ 100
  all_goals
    go_wp2_with fail
    refine (crash_none _ _ _).mono ?_
    rintro e w2 ⟨rfl, f2⟩
    have F2 := Lib.hid f2
    clear f2
    go_wp2_with fail
    refine (pending_nil _).mono ?_
    rintro e w' ⟨rfl, rfl⟩
    go_wp2_with fail
    refine (size_nil _).mono ?_
    rintro e w' ⟨rfl, rfl⟩
    go_wp2_with fail
    go_ret
    exact ⟨rfl, (F1.out.trans F2.out).below⟩
end Go.Proofs.Ytbmakjhfoaadoaa

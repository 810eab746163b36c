/-
  The reference of a state: Rows.
-/
import Derived.Test.YtlicjokgcahmlaaRfB
import Derived.Test.YtlicjokgcahmlaaStI
import Derived.Test.YtlicjokgcahmlaaRow3
namespace Go.Proofs.Ytlicjokgcahmlaa
open Go.RowKit

/-- At the head of each round: the rows chosen so far. -/
structure PkRel (w wr : World) (v : Value) (R : List RowV) : Prop where
  row : RowsOwn wr v R
  fr : Fr [] w wr
  own : ∀ g, v.ownBlock = some g → w.heap.size ≤ g

set_option maxRecDepth 100000 in
set_option maxHeartbeats 4000000 in
theorem rfrows_any (b : Nat) (v : Value) (L : List RowV) (s : Sm.Sta) (t : Int) (w : World) (h : RfAt w b v L s) :
    Calls Try.prog 57 #[.pointer (some ⟨b, 0, none⟩), .int .i64 t] w fun e w' => ∃ v', e = .returned v' ∧ RowsOwn w' v' (L.filter (inTab t)) ∧ Fr [] w w' ∧ ∀ g, v'.ownBlock = some g → w.heap.size ≤ g := by
  obtain ⟨A, cap, hv⟩ := h.row.val
  subst hv
  have hlen : L.length ≤ 2000 := by rw [h.sim.len]; exact h.ok.len
  have H := Lib.hid h
  have HFM := Lib.hid (fun (h0 : 0 < L.length) => h.row.form RowV.cells_len h0)
  have P0 : Hid (PkRel w w (.slice none 0 0) ((L.take 0).filter (inTab t))) := Lib.hid ⟨OwnL.nil, Fr.refl _ _, fun g hg => by simp [Value.ownBlock] at hg⟩
  obtain ⟨i0, TR⟩ := etRow
  clear h
  go_enter Try.func57, Try.ntmps57
  go_wp2_with fail
  go_loopw [5, 6] (fun vo i wr => ∃ (k : Nat) (Ao : Option Addr) (no co : Nat), vo = .slice Ao no co ∧ i = .int .i64 k ∧ k ≤ L.length ∧ Hid (PkRel w wr (.slice Ao no co) ((L.take k).filter (inTab t)))) (fun _ i _ => L.length - (intOf i).toNat)
  case atStart => exact ⟨0, none, 0, 0, rfl, rfl, Nat.zero_le _, P0⟩
  case round =>
    clear P0
    obtain ⟨k, Ao, no, co, rfl, rfl, hk, R⟩ := hrel
    have hb : wr.cell? ⟨b, 0, none⟩ = some (.slice A L.length cap) := (H.out.blk.fr R.out.fr (by simp)).cell 0
    by_cases hlt : k < L.length
    · obtain ⟨gR, cap', hA, hlc, hcm, hgl, hcell, hfz⟩ := HFM.out (by omega)
      cases hA
      have hck := Lib.hid (fun j (hj : j < 5) => (R.out.fr.cell (p := ⟨gR, k * 5 + j, none⟩) hgl (by simp)).trans (hcell k hlt j hj))
      have htk : (L.take (k + 1)).filter (inTab t) = (L.take k).filter (inTab t) ++ (if inTab t L[k] = true then [L[k]] else []) := by
        rw [List.take_succ_eq_append_getElem hlt, List.filter_append]
        congr 1
        by_cases e : inTab t L[k] = true
        · rw [if_pos e, List.filter_cons_of_pos e]; rfl
        · rw [if_neg e, List.filter_cons_of_neg e]; rfl
      have HTK := Lib.hid htk
      have hll : Hid (((L.take k).filter (inTab t)).length + 1 ≤ 2010) := Lib.hid (by
        have := List.length_filter_le (inTab t) (L.take k)
        rw [List.length_take] at this
        omega)
      clear htk hcell hfz
      generalize L[k] = x at *
      obtain ⟨xt, xk, xa, xb, xc⟩ := x
      have x0 : wr.cell? ⟨gR, k * 5, none⟩ = some (.int .i64 xt) := hck.out 0 (by decide)
      have x1 : wr.cell? ⟨gR, k * 5 + 1, none⟩ = some (.int .i64 xk) := hck.out 1 (by decide)
      have x2 : wr.cell? ⟨gR, k * 5 + 2, none⟩ = some (.int .i64 xa) := hck.out 2 (by decide)
      have x3 : wr.cell? ⟨gR, k * 5 + 3, none⟩ = some (.int .i64 xb) := hck.out 3 (by decide)
      have x4 : wr.cell? ⟨gR, k * 5 + 4, none⟩ = some (.int .i64 xc) := hck.out 4 (by decide)
      clear hck
      by_cases e : xt = t
      · have e' : (xt == t) = true := by simpa using e
        have HTK2 : Hid ((L.take (k + 1)).filter (inTab t) = (L.take k).filter (inTab t) ++ [⟨xt, xk, xa, xb, xc⟩]) := Lib.hid (by rw [HTK.out, if_pos (by simp [inTab, e])])
        clear e HTK
        go_wp2_with (at_builtin; refine wpList_appendL rfl _ _ rfl TR RowV.cells_len RowV.cells_one rfl (R.out.row.fr ((Fr.refl [] wr).alloc (.cells #[.int .i64 xt, .int .i64 xk, .int .i64 xa, .int .i64 xb, .int .i64 xc] 31)) (by simp)) (wr.heap.size + 1) _ _ _ [(⟨xt, xk, xa, xb, xc⟩ : RowV)] rfl rfl (reads_new (enc := RowV.cells) wr 31 ⟨xt, xk, xa, xb, xc⟩ rfl) (Nat.le_trans hll.out (by decide)) (Nat.le_trans (Nat.mul_le_mul_right 40 hll.out) (by decide)) ?_; intro v5 w5 hrow5 (hg5 : World.grownBy _ w5 (Value.slice Ao no co).ownBlock) hat5; have HR5 := Lib.hid hrow5; have HG5 := Lib.hid hg5; have HA5 := Lib.hid hat5; obtain ⟨A5, n5, cap5, hv5⟩ : ∃ A n c, v5 = .slice A n c := (match hrow5.val with | ⟨_, _, hv⟩ => ⟨_, _, _, hv⟩); subst hv5; clear hrow5 hg5 hat5)
        have R2 : Hid (PkRel w w5 (.slice A5 n5 cap5) ((L.take (k + 1)).filter (inTab t))) := Lib.hid ⟨by rw [HTK2.out]; exact HR5.out, (R.out.fr.alloc _).grown HG5.out (fun g hg => .inr (R.out.own g hg)), fun g hg => by
          rcases HA5.out with h1 | h1
          · exact R.out.own g (h1 ▸ hg)
          · rw [h1] at hg
            injection hg with hg
            rw [World.size_alloc] at hg
            have := R.out.fr.size
            omega⟩
        go_roundw
        case rel => exact ⟨k + 1, A5, n5, cap5, rfl, by go_num, by omega, R2⟩
        case measure => simp [intOf]; omega
      · have e' : (xt == t) = false := by simpa using e
        have R2 : Hid (PkRel w wr (.slice Ao no co) ((L.take (k + 1)).filter (inTab t))) := Lib.hid ⟨by rw [HTK.out, if_neg (by simp [inTab, e]), List.append_nil]; exact R.out.row, R.out.fr, R.out.own⟩
        clear e HTK
        go_wp2_with fail
        go_roundw
        case rel => exact ⟨k + 1, Ao, no, co, rfl, by go_num, by omega, R2⟩
        case measure => simp [intOf]; omega
    · have hke : L.take k = L := List.take_of_length_le (by omega)
      rw [hke] at R
      clear hke
      go_wp2_with fail
      go_ret
      exact ⟨_, rfl, R.out.row, R.out.fr, R.out.own⟩
end Go.Proofs.Ytlicjokgcahmlaa

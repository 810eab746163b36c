/-
  Contracts of package disk: settle.
-/
import Derived.Test.YtbmakjhfoaadoaaDkF
import Derived.Laws.CopyRow
namespace Go.Proofs.Ytbmakjhfoaadoaa
open Go.RowKit

theorem run_clear_row {P : Program} (w : World) (t e ty : TypeId) (z : Value) (ht : P.underlying t = some (.slice e)) (hv : ∀ w, (zeroValue e).run P w = .ok z w) (h1 : ∀ v ∈ z.cells.toList, v.oneCell' = true) (h1' : ∀ n, ∀ v ∈ (Builtin.zeroCells z.cells n).toList, v.oneCell' = true)
    (g n c : Nat) (hn : 0 < n) (cur : Array Value) (tt : TypeId) (hg : w.heap[g]? = some (.cells cur tt (0, 0))) (hfit : (Builtin.zeroCells z.cells n).toList.length ≤ cur.size) :
    (Builtin.clear_ #[t] ty #[.slice (some ⟨g, 0, none⟩) n c]).run P w = .ok (.tuple #[]) (w.setRow g ((Builtin.zeroCells z.cells n).toList ++ cur.toList.drop (Builtin.zeroCells z.cells n).toList.length).toArray) := by
  have hst := run_storeCells_at P g 0 tt (Builtin.zeroCells z.cells n).toList 0 cur w hg (by simpa using hfit) (h1' n)
  obtain ⟨m, rfl⟩ : ∃ m, n = m + 1 := ⟨n - 1, by omega⟩
  simp only [Nat.add_zero, Nat.zero_add, List.take_zero, List.nil_append] at hst
  simp [Builtin.clear_, run_underlying ht, hv]
  simp at hst
  rw [hst]
  rfl
theorem run_clear_zero {P : Program} (W : World) (t e ty : TypeId) (A : Option Addr) (cap : Nat) (ht : P.underlying t = some (.slice e)) : (Builtin.clear_ #[t] ty #[.slice A 0 cap]).run P W = .ok (.tuple #[]) W := by
  cases A <;> simp [Builtin.clear_, run_underlying ht]
theorem wrZeros_len (n : Nat) : (Builtin.zeroCells (Value.agg #[.int .i64 0, .string ⟨#[]⟩]).cells n).toList.length = n * 2 := by simp [Builtin.zeroCells, Value.cells]
theorem wrZeros_one (n : Nat) : ∀ v ∈ (Builtin.zeroCells (Value.agg #[.int .i64 0, .string ⟨#[]⟩]).cells n).toList, v.oneCell' = true := by
  intro v hv
  simp only [Builtin.zeroCells, Value.cells, Array.toList_map, List.mem_map, Array.toList_range, List.mem_range] at hv
  obtain ⟨i, hi, rfl⟩ := hv
  have h2 : i % 2 < 2 := Nat.mod_lt _ (by decide)
  have h3 : i % 2 = 0 ∨ i % 2 = 1 := by omega
  rcases h3 with h | h
  · simp [h, Value.oneCell']
  · simp [h, Value.oneCell']
theorem own_cleared {w w' : World} {A : Option Addr} {n cap : Nat} {L : List Dm.Wr} (h : OwnL 69 2 Dm.Wr.cells w (.slice A n cap) L) (hb : ∀ g, (Value.slice A n cap).ownBlock = some g → ∃ cur', w'.heap[g]? = some (.cells cur' 69 (0, 0)) ∧ ∀ cur, w.heap[g]? = some (.cells cur 69 (0, 0)) → cur'.size = cur.size) :
    OwnL 69 2 Dm.Wr.cells w' (.slice A 0 cap) ([] : List Dm.Wr) := by
  rcases h.2 with ⟨hv, h0⟩ | ⟨g, cap', cur, hv, hbase, hg, hnc, hcm, hcs, htk⟩
  · injection hv with a1 a2 a3
    subst a1 a3
    exact OwnL.nil
  · injection hv with a1 a2 a3
    subst a1 a3
    obtain ⟨cur', h1, h2⟩ := hb g rfl
    exact ⟨by simp, .inr ⟨g, cap, cur', rfl, hbase, h1, Nat.zero_le _, hcm, by rw [h2 cur hg]; exact hcs, by simp⟩⟩
set_option maxRecDepth 100000 in
set_option maxHeartbeats 2000000 in
theorem settle_any (b gf gt : Nat) (X Y : List UInt8) (N : Nat) (o l sA sB : Value) (A : Option Addr) (n cap : Nat) (L : List Dm.Wr) (w : World) (hb : Blk w b 65 #[o, l, sA, sB, .slice A n cap]) (hX : Blk w gf 5 (Lib.byteCells X).toArray) (hY : Blk w gt 5 (Lib.byteCells Y).toArray)
    (hxn : X.length = N) (hyn : Y.length = N) (hbig : N ≤ 4194304) (hL : OwnL 69 2 Dm.Wr.cells w (.slice A n cap) L) :
    Calls Try.prog 37 #[.pointer (some ⟨b, 0, none⟩), .slice (some ⟨gf, 0, none⟩) N N, .slice (some ⟨gt, 0, none⟩) N N] w fun e w' => e = .returned (.tuple #[]) ∧
      Blk w' gt 5 (Lib.byteCells X).toArray ∧ Blk w' b 65 #[o, l, sA, sB, .slice A 0 cap] ∧ OwnL 69 2 Dm.Wr.cells w' (.slice A 0 cap) ([] : List Dm.Wr) ∧ Fr (b :: gt :: (Value.slice A n cap).ownBlock.toList) w w' := by
  have hcp : ∀ ty, (Builtin.copy_ #[40, 40] ty #[.slice (some ⟨gt, 0, none⟩) N N, .slice (some ⟨gf, 0, none⟩) N N]).run Try.prog w = .ok (goInt N) (w.setRow gt (Lib.byteCells X).toArray) := fun ty => by
    have h1 := run_copy_row (P := Try.prog) w 40 40 ty 5 gt 0 N N ⟨gf, 0, none⟩ N N (Lib.byteCells Y).toArray 5 (Lib.byteCells X) Try.underlying40 (by
      have h3 := infoByte
      cases hq : Try.prog.info? 5 with
      | none => rw [hq] at h3; cases h3
      | some i => rw [hq] at h3; simp at h3 ⊢; exact h3.2.1) hY (by simp [Lib.byteCells, hxn]) (fun j v hj => by
      rw [show (⟨gf, 0, none⟩ : Addr).add j = ⟨gf, j, none⟩ from by unfold Addr.add; split <;> simp_all, hX.cell]
      simpa using hj) (by simp [Lib.byteCells, hxn, hyn]) (Lib.byteCells_one _)
    rw [h1]
    simp [Lib.byteCells, hxn]
    rw [List.drop_of_length_le (by simp [hyn]), List.append_nil]
  have hne : gt ≠ b := blk_ne hY hb (by decide)
  have hb1 : Blk (w.setRow gt (Lib.byteCells X).toArray) b 65 #[o, l, sA, sB, .slice A n cap] := hb.fr ((Fr.refl [gt] w).setRow (.inl (by simp)) _) (by simpa using hne.symm)
  have hx1 : Blk (w.setRow gt (Lib.byteCells X).toArray) gt 5 (Lib.byteCells X).toArray := hY.setRow
  have hl1 : OwnL 69 2 Dm.Wr.cells (w.setRow gt (Lib.byteCells X).toArray) (.slice A n cap) L := hL.fr ((Fr.refl [gt] w).setRow (.inl (by simp)) _) (fun g hg => by
    have h9 := hL.ne hY (by decide) hg
    simpa using h9)
  have c4 : (w.setRow gt (Lib.byteCells X).toArray).cell? ⟨b, 4, none⟩ = some (.slice A n cap) := hb1.cell 4
  have z4 := hb1.frozen 4
  have hlt := hb1.lt
  have hFr : Fr (b :: gt :: (Value.slice A n cap).ownBlock.toList) w (w.setRow gt (Lib.byteCells X).toArray) := (Fr.refl _ w).setRow (.inl (by simp)) _
  rcases Nat.eq_zero_or_pos n with h0 | h0
  · subst h0
    have HE : Hid (Blk ((w.setRow gt (Lib.byteCells X).toArray).setCell ⟨b, 4, none⟩ (.slice A 0 cap)) b 65 #[o, l, sA, sB, .slice A 0 cap]) := Lib.hid (by simpa using hb1.set_ 4 (.slice A 0 cap))
    have HX := Lib.hid (hx1.far hne (p := ⟨b, 4, none⟩) (.slice A 0 cap))
    have HFR := Lib.hid (hFr.setCell (p := ⟨b, 4, none⟩) (.inl (by simp)) (.slice A 0 cap))
    have HL := Lib.hid hl1
    have HB1 := Lib.hid hb1
    have hcl := fun W ty => run_clear_zero (P := Try.prog) W 63 69 ty A cap Try.underlying63
    clear hFr hb1 hx1 hl1 hb hX hY hL
    go_enter Try.func37, Try.ntmps37
    go_wp2_with fail
    go_end0
    refine ⟨rfl, HX.out, HE.out, ?_, HFR.out⟩
    have hL0 : L = [] := by
      obtain ⟨A', c', hv⟩ := HL.out.val
      injection hv with _ h2 _
      exact List.eq_nil_of_length_eq_zero h2.symm
    subst hL0
    exact HL.out.fr ((Fr.refl [b] _).setCell (p := ⟨b, 4, none⟩) (.inl (by simp)) _) (fun g hg => by
      have h9 := HL.out.ne HB1.out (by decide) hg
      simpa using h9)
  · rcases hl1.2 with ⟨_, h9⟩ | ⟨g, cap', cur, hv, _, hg, hnc, hcm, hcs, _⟩
    · obtain ⟨A', c', hv⟩ := hL.val
      injection hv with _ h2 _
      omega
    · injection hv with a1 a2 a3
      subst a1 a3
      rw [← a2] at hnc
      clear a2
      obtain ⟨CUR, hCUR⟩ : ∃ C : Array Value, C = ((Builtin.zeroCells (Value.agg #[.int .i64 0, .string ⟨#[]⟩]).cells n).toList ++ cur.toList.drop (Builtin.zeroCells (Value.agg #[.int .i64 0, .string ⟨#[]⟩]).cells n).toList.length).toArray := ⟨_, rfl⟩
      have hcl : ∀ ty, (Builtin.clear_ #[63] ty #[.slice (some ⟨g, 0, none⟩) n cap]).run Try.prog (w.setRow gt (Lib.byteCells X).toArray) = .ok (.tuple #[]) ((w.setRow gt (Lib.byteCells X).toArray).setRow g CUR) := fun ty => by
        rw [hCUR]
        exact run_clear_row _ 63 69 ty _ Try.underlying63 (fun W => by kernel_rfl) (by simp [Value.cells, Value.oneCell']) wrZeros_one g n cap h0 cur _ hg (by rw [wrZeros_len, hcs]; omega)
      have hsz : CUR.size = cur.size := by
        rw [hCUR]
        have hz := wrZeros_len n
        rw [List.size_toArray, List.length_append, List.length_drop, hz, Array.length_toList]
        omega
      have hgb : g ≠ b := hl1.ne hb1 (by decide) rfl
      have hgt : g ≠ gt := hl1.ne hx1 (by decide) rfl
      have f2 := (Fr.refl [g] (w.setRow gt (Lib.byteCells X).toArray)).setRow (g := g) (.inl (by simp)) CUR
      have hb2 := hb1.fr f2 (by simpa using hgb.symm)
      have hx2 := hx1.fr f2 (by simpa using hgt.symm)
      have c42 : ((w.setRow gt (Lib.byteCells X).toArray).setRow g CUR).cell? ⟨b, 4, none⟩ = some (.slice (some ⟨g, 0, none⟩) n cap) := hb2.cell 4
      have z42 := hb2.frozen 4
      have hlt2 := hb2.lt
      have HE : Hid (Blk (((w.setRow gt (Lib.byteCells X).toArray).setRow g CUR).setCell ⟨b, 4, none⟩ (.slice (some ⟨g, 0, none⟩) 0 cap)) b 65 #[o, l, sA, sB, .slice (some ⟨g, 0, none⟩) 0 cap]) := Lib.hid (by simpa using hb2.set_ 4 (.slice (some ⟨g, 0, none⟩) 0 cap))
      have HX := Lib.hid (hx2.far hne (p := ⟨b, 4, none⟩) (.slice (some ⟨g, 0, none⟩) 0 cap))
      have HFR := Lib.hid ((hFr.setRow (g := g) (.inl (by simp [Value.ownBlock])) CUR).setCell (p := ⟨b, 4, none⟩) (.inl (by simp)) (.slice (some ⟨g, 0, none⟩) 0 cap))
      have HO := Lib.hid (own_cleared (w' := ((w.setRow gt (Lib.byteCells X).toArray).setRow g CUR).setCell ⟨b, 4, none⟩ (.slice (some ⟨g, 0, none⟩) 0 cap)) hl1 (fun x hx => by
        have e : g = x := by simpa [Value.ownBlock] using hx
        subst e
        refine ⟨CUR, (Blk.far (show Blk _ g 69 CUR from setRow_heap _ g cur CUR _ _ hg) (p := ⟨b, 4, none⟩) hgb _), fun c2 hc2 => ?_⟩
        rw [hg] at hc2
        injection hc2 with hc2
        injection hc2 with hc2 _
        rw [hsz, hc2]))
      have hn63 : n ≤ 9223372036854775807 := by
        have := hcm
        simp only [maxLen] at this
        omega
      clear hFr hb1 hx1 hl1 hb hX hY hL hb2 hx2 f2 hg hcs hCUR hsz
      go_enter Try.func37, Try.ntmps37
      go_wp2_with fail
      go_end0
      exact ⟨rfl, HX.out, HE.out, HO.out, HFR.out⟩
end Go.Proofs.Ytbmakjhfoaadoaa

/-
  MatchViews: the views in memory, beside an index, a log and a state.
-/
import Derived.Test.YtciaallekkdnhaaGreatMuK
import Derived.OwnWalk
namespace Go.Proofs.YtciaallekkdnhaaGreat
open Go.RowKit

structure VR where
  A : Option Addr
  n : Nat
  c : Nat
  r : Res
def VR.cells (x : VR) : List Value := [.slice x.A x.n x.c, .int .i64 x.r.value, .bool x.r.found]
theorem VR.len (x : VR) : x.cells.length = 3 := rfl
theorem VR.one (x : VR) : ∀ u ∈ x.cells, u.oneCell' = true := by
  intro u hu
  simp only [VR.cells, List.mem_cons, List.not_mem_nil, or_false] at hu
  rcases hu with rfl | rfl | rfl <;> rfl
/-- Two rows of different types lie in different blocks. -/
theorem own_own {X Y : Type} {e1 e2 s1 s2 : Nat} {enc1 : X → List Value} {enc2 : Y → List Value} {w : World} {v1 v2 : Value} {L1 : List X} {L2 : List Y} (h1 : OwnL e1 s1 enc1 w v1 L1) (h2 : OwnL e2 s2 enc2 w v2 L2) (he : e1 ≠ e2) {g : Nat} (hg : v1.ownBlock = some g) : v2.ownBlock ≠ some g := by
  intro hg2
  rcases h1.2 with ⟨rfl, -⟩ | ⟨g1, cap1, cur1, rfl, _, hh1, _⟩
  · simp [Value.ownBlock] at hg
  · rcases h2.2 with ⟨rfl, -⟩ | ⟨g2, cap2, cur2, rfl, _, hh2, _⟩
    · simp [Value.ownBlock] at hg2
    · simp [Value.ownBlock] at hg hg2
      subst hg hg2
      rw [hh1] at hh2
      injection hh2 with hh2
      injection hh2 with _ hh2 _
      exact he hh2
/-- Rows do not lie among views. -/
theorem AtL.ne_views {w w' : World} {A : Option Addr} {L : List RowV} {gv n1 : Nat} {vs : List VR} (h : AtL RowV.cells 5 w A L) (ho : OwnL 71 3 VR.cells w (.slice (some ⟨gv, 0, none⟩) n1 n1) vs) (hf : Fr [gv] w w') : AtL RowV.cells 5 w' A L := by
  intro hl
  obtain ⟨b, off, e, hlt, hc⟩ := h hl
  have hne : b ≠ gv := fun e2 => by
    subst e2
    rcases ho.2 with ⟨h1, -⟩ | ⟨g, cap, cur, h1, _, hh, hnc, _, hcs, htk⟩
    · cases h1
    · injection h1 with h1 h2 h3
      injection h1 with h1
      injection h1 with h1
      subst h1 h3
      have key : ∀ j, j < 5 → ∃ z, cur[off + j]? = some (.int .i64 z) := fun j hj => by
        have h4 := hc 0 hl j hj
        rw [Nat.zero_mul, Nat.add_zero, cell_of_row w b _ cur _ (0, 0) hh] at h4
        have h5 : ∃ z, (RowV.cells L[0])[j]? = some (.int .i64 z) := by
          match j, hj with
          | 0, _ => exact ⟨_, rfl⟩
          | 1, _ => exact ⟨_, rfl⟩
          | 2, _ => exact ⟨_, rfl⟩
          | 3, _ => exact ⟨_, rfl⟩
          | 4, _ => exact ⟨_, rfl⟩
        obtain ⟨z, h5⟩ := h5
        exact ⟨z, h4.trans h5⟩
      obtain ⟨j, i, hj, hji⟩ : ∃ j i, j < 3 ∧ off + j = i * 3 := by
        have h6 := Nat.div_add_mod (off + 2) 3
        have h7 := Nat.mod_lt (off + 2) (by decide : 0 < 3)
        exact ⟨2 - (off + 2) % 3, (off + 2) / 3, by omega, by omega⟩
      obtain ⟨z, hz⟩ := key j (by omega)
      have hlt2 : off + j < cur.size := by
        rcases Nat.lt_or_ge (off + j) cur.size with h8 | h8
        · exact h8
        · rw [Array.getElem?_eq_none h8] at hz
          cases hz
      have hin : i < vs.length := by
        rw [hcs, hji] at hlt2
        have h9 : vs.length = n1 := h2.symm
        omega
      have h10 := flat_get VR.len vs i hin 0 (by decide)
      rw [← htk, Nat.add_zero, ← hji, List.getElem?_take, if_pos (by omega)] at h10
      have h11 : cur.toList[off + j]? = cur[off + j]? := by simp
      rw [h11, hz] at h10
      have h12 : (VR.cells vs[i])[0]? = some (.slice vs[i].A vs[i].n vs[i].c) := rfl
      rw [h12] at h10
      cases h10
  refine ⟨b, off, e, Nat.lt_of_lt_of_le hlt hf.size, fun i hi j hj => ?_⟩
  rw [hf.cell (p := ⟨b, off + i * 5 + j, none⟩) hlt (by simpa using hne)]
  exact hc i hi j hj
structure VwAt (wr : World) (gv n1 : Nat) (vs : List VR) : Prop where
  own : OwnL 71 3 VR.cells wr (.slice (some ⟨gv, 0, none⟩) n1 n1) vs
  rows : ∀ x ∈ vs, AtL RowV.cells 5 wr x.A x.r.rows ∧ x.n = x.r.rows.length
section
variable {w wr w' : World} {gv n1 : Nat} {vs : List VR}
theorem VwAt.len (h : VwAt wr gv n1 vs) : n1 = vs.length := by
  obtain ⟨A, cap, hv⟩ := h.own.val
  injection hv
theorem VwAt.form (h : VwAt wr gv n1 vs) {i : Nat} (hi : i < n1) : gv < wr.heap.size ∧ (∀ (hi' : i < vs.length) j, j < 3 → wr.cell? ⟨gv, i * 3 + j, none⟩ = (vs[i].cells)[j]?) ∧ ∀ o, wr.frozen? ⟨gv, o, none⟩ = false := by
  have hl := h.len
  obtain ⟨g, cap, hv, -, -, h1, h2, h3⟩ := h.own.form VR.len (by omega)
  injection hv with hv _ _
  injection hv with hv
  injection hv with hv
  subst hv
  exact ⟨h1, fun hi' j hj => h2 i hi' j hj, h3⟩
theorem VwAt.fr0 (h : VwAt wr gv n1 vs) (hf : Fr [] wr w') : VwAt w' gv n1 vs := ⟨h.own.fr hf (by simp), fun x hx => ⟨(h.rows x hx).1.fr0 hf, (h.rows x hx).2⟩⟩
theorem VwAt.ob : (Value.slice (some ⟨gv, 0, none⟩) n1 n1).ownBlock = some gv := by simp [Value.ownBlock]
theorem VwAt.ne_blk (h : VwAt wr gv n1 vs) {b t : Nat} {cs : Array Value} (hb : Blk wr b t cs) (ht : 71 ≠ t) : gv ≠ b := h.own.ne hb ht VwAt.ob
theorem VwAt.ne_map {K V : Type} {P : Program} {k : TypeId} {kl : K → Lit} {ev : V → Value} {b : Nat} {M : List (K × V)} (h : VwAt wr gv n1 vs) (hb : VMap P k kl ev wr b M) : gv ≠ b := h.own.ne_map hb VwAt.ob
theorem VwAt.frS (h : VwAt wr gv n1 vs) {bs ms : Nat} {s : Sm.Sta} (hs : StaAt wr bs ms s) (hf : Fr [bs, ms] wr w') : VwAt w' gv n1 vs := by
  have e1 := h.ne_blk hs.blk (by decide)
  have e2 := h.ne_map hs.map
  refine ⟨h.own.fr hf (fun g hg => ?_), fun x hx => ⟨(h.rows x hx).1.frS hs hf, (h.rows x hx).2⟩⟩
  rw [VwAt.ob] at hg
  injection hg with hg
  subst hg
  simp [e1, e2]
/-- A small block of another type, or another one, is written. -/
theorem VwAt.frB (h : VwAt wr gv n1 vs) {b t : Nat} {cs : Array Value} (hb : Blk wr b t cs) (hne : gv ≠ b) (hs : cs.size ≤ 4) (hf : Fr [b] wr w') : VwAt w' gv n1 vs := by
  refine ⟨h.own.fr hf (fun g hg => ?_), fun x hx => ⟨(h.rows x hx).1.ne_small hb hs hf, (h.rows x hx).2⟩⟩
  rw [VwAt.ob] at hg
  injection hg with hg
  subst hg
  simpa using hne
/-- A view is set. -/
theorem VwAt.set (h : VwAt wr gv n1 vs) {i : Nat} (hi : i < n1) (x : VR) (hx : AtL RowV.cells 5 wr x.A x.r.rows ∧ x.n = x.r.rows.length) :
    VwAt (((wr.setCell ⟨gv, i * 3, none⟩ (.slice x.A x.n x.c)).setCell ⟨gv, i * 3 + 1, none⟩ (.int .i64 x.r.value)).setCell ⟨gv, i * 3 + 2, none⟩ (.bool x.r.found)) gv n1 (vs.set i x) ∧ Fr [gv] wr (((wr.setCell ⟨gv, i * 3, none⟩ (.slice x.A x.n x.c)).setCell ⟨gv, i * 3 + 1, none⟩ (.int .i64 x.r.value)).setCell ⟨gv, i * 3 + 2, none⟩ (.bool x.r.found)) := by
  have hl := h.len
  have hi' : i < vs.length := by omega
  have hf : Fr [gv] wr (((wr.setCell ⟨gv, i * 3, none⟩ (.slice x.A x.n x.c)).setCell ⟨gv, i * 3 + 1, none⟩ (.int .i64 x.r.value)).setCell ⟨gv, i * 3 + 2, none⟩ (.bool x.r.found)) := (((Fr.refl [gv] wr).setCell (.inl (by simp)) _).setCell (.inl (by simp)) _).setCell (.inl (by simp)) _
  have o1 := h.own.set VR.len VwAt.ob hi' (j := 0) (by decide) (.slice x.A x.n x.c) ⟨x.A, x.n, x.c, vs[i].r⟩ rfl
  have o2 := o1.set VR.len VwAt.ob (by rw [List.length_set]; exact hi') (j := 1) (by decide) (.int .i64 x.r.value) ⟨x.A, x.n, x.c, ⟨[], x.r.value, vs[i].r.found⟩⟩ (by simp [VR.cells])
  have o3 := o2.set VR.len VwAt.ob (by rw [List.length_set, List.length_set]; exact hi') (j := 2) (by decide) (.bool x.r.found) x (by simp [VR.cells])
  rw [Nat.add_zero] at o3
  have e3 : ((vs.set i ⟨x.A, x.n, x.c, vs[i].r⟩).set i ⟨x.A, x.n, x.c, ⟨[], x.r.value, vs[i].r.found⟩⟩).set i x = vs.set i x := by rw [List.set_set, List.set_set]
  rw [e3] at o3
  refine ⟨⟨o3, fun y hy => ?_⟩, hf⟩
  rcases List.mem_or_eq_of_mem_set hy with hy | rfl
  · exact ⟨(h.rows y hy).1.ne_views h.own hf, (h.rows y hy).2⟩
  · exact ⟨hx.1.ne_views h.own hf, hx.2⟩
end
theorem flat_views (n : Nat) : (madeCells #[.slice none 0 0, .int .i64 0, .bool false] (n * 3)).toList = (List.replicate n (⟨none, 0, 0, ⟨[], 0, false⟩⟩ : VR)).flatMap VR.cells := by
  apply List.ext_getElem?
  intro q
  by_cases hq : q < n * 3
  · have h2 := flat_get VR.len (List.replicate n (⟨none, 0, 0, ⟨[], 0, false⟩⟩ : VR)) (q / 3) (by rw [List.length_replicate]; omega) (q % 3) (Nat.mod_lt _ (by decide))
    have h3 : q / 3 * 3 + q % 3 = q := by have := Nat.div_add_mod q 3; omega
    rw [h3, List.getElem_replicate] at h2
    rw [h2]
    have h4 : q % 3 < 3 := Nat.mod_lt _ (by decide)
    obtain ⟨j, hj⟩ : ∃ j, q % 3 = j := ⟨_, rfl⟩
    rw [hj] at h4 ⊢
    match j, h4 with
    | 0, _ => simp [madeCells, hq, hj, VR.cells]
    | 1, _ => simp [madeCells, hq, hj, VR.cells]
    | 2, _ => simp [madeCells, hq, hj, VR.cells]
  · have h5 : ((List.replicate n (⟨none, 0, 0, ⟨[], 0, false⟩⟩ : VR)).flatMap VR.cells).length = n * 3 := by rw [flat_len VR.len, List.length_replicate]
    rw [List.getElem?_eq_none (by simp [madeCells]; omega), List.getElem?_eq_none (by omega)]
end Go.Proofs.YtciaallekkdnhaaGreat

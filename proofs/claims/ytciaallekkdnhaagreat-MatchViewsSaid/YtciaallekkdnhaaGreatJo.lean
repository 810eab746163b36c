/-
  slices.Insert; without and inserted: at rows.
-/
import Derived.Test.YtciaallekkdnhaaGreatJl
import Derived.Laws.NewBlocks
import Derived.Lib.JoinLaws
import Derived.Deep.RegionLaw
import Derived.StillTailTactics
namespace Go.Proofs.YtciaallekkdnhaaGreat
open Go.RowKit

section
variable {P : Program}
/-- append, its run known. -/
theorem wp_appendP (w : World) {o : Oper} {a : Act} {K : Act → World → Prop} {Q : Exit → Act → World → Prop} (d s : Operand) (t t' : TypeId)
    (ho : o.op = .call { callee := .builtin .append, args := #[d, s], argTypes := #[t, t'] }) (v u : Value) (hd : a.eval d = v) (hs : a.eval s = u) {v' : Value} {w' : World}
    (hr : (Builtin.append_ #[t, t'] o.type #[v, u]).run P w = .ok v' w') (h : K (a.put o.dst v') w') : o.wp P a w K Q := by
  unfold Oper.wp execOp
  simp only [ho, resolve, invoke, builtin, Sem.run_bind, Sem.run_pure, Result.andThen_ok, List.map_toArray, List.map_cons, List.map_nil, hd, hs, hr]
  exact h
theorem wpList_appendP (w : World) {ops : Array Oper} {rest : List Oper} {o : Oper} {a : Act} {Q : Exit → Act → World → Prop} (hgd : o.guard = none) (d s : Operand) (t t' : TypeId)
    (ho : o.op = .call { callee := .builtin .append, args := #[d, s], argTypes := #[t, t'] }) (v u : Value) (hd : a.eval d = v) (hs : a.eval s = u) {v' : Value} {w' : World}
    (hr : (Builtin.append_ #[t, t'] o.type #[v, u]).run P w = .ok v' w') (h : wpList P ops Q rest (a.put o.dst v') w') : wpList P ops Q (o :: rest) a w :=
  wpList_plain hgd fun _ hK => wp_appendP w d s t t' ho v u hd hs hr (hK _ _ h)
end
theorem own_insB {X : Type} {e size : Nat} {enc : X → List Value} {w' : World} {L : List X} (henc : ∀ x, (enc x).length = size) {g i cap m : Nat} {cur : Array Value} {x : X} (hb : Blk w' g e (wr (wr cur (i * size) (enc x)) (i * size + size) ((L.drop i).flatMap enc))) (hs : cur.size = cap * size) (hi : i ≤ L.length) (hm : m = L.length + 1) (hc : m ≤ cap) (hmx : cap ≤ maxLen) (hcur : ∀ k, k < i * size → cur[k]? = ((L.take i).flatMap enc)[k]?) (_x : X) :
    OwnL e size enc w' (.slice (some ⟨g, 0, none⟩) m cap) (L.take i ++ x :: L.drop i) := by
  have hdl : ((L.drop i).flatMap enc).length = (L.length - i) * size := by rw [flat_len henc, List.length_drop]
  have h1 : (L.length - i) * size + (i * size + size) = m * size := by rw [hm, Nat.add_mul, ← Nat.add_assoc, ← Nat.add_mul, Nat.sub_add_cancel hi, Nat.one_mul]
  have h2 : m * size ≤ cap * size := Nat.mul_le_mul_right _ hc
  refine OwnL.of_blk henc hb (by simp [hm]; omega) hc hmx (by rw [wr_size, wr_size, hs]) (fun k hk => ?_)
  rw [wr_get _ _ _ _ (by rw [wr_size, hdl, hs]; omega), hdl, wr_get _ _ _ _ (by rw [henc, hs]; omega), henc, flat_ins henc L x hi]
  by_cases c1 : k < i * size
  · rw [if_neg (by omega), if_neg (by omega), if_pos c1, hcur k c1]
  · by_cases c2 : k < i * size + size
    · rw [if_neg (by omega), if_pos (by omega), if_neg c1, if_pos c2]
    · rw [if_pos (by omega), if_neg c1, if_neg c2]
theorem rowFlat_one (L : List RowV) : ∀ v ∈ L.flatMap RowV.cells, v.oneCell' = true := by
  intro v hv
  obtain ⟨x, -, hx⟩ := List.mem_flatMap.1 hv
  exact RowV.cells_one x v hx
set_option maxRecDepth 100000 in
set_option maxHeartbeats 4000000 in
/-- Insert at the end. -/
theorem rowInsEnd (A : Option Addr) (n cap : Nat) (L : List RowV) (x : RowV) (vb : Nat) (w : World) (ho : OwnL 116 5 RowV.cells w (.slice A n cap) L) (hl : n ≤ 100000) (hv : Blk w vb 116 (RowV.cells x).toArray) :
    Calls Tryz.prog 149 #[.slice A n cap, .int .i64 n, .slice (some ⟨vb, 0, none⟩) 1 1] w fun e w' => ∃ v', e = .returned v' ∧ OwnL 116 5 RowV.cells w' v' (L ++ [x]) ∧ Fr (sliceB A) w w' ∧ (v'.ownBlock = (Value.slice A n cap).ownBlock ∨ v'.ownBlock = some w.heap.size) := by
  obtain ⟨i0, TR⟩ := etRowP
  have hn := ho.blk.1
  have hcap : n ≤ cap := by
    rcases ho.blk.2 with h | ⟨g, cur, -, -, h, -⟩
    · rw [h.2.1] at hn
      simp at hn
      omega
    · exact h
  have HO := Lib.hid ho
  have HR := Lib.hid (reads_of_at RowV.cells_len (by decide) (AtL.of_blk (L := [x]) RowV.cells_len hv (by simp)))
  have HN := Lib.hid hn
  have HL := Lib.hid hl
  have hnn : (0 : Int) ≤ (n : Int) := by omega
  clear ho hv hn
  by_cases hcn : cap = n
  · subst hcn
    go_enter Tryz.func149, Tryz.ntmps149
    go_wp2_with (at_builtin; refine wpList_appendL rfl _ _ rfl TR RowV.cells_len RowV.cells_one rfl HO.out _ _ _ _ [x] rfl rfl HR.out (by have := HL.out; have := HN.out; simp only [maxLen, List.length_singleton]; omega) (by have := HL.out; have := HN.out; simp only [List.length_singleton]; omega) ?_; intro v5 w1 hown5 hg5 hat5; have HG5 := Lib.hid hg5; have HO5 := Lib.hid hown5; have HA5 := Lib.hid hat5; clear hg5 hown5 hat5)
    go_ret
    exact ⟨v5, rfl, HO5.out, (Fr.refl _ _).grown HG5.out (fun g h => .inl (by cases A with
      | none => cases h
        | some a => injection h with h; simp [sliceB, h])), HA5.out⟩
  · skip
    go_enter Tryz.func149, Tryz.ntmps149
    go_wp2_with (at_builtin; refine wpList_appendL rfl _ _ rfl TR RowV.cells_len RowV.cells_one rfl HO.out _ _ _ _ [x] rfl rfl HR.out (by have := HL.out; have := HN.out; simp only [maxLen, List.length_singleton]; omega) (by have := HL.out; have := HN.out; simp only [List.length_singleton]; omega) ?_; intro v5 w1 hown5 hg5 hat5; have HG5 := Lib.hid hg5; have HO5 := Lib.hid hown5; have HA5 := Lib.hid hat5; clear hg5 hown5 hat5)
    go_ret
    exact ⟨v5, rfl, HO5.out, (Fr.refl _ _).grown HG5.out (fun g h => .inl (by cases A with
      | none => cases h
        | some a => injection h with h; simp [sliceB, h])), HA5.out⟩
set_option maxRecDepth 100000 in
set_option maxHeartbeats 4000000 in
/-- Insert within a slice that has room. -/
theorem rowInsShift (g n cap : Nat) (L : List RowV) (i : Nat) (x : RowV) (vb : Nat) (w : World) (ho : OwnL 116 5 RowV.cells w (.slice (some ⟨g, 0, none⟩) n cap) L) (hi : i < n) (hroom : n + 1 ≤ cap) (hl : n ≤ 100000) (hv : Blk w vb 116 (RowV.cells x).toArray) (hne : vb ≠ g) :
    Calls Tryz.prog 149 #[.slice (some ⟨g, 0, none⟩) n cap, .int .i64 i, .slice (some ⟨vb, 0, none⟩) 1 1] w fun e w' => e = .returned (.slice (some ⟨g, 0, none⟩) (n + 1) cap) ∧ OwnL 116 5 RowV.cells w' (.slice (some ⟨g, 0, none⟩) (n + 1) cap) (L.take i ++ x :: L.drop i) ∧ Fr [g] w w' := by
  obtain ⟨hn, h0 | ⟨g', cur, hA, hb, hnc, hcm, hcs, hct⟩⟩ := ho.blk
  · cases h0.1
  · injection hA with hA
    injection hA with hA
    subst hA
    obtain ⟨i0, TR⟩ := etRowP
    have hcm63 : cap ≤ 9223372036854775807 := by unfold maxLen at hcm; omega
    have hov : ∀ off lb cb, (callFunc 174 #[.slice (some ⟨vb, 0, none⟩) 1 1, .slice (some ⟨g, off, none⟩) lb cb]).run Tryz.prog w = .ok (.value (.bool false)) w := fun off lb cb => by
      rw [run_callFunc_extern Tryz.func174 (by kernel_rfl) (by kernel_rfl) (by kernel_rfl) (e := Extern.SlicesOverlaps.overlaps #[69, 69] #[4]) (by kernel_rfl),
        Lib.run_overlaps_apart w 69 4 116 Tryz.underlying69 5 (fun w => by kernel_rfl) ⟨vb, 0, none⟩ ⟨g, off, none⟩ 1 1 lb cb hne 116 116 (RowV.cells x).toArray.size cur.size (by unfold Blk at hv; simp [World.shape?, hv]) (by unfold Blk at hb; simp [World.shape?, hb]) (by rw [hcs]; omega) (hv.frozen _) (hv.frozen _)]
      rfl
    have hdl : ((L.drop i).flatMap RowV.cells).length = (n - i) * 5 := by rw [flat_len RowV.cells_len, List.length_drop, hn]
    have hat := (ho.at1 RowV.cells_len).1
    have hsz : (Tryz.prog.info? 116).map (·.size) = some 5 := by kernel_rfl
    have hcp1 : ∀ ty o1 o2 l1 l2 c1 c2, o1 = i * 5 + 5 → o2 = i * 5 → l1 = n - i → l2 = n + 1 - i → (Builtin.copy_ #[69, 69] ty #[.slice (some ⟨g, o1, none⟩) l1 c1, .slice (some ⟨g, o2, none⟩) l2 c2]).run Tryz.prog w.drew = .ok (goInt ((n - i : Nat) : Int)) (w.drew.setCells g (i * 5 + 5) ((L.drop i).flatMap RowV.cells)) := by
      intro ty o1 o2 l1 l2 c1 c2 e1 e2 e3 e4
      subst e1 e2 e3 e4
      refine run_copy_put w.drew 69 69 ty 116 5 g (i * 5 + 5) (n - i) c1 116 cur ⟨g, i * 5, none⟩ (n + 1 - i) c2 ((L.drop i).flatMap RowV.cells) Tryz.underlying69 hsz (n - i) (by simp only [Nat.min_def]; split <;> omega) hdl (fun j v hj => ?_) hb.drew (by rw [hcs]; omega) (rowFlat_one _)
      obtain ⟨b', off', hA', -, hc⟩ := hat (by omega)
      injection hA' with hA'
      injection hA' with e5 e6
      subst e5 e6
      have hj2 : j < (n - i) * 5 := by rw [← hdl]; exact (List.getElem?_eq_some_iff.1 hj).1
      have hq : i + j / 5 < L.length := by rw [← hn]; omega
      have h1 := hc (i + j / 5) hq (j % 5) (Nat.mod_lt _ (by decide))
      have h2 := flat_get RowV.cells_len (L.drop i) (j / 5) (by rw [List.length_drop]; omega) (j % 5) (Nat.mod_lt _ (by decide))
      rw [show j / 5 * 5 + j % 5 = j by omega, hj] at h2
      rw [Addr.add_lit, show i * 5 + j = 0 + (i + j / 5) * 5 + j % 5 by omega]
      show w.cell? _ = _
      rw [h1, h2]
      simp
    have hB1 : Blk (w.drew.setCells g (i * 5 + 5) ((L.drop i).flatMap RowV.cells)) g 116 _ := Blk.puts _ _ hb.drew
    have hV1 : Blk (w.drew.setCells g (i * 5 + 5) ((L.drop i).flatMap RowV.cells)) vb 116 (RowV.cells x).toArray := Blk.fr hv.drew (Fr.puts (S := [g]) _ _ (Fr.refl _ _) (.inl (by simp))) (by simpa using hne)
    have hcp2 : ∀ W, (Blk W g 116 (wr cur (i * 5 + 5) ((L.drop i).flatMap RowV.cells)) ∧ Blk W vb 116 (RowV.cells x).toArray) → ∀ ty o1 l1 c1, o1 = i * 5 → 1 ≤ l1 → (Builtin.copy_ #[69, 69] ty #[.slice (some ⟨g, o1, none⟩) l1 c1, .slice (some ⟨vb, 0, none⟩) 1 1]).run Tryz.prog W = .ok (goInt 1) (W.setCells g (i * 5) (RowV.cells x)) := by
      intro W hW ty o1 l1 c1 e1 e2
      subst e1
      refine run_copy_put W 69 69 ty 116 5 g (i * 5) l1 c1 116 _ ⟨vb, 0, none⟩ 1 1 (RowV.cells x) Tryz.underlying69 hsz 1 (by simp only [Nat.min_def]; split <;> omega) rfl (fun j v hj => ?_) hW.1 (by rw [wr_size, hcs]; omega) (RowV.cells_one x)
      rw [Addr.add_lit, Nat.zero_add, hW.2.cell]
      simpa using hj
    have hres := OwnL.insA (w := w.drew) (m := n + 1) RowV.cells_len hb.drew hcs (by omega : i ≤ L.length) (by omega) hroom hcm (fun k hk => by rw [OwnL.cur_get hct (by omega), flat_take RowV.cells_len, List.getElem?_take_of_lt hk]) x
    have HRES := Lib.hid hres
    have HF : Hid (Fr [g] w ((w.drew.setCells g (i * 5 + 5) ((L.drop i).flatMap RowV.cells)).setCells g (i * 5) (RowV.cells x))) := Lib.hid (Fr.puts _ _ (Fr.puts _ _ (Fr.refl _ _).drew (.inl (by simp))) (.inl (by simp)))
    have HCP1 := Lib.hid hcp1
    have HB1 := Lib.hid (And.intro hB1 hV1)
    have HCP2 := Lib.hid (hcp2 _ HB1.out)
    clear hres hcp1 hcp2 hB1 hV1 hat hdl hct hcs hb hv ho hn
    obtain ⟨w1, hw1⟩ : ∃ w1, w1 = w.drew.setCells g (i * 5 + 5) ((L.drop i).flatMap RowV.cells) := ⟨_, rfl⟩
    rw [← hw1] at HCP1 HCP2 HRES HF HB1
    have HW1 := Lib.hid hw1
    clear hw1
    have hn1 : IntKind.i64.wrap ((n : Int) + 1) = (n : Int) + 1 := by rw [IntKind.wrap_i64]; omega
    have hi1 : IntKind.i64.wrap ((i : Int) + 1) = (i : Int) + 1 := by rw [IntKind.wrap_i64]; omega
    have hb0 : ¬ ((i : Int) = (n : Int)) := by omega
    have hb1 : (0 : Int) ≤ (i : Int) := by omega
    have hb2 : (i : Int) ≤ (n : Int) := by omega
    have hb3 : ¬ ((cap : Int) < (n : Int) + 1) := by omega
    have hb4 : (0 : Int) ≤ (i : Int) + 1 := by omega
    have hb5 : (i : Int) + 1 ≤ (n : Int) + 1 := by omega
    have hb6 : (i : Int) ≤ (n : Int) + 1 := by omega
    have hb7 : ¬ cap = i := by omega
    have hb8 : ¬ cap = i + 1 := by omega
    have hb9 : (n : Int) + 1 ≤ (cap : Int) := by omega
    have ht1 : ((n : Int) + 1).toNat = n + 1 := by omega
    have ht2 : ((i : Int) + 1).toNat = i + 1 := by omega
    go_enter Tryz.func149, Tryz.ntmps149
    go_wp2_with fail
    go_still_tail 8, (by kernel_rfl)
    change wpList _ _ _ _ _ w.drew
    have k1 := fun ty c1 c2 => HCP1.out ty ((i + 1) * 5) (i * 5) (n - i) (n + 1 - i) c1 c2 (by omega) rfl rfl rfl
    have k2 := fun ty c1 => HCP2.out ty (i * 5) (n + 1 - i) c1 rfl (by omega)
    go_wp2_with fail
    go_ret
    exact ⟨rfl, HRES.out, HF.out⟩
set_option maxRecDepth 100000 in
set_option maxHeartbeats 4000000 in
/-- Insert into a slice that has no room: a new one. -/
theorem rowInsGrow (A : Option Addr) (n cap : Nat) (L : List RowV) (i : Nat) (x : RowV) (vb : Nat) (w : World) (ho : OwnL 116 5 RowV.cells w (.slice A n cap) L) (hi : i < n) (hroom : cap ≤ n) (hl : n ≤ 100000) (hv : Blk w vb 116 (RowV.cells x).toArray) :
    Calls Tryz.prog 149 #[.slice A n cap, .int .i64 i, .slice (some ⟨vb, 0, none⟩) 1 1] w fun e w' => ∃ c', e = .returned (.slice (some ⟨w.heap.size, 0, none⟩) (n + 1) c') ∧ OwnL 116 5 RowV.cells w' (.slice (some ⟨w.heap.size, 0, none⟩) (n + 1) c') (L.take i ++ x :: L.drop i) ∧ Fr [] w w' := by
  obtain ⟨hn, h0 | ⟨g, cur, hA, hb, hnc, hcm, hcs, hct⟩⟩ := ho.blk
  · rw [h0.2.1] at hn
    simp at hn
    omega
  · subst hA
    obtain ⟨i0, TR⟩ := etRowP
    obtain rfl : cap = n := by omega
    have hcm63 : cap ≤ 9223372036854775807 := by unfold maxLen at hcm; omega
    have hat := (ho.at1 RowV.cells_len).1
    have hsz : (Tryz.prog.info? 116).map (·.size) = some 5 := by kernel_rfl
    have hol : (Builtin.firstCells i0.size i (.slice (some ⟨g, 0, none⟩) i cap)).run Tryz.prog w.drew = .ok ((L.take i).flatMap RowV.cells).toArray w.drew := by
      rw [TR.hs]
      refine run_firstCells_some w.drew 5 i ⟨g, 0, none⟩ i cap _ (by rw [flat_len RowV.cells_len, List.length_take, ← hn]; congr 1; omega) (fun j u hu => ?_)
      obtain ⟨b', off', hA', -, hc⟩ := hat (by omega)
      injection hA' with hA'
      injection hA' with e5 e6
      subst e5 e6
      have hj2 : j < i * 5 := by
        have := (List.getElem?_eq_some_iff.1 hu).1
        rw [flat_len RowV.cells_len, List.length_take] at this
        omega
      have h1 := hc (j / 5) (by omega) (j % 5) (Nat.mod_lt _ (by decide))
      have h2 := flat_get RowV.cells_len L (j / 5) (by omega) (j % 5) (Nat.mod_lt _ (by decide))
      rw [show j / 5 * 5 + j % 5 = j by omega] at h2
      rw [flat_take RowV.cells_len, List.getElem?_take_of_lt hj2] at hu
      rw [Addr.add_lit]
      show w.cell? _ = _
      rw [show 0 + j = 0 + j / 5 * 5 + j % 5 by omega, h1, ← h2, hu]
    have hfit := growslice_fits (need := cap + 1) (old := cap) (bytes := i0.bytes) (by omega) (by rw [TR.hb]; omega)
    have hap : ∀ ty k q, k = cap + 1 - i → (Builtin.append_ #[69, 3] ty #[.slice (some ⟨g, 0, none⟩) i cap, .int q (k : Nat)]).run Tryz.prog w = .ok (.slice (some ⟨w.heap.size, 0, none⟩) (cap + 1) (grownCap w (cap + 1) cap 116)) (w.drew.alloc (.cells (((L.take i).flatMap RowV.cells).toArray ++ Builtin.zeroCells (Value.cells (.agg #[.int .i64 0, .int .i64 0, .int .i64 0, .int .i64 0, .int .i64 0])) (cap + 1 - i) ++ Builtin.zeroCells (Value.cells (.agg #[.int .i64 0, .int .i64 0, .int .i64 0, .int .i64 0, .int .i64 0])) (grownCap w (cap + 1) cap 116 - (cap + 1))) 116)) := by
      intro ty k q hk
      have h9 := Lib.run_append_grow_zeros (P := Tryz.prog) w 69 3 ty 116 i0 (.agg #[.int .i64 0, .int .i64 0, .int .i64 0, .int .i64 0, .int .i64 0]) q .i64 TR.ht Tryz.underlying3 TR.hi TR.hz (some ⟨g, 0, none⟩) i cap _ hol k (by omega) (by rw [TR.hs]; decide) (by omega) (by omega) (by rw [TR.hb]; omega) (by rw [show i + k = cap + 1 by omega]; exact hfit)
      rw [show i + k = cap + 1 by omega] at h9
      rw [h9, hk]
    have hge := grownCap_ge w (cap + 1) cap 116
    have hle := grownCap_le_maxLen w (cap + 1) cap 116 (by unfold maxLen; omega)
    generalize grownCap w (cap + 1) cap 116 = C at hap hge hle
    have hfl : ((L.take i).flatMap RowV.cells).length = i * 5 := by rw [flat_len RowV.cells_len, List.length_take, ← hn]; congr 1; omega
    have hdl : ((L.drop i).flatMap RowV.cells).length = (cap - i) * 5 := by rw [flat_len RowV.cells_len, List.length_drop, hn]
    obtain ⟨cur1, hcur1⟩ : ∃ c1, c1 = ((L.take i).flatMap RowV.cells).toArray ++ Builtin.zeroCells (Value.cells (.agg #[.int .i64 0, .int .i64 0, .int .i64 0, .int .i64 0, .int .i64 0])) (cap + 1 - i) ++ Builtin.zeroCells (Value.cells (.agg #[.int .i64 0, .int .i64 0, .int .i64 0, .int .i64 0, .int .i64 0])) (C - (cap + 1)) := ⟨_, rfl⟩
    have hc1s : cur1.size = C * 5 := by
      rw [hcur1, Array.size_append, Array.size_append, List.size_toArray, hfl, size_zeroCells, size_zeroCells]
      simp only [Value.cells]
      simp only [List.size_toArray, List.length_cons, List.length_nil]
      omega
    have hc1t : ∀ k, k < i * 5 → cur1[k]? = ((L.take i).flatMap RowV.cells)[k]? := fun k hk => by
      rw [hcur1, Array.append_assoc, Array.getElem?_append_left (by rw [List.size_toArray, hfl]; exact hk)]
      simp
    rw [← hcur1] at hap
    clear hcur1
    obtain ⟨W1, hW1⟩ : ∃ W1, W1 = w.drew.alloc (.cells cur1 116) := ⟨_, rfl⟩
    have hB0 : Blk W1 w.heap.size 116 cur1 := by rw [hW1]; exact Blk.new w.drew _ _
    have hF0 : Fr [] w W1 := by rw [hW1]; exact (Fr.refl _ _).drew.alloc _
    have hV1 : Blk W1 vb 116 (RowV.cells x).toArray := hv.fr hF0 (by simp)
    rw [← hW1] at hap
    have hcp1 : ∀ ty o1 l1 c1, o1 = i * 5 → 1 ≤ l1 → (Builtin.copy_ #[69, 69] ty #[.slice (some ⟨w.heap.size, o1, none⟩) l1 c1, .slice (some ⟨vb, 0, none⟩) 1 1]).run Tryz.prog W1 = .ok (goInt 1) (W1.setCells w.heap.size (i * 5) (RowV.cells x)) := by
      intro ty o1 l1 c1 e1 e2
      subst e1
      refine run_copy_put W1 69 69 ty 116 5 w.heap.size (i * 5) l1 c1 116 _ ⟨vb, 0, none⟩ 1 1 (RowV.cells x) Tryz.underlying69 hsz 1 (by simp only [Nat.min_def]; split <;> omega) rfl (fun j v hj => ?_) hB0 (by rw [hc1s]; omega) (RowV.cells_one x)
      rw [Addr.add_lit, Nat.zero_add, hV1.cell]
      simpa using hj
    have hB1 : Blk (W1.setCells w.heap.size (i * 5) (RowV.cells x)) w.heap.size 116 _ := Blk.puts _ _ hB0
    have hF1 : Fr [] w (W1.setCells w.heap.size (i * 5) (RowV.cells x)) := Fr.puts _ _ hF0 (.inr (Nat.le_refl _))
    obtain ⟨W2, hW2⟩ : ∃ W2, W2 = W1.setCells w.heap.size (i * 5) (RowV.cells x) := ⟨_, rfl⟩
    rw [← hW2] at hcp1 hB1 hF1
    clear hW1 hW2 hB0 hF0 hV1
    have hcp2 : ∀ ty o1 o2 l1 l2 c1 c2, o1 = i * 5 + 5 → o2 = i * 5 → l1 = cap - i → l2 = cap - i → (Builtin.copy_ #[69, 69] ty #[.slice (some ⟨w.heap.size, o1, none⟩) l1 c1, .slice (some ⟨g, o2, none⟩) l2 c2]).run Tryz.prog W2.drew = .ok (goInt ((cap - i : Nat) : Int)) (W2.drew.setCells w.heap.size (i * 5 + 5) ((L.drop i).flatMap RowV.cells)) := by
      intro ty o1 o2 l1 l2 c1 c2 e1 e2 e3 e4
      subst e1 e2 e3 e4
      refine run_copy_put W2.drew 69 69 ty 116 5 w.heap.size (i * 5 + 5) (cap - i) c1 116 _ ⟨g, i * 5, none⟩ (cap - i) c2 ((L.drop i).flatMap RowV.cells) Tryz.underlying69 hsz (cap - i) (by simp only [Nat.min_def]; split <;> omega) hdl (fun j v hj => ?_) hB1.drew (by rw [wr_size, hc1s]; omega) (rowFlat_one _)
      obtain ⟨b', off', hA', -, hc⟩ := (hat.fr0 hF1) (by omega)
      injection hA' with hA'
      injection hA' with e5 e6
      subst e5 e6
      have hj2 : j < (cap - i) * 5 := by rw [← hdl]; exact (List.getElem?_eq_some_iff.1 hj).1
      have hq : i + j / 5 < L.length := by rw [← hn]; omega
      have h1 := hc (i + j / 5) hq (j % 5) (Nat.mod_lt _ (by decide))
      have h2 := flat_get RowV.cells_len (L.drop i) (j / 5) (by rw [List.length_drop]; omega) (j % 5) (Nat.mod_lt _ (by decide))
      rw [show j / 5 * 5 + j % 5 = j by omega, hj] at h2
      rw [Addr.add_lit, show i * 5 + j = 0 + (i + j / 5) * 5 + j % 5 by omega]
      show W2.cell? _ = _
      rw [h1, h2]
      simp
    have hres : OwnL 116 5 RowV.cells (W2.drew.setCells w.heap.size (i * 5 + 5) ((L.drop i).flatMap RowV.cells)) (.slice (some ⟨w.heap.size, 0, none⟩) (cap + 1) C) (L.take i ++ x :: L.drop i) := own_insB RowV.cells_len (Blk.puts _ _ hB1.drew) hc1s (by omega) (by omega) hge hle hc1t x
    have HRES := Lib.hid hres
    have HF : Hid (Fr [] w (W2.drew.setCells w.heap.size (i * 5 + 5) ((L.drop i).flatMap RowV.cells))) := Lib.hid (Fr.puts _ _ hF1.drew (.inr (Nat.le_refl _)))
    have HCP1 := Lib.hid hcp1
    have HCP2 := Lib.hid hcp2
    have HAP := Lib.hid hap
    clear hres hcp1 hcp2 hB1 hat hdl hct hcs hb hv ho hn hap hc1s hc1t hF1 hfit hol hfl
    obtain ⟨gn, hgn⟩ : ∃ gn, gn = w.heap.size := ⟨_, rfl⟩
    rw [← hgn] at HRES HF HCP1 HCP2 HAP ⊢
    clear hgn
    have hn1 : IntKind.i64.wrap ((cap : Int) + 1) = (cap : Int) + 1 := by rw [IntKind.wrap_i64]; omega
    have hi1 : IntKind.i64.wrap ((i : Int) + 1) = (i : Int) + 1 := by rw [IntKind.wrap_i64]; omega
    have hn2 : IntKind.i64.wrap ((cap : Int) + 1 - (i : Int)) = ((cap + 1 - i : Nat) : Int) := by rw [IntKind.wrap_i64]; omega
    have hb0 : ¬ ((i : Int) = (cap : Int)) := by omega
    have hb1 : (0 : Int) ≤ (i : Int) := by omega
    have hb2 : (i : Int) ≤ (cap : Int) := by omega
    have hb3 : (cap : Int) < (cap : Int) + 1 := by omega
    have hb4 : (0 : Int) ≤ (i : Int) + 1 := by omega
    have hb5 : (i : Int) + 1 ≤ (cap : Int) + 1 := by omega
    have hb6 : (i : Int) ≤ (cap : Int) + 1 := by omega
    have hb7 : ¬ C = i := by omega
    have hb8 : ¬ C = i + 1 := by omega
    have hb9 : ¬ cap = i := by omega
    have ht1 : ((cap : Int) + 1).toNat = cap + 1 := by omega
    have ht2 : ((i : Int) + 1).toNat = i + 1 := by omega
    go_enter Tryz.func149, Tryz.ntmps149
    have k1 := fun ty c1 => HCP1.out ty (i * 5) (cap + 1 - i) c1 rfl (by omega)
    go_upto_region 11 with (at_builtin; refine wpList_appendP _ rfl _ _ 69 3 rfl _ _ rfl rfl (HAP.out _ _ _ rfl) ?_)
    clear k1
    go_still_tail 8, (by kernel_rfl)
    change wpList _ _ _ _ _ W2.drew
    have k2 := fun ty c1 c2 => HCP2.out ty ((i + 1) * 5) (i * 5) (cap - i) (cap - i) c1 c2 (by omega) rfl rfl rfl
    go_wp2_with fail
    go_ret
    exact ⟨C, rfl, HRES.out, HF.out⟩
end Go.Proofs.YtciaallekkdnhaaGreat
namespace Go.Proofs.YtciaallekkdnhaaGreat
open Go.RowKit

theorem pairFlat_one (L : List PairV) : ∀ v ∈ L.flatMap PairV.cells, v.oneCell' = true := by
  intro v hv
  obtain ⟨x, -, hx⟩ := List.mem_flatMap.1 hv
  exact PairV.cells_one x v hx
set_option maxRecDepth 100000 in
set_option maxHeartbeats 4000000 in
/-- Insert at the end. -/
theorem pairInsEnd (A : Option Addr) (n cap : Nat) (L : List PairV) (x : PairV) (vb : Nat) (w : World) (ho : OwnL 187 10 PairV.cells w (.slice A n cap) L) (hl : n ≤ 100000) (hv : Blk w vb 187 (PairV.cells x).toArray) :
    Calls Tryz.prog 178 #[.slice A n cap, .int .i64 n, .slice (some ⟨vb, 0, none⟩) 1 1] w fun e w' => ∃ v', e = .returned v' ∧ OwnL 187 10 PairV.cells w' v' (L ++ [x]) ∧ Fr (sliceB A) w w' ∧ (v'.ownBlock = (Value.slice A n cap).ownBlock ∨ v'.ownBlock = some w.heap.size) := by
  obtain ⟨i0, TR⟩ := etPairP
  have hn := ho.blk.1
  have hcap : n ≤ cap := by
    rcases ho.blk.2 with h | ⟨g, cur, -, -, h, -⟩
    · rw [h.2.1] at hn
      simp at hn
      omega
    · exact h
  have HO := Lib.hid ho
  have HR := Lib.hid (reads_of_at PairV.cells_len (by decide) (AtL.of_blk (L := [x]) PairV.cells_len hv (by simp)))
  have HN := Lib.hid hn
  have HL := Lib.hid hl
  have hnn : (0 : Int) ≤ (n : Int) := by omega
  clear ho hv hn
  by_cases hcn : cap = n
  · subst hcn
    go_enter Tryz.func178, Tryz.ntmps178
    go_wp2_with (at_builtin; refine wpList_appendL rfl _ _ rfl TR PairV.cells_len PairV.cells_one rfl HO.out _ _ _ _ [x] rfl rfl HR.out (by have := HL.out; have := HN.out; simp only [maxLen, List.length_singleton]; omega) (by have := HL.out; have := HN.out; simp only [List.length_singleton]; omega) ?_; intro v5 w1 hown5 hg5 hat5; have HG5 := Lib.hid hg5; have HO5 := Lib.hid hown5; have HA5 := Lib.hid hat5; clear hg5 hown5 hat5)
    go_ret
    exact ⟨v5, rfl, HO5.out, (Fr.refl _ _).grown HG5.out (fun g h => .inl (by cases A with
      | none => cases h
        | some a => injection h with h; simp [sliceB, h])), HA5.out⟩
  · skip
    go_enter Tryz.func178, Tryz.ntmps178
    go_wp2_with (at_builtin; refine wpList_appendL rfl _ _ rfl TR PairV.cells_len PairV.cells_one rfl HO.out _ _ _ _ [x] rfl rfl HR.out (by have := HL.out; have := HN.out; simp only [maxLen, List.length_singleton]; omega) (by have := HL.out; have := HN.out; simp only [List.length_singleton]; omega) ?_; intro v5 w1 hown5 hg5 hat5; have HG5 := Lib.hid hg5; have HO5 := Lib.hid hown5; have HA5 := Lib.hid hat5; clear hg5 hown5 hat5)
    go_ret
    exact ⟨v5, rfl, HO5.out, (Fr.refl _ _).grown HG5.out (fun g h => .inl (by cases A with
      | none => cases h
        | some a => injection h with h; simp [sliceB, h])), HA5.out⟩
set_option maxRecDepth 100000 in
set_option maxHeartbeats 4000000 in
/-- Insert within a slice that has room. -/
theorem pairInsShift (g n cap : Nat) (L : List PairV) (i : Nat) (x : PairV) (vb : Nat) (w : World) (ho : OwnL 187 10 PairV.cells w (.slice (some ⟨g, 0, none⟩) n cap) L) (hi : i < n) (hroom : n + 1 ≤ cap) (hl : n ≤ 100000) (hv : Blk w vb 187 (PairV.cells x).toArray) (hne : vb ≠ g) :
    Calls Tryz.prog 178 #[.slice (some ⟨g, 0, none⟩) n cap, .int .i64 i, .slice (some ⟨vb, 0, none⟩) 1 1] w fun e w' => e = .returned (.slice (some ⟨g, 0, none⟩) (n + 1) cap) ∧ OwnL 187 10 PairV.cells w' (.slice (some ⟨g, 0, none⟩) (n + 1) cap) (L.take i ++ x :: L.drop i) ∧ Fr [g] w w' := by
  obtain ⟨hn, h0 | ⟨g', cur, hA, hb, hnc, hcm, hcs, hct⟩⟩ := ho.blk
  · cases h0.1
  · injection hA with hA
    injection hA with hA
    subst hA
    obtain ⟨i0, TR⟩ := etPairP
    have hcm63 : cap ≤ 9223372036854775807 := by unfold maxLen at hcm; omega
    have hov : ∀ off lb cb, (callFunc 193 #[.slice (some ⟨vb, 0, none⟩) 1 1, .slice (some ⟨g, off, none⟩) lb cb]).run Tryz.prog w = .ok (.value (.bool false)) w := fun off lb cb => by
      rw [run_callFunc_extern Tryz.func193 (by kernel_rfl) (by kernel_rfl) (by kernel_rfl) (e := Extern.SlicesOverlaps.overlaps #[185, 185] #[4]) (by kernel_rfl),
        Lib.run_overlaps_apart w 185 4 187 Tryz.underlying185 10 (fun w => by kernel_rfl) ⟨vb, 0, none⟩ ⟨g, off, none⟩ 1 1 lb cb hne 187 187 (PairV.cells x).toArray.size cur.size (by unfold Blk at hv; simp [World.shape?, hv]) (by unfold Blk at hb; simp [World.shape?, hb]) (by rw [hcs]; omega) (hv.frozen _) (hv.frozen _)]
      rfl
    have hdl : ((L.drop i).flatMap PairV.cells).length = (n - i) * 10 := by rw [flat_len PairV.cells_len, List.length_drop, hn]
    have hat := (ho.at1 PairV.cells_len).1
    have hsz : (Tryz.prog.info? 187).map (·.size) = some 10 := by kernel_rfl
    have hcp1 : ∀ ty o1 o2 l1 l2 c1 c2, o1 = i * 10 + 10 → o2 = i * 10 → l1 = n - i → l2 = n + 1 - i → (Builtin.copy_ #[185, 185] ty #[.slice (some ⟨g, o1, none⟩) l1 c1, .slice (some ⟨g, o2, none⟩) l2 c2]).run Tryz.prog w.drew = .ok (goInt ((n - i : Nat) : Int)) (w.drew.setCells g (i * 10 + 10) ((L.drop i).flatMap PairV.cells)) := by
      intro ty o1 o2 l1 l2 c1 c2 e1 e2 e3 e4
      subst e1 e2 e3 e4
      refine run_copy_put w.drew 185 185 ty 187 10 g (i * 10 + 10) (n - i) c1 187 cur ⟨g, i * 10, none⟩ (n + 1 - i) c2 ((L.drop i).flatMap PairV.cells) Tryz.underlying185 hsz (n - i) (by simp only [Nat.min_def]; split <;> omega) hdl (fun j v hj => ?_) hb.drew (by rw [hcs]; omega) (pairFlat_one _)
      obtain ⟨b', off', hA', -, hc⟩ := hat (by omega)
      injection hA' with hA'
      injection hA' with e5 e6
      subst e5 e6
      have hj2 : j < (n - i) * 10 := by rw [← hdl]; exact (List.getElem?_eq_some_iff.1 hj).1
      have hq : i + j / 10 < L.length := by rw [← hn]; omega
      have h1 := hc (i + j / 10) hq (j % 10) (Nat.mod_lt _ (by decide))
      have h2 := flat_get PairV.cells_len (L.drop i) (j / 10) (by rw [List.length_drop]; omega) (j % 10) (Nat.mod_lt _ (by decide))
      rw [show j / 10 * 10 + j % 10 = j by omega, hj] at h2
      rw [Addr.add_lit, show i * 10 + j = 0 + (i + j / 10) * 10 + j % 10 by omega]
      show w.cell? _ = _
      rw [h1, h2]
      simp
    have hB1 : Blk (w.drew.setCells g (i * 10 + 10) ((L.drop i).flatMap PairV.cells)) g 187 _ := Blk.puts _ _ hb.drew
    have hV1 : Blk (w.drew.setCells g (i * 10 + 10) ((L.drop i).flatMap PairV.cells)) vb 187 (PairV.cells x).toArray := Blk.fr hv.drew (Fr.puts (S := [g]) _ _ (Fr.refl _ _) (.inl (by simp))) (by simpa using hne)
    have hcp2 : ∀ W, (Blk W g 187 (wr cur (i * 10 + 10) ((L.drop i).flatMap PairV.cells)) ∧ Blk W vb 187 (PairV.cells x).toArray) → ∀ ty o1 l1 c1, o1 = i * 10 → 1 ≤ l1 → (Builtin.copy_ #[185, 185] ty #[.slice (some ⟨g, o1, none⟩) l1 c1, .slice (some ⟨vb, 0, none⟩) 1 1]).run Tryz.prog W = .ok (goInt 1) (W.setCells g (i * 10) (PairV.cells x)) := by
      intro W hW ty o1 l1 c1 e1 e2
      subst e1
      refine run_copy_put W 185 185 ty 187 10 g (i * 10) l1 c1 187 _ ⟨vb, 0, none⟩ 1 1 (PairV.cells x) Tryz.underlying185 hsz 1 (by simp only [Nat.min_def]; split <;> omega) rfl (fun j v hj => ?_) hW.1 (by rw [wr_size, hcs]; omega) (PairV.cells_one x)
      rw [Addr.add_lit, Nat.zero_add, hW.2.cell]
      simpa using hj
    have hres := OwnL.insA (w := w.drew) (m := n + 1) PairV.cells_len hb.drew hcs (by omega : i ≤ L.length) (by omega) hroom hcm (fun k hk => by rw [OwnL.cur_get hct (by omega), flat_take PairV.cells_len, List.getElem?_take_of_lt hk]) x
    have HRES := Lib.hid hres
    have HF : Hid (Fr [g] w ((w.drew.setCells g (i * 10 + 10) ((L.drop i).flatMap PairV.cells)).setCells g (i * 10) (PairV.cells x))) := Lib.hid (Fr.puts _ _ (Fr.puts _ _ (Fr.refl _ _).drew (.inl (by simp))) (.inl (by simp)))
    have HCP1 := Lib.hid hcp1
    have HB1 := Lib.hid (And.intro hB1 hV1)
    have HCP2 := Lib.hid (hcp2 _ HB1.out)
    clear hres hcp1 hcp2 hB1 hV1 hat hdl hct hcs hb hv ho hn
    obtain ⟨w1, hw1⟩ : ∃ w1, w1 = w.drew.setCells g (i * 10 + 10) ((L.drop i).flatMap PairV.cells) := ⟨_, rfl⟩
    rw [← hw1] at HCP1 HCP2 HRES HF HB1
    have HW1 := Lib.hid hw1
    clear hw1
    have hn1 : IntKind.i64.wrap ((n : Int) + 1) = (n : Int) + 1 := by rw [IntKind.wrap_i64]; omega
    have hi1 : IntKind.i64.wrap ((i : Int) + 1) = (i : Int) + 1 := by rw [IntKind.wrap_i64]; omega
    have hb0 : ¬ ((i : Int) = (n : Int)) := by omega
    have hb1 : (0 : Int) ≤ (i : Int) := by omega
    have hb2 : (i : Int) ≤ (n : Int) := by omega
    have hb3 : ¬ ((cap : Int) < (n : Int) + 1) := by omega
    have hb4 : (0 : Int) ≤ (i : Int) + 1 := by omega
    have hb5 : (i : Int) + 1 ≤ (n : Int) + 1 := by omega
    have hb6 : (i : Int) ≤ (n : Int) + 1 := by omega
    have hb7 : ¬ cap = i := by omega
    have hb8 : ¬ cap = i + 1 := by omega
    have hb9 : (n : Int) + 1 ≤ (cap : Int) := by omega
    have ht1 : ((n : Int) + 1).toNat = n + 1 := by omega
    have ht2 : ((i : Int) + 1).toNat = i + 1 := by omega
    go_enter Tryz.func178, Tryz.ntmps178
    go_wp2_with fail
    go_still_tail 8, (by kernel_rfl)
    change wpList _ _ _ _ _ w.drew
    have k1 := fun ty c1 c2 => HCP1.out ty ((i + 1) * 10) (i * 10) (n - i) (n + 1 - i) c1 c2 (by omega) rfl rfl rfl
    have k2 := fun ty c1 => HCP2.out ty (i * 10) (n + 1 - i) c1 rfl (by omega)
    go_wp2_with fail
    go_ret
    exact ⟨rfl, HRES.out, HF.out⟩
set_option maxRecDepth 100000 in
set_option maxHeartbeats 4000000 in
/-- Insert into a slice that has no room: a new one. -/
theorem pairInsGrow (A : Option Addr) (n cap : Nat) (L : List PairV) (i : Nat) (x : PairV) (vb : Nat) (w : World) (ho : OwnL 187 10 PairV.cells w (.slice A n cap) L) (hi : i < n) (hroom : cap ≤ n) (hl : n ≤ 100000) (hv : Blk w vb 187 (PairV.cells x).toArray) :
    Calls Tryz.prog 178 #[.slice A n cap, .int .i64 i, .slice (some ⟨vb, 0, none⟩) 1 1] w fun e w' => ∃ c', e = .returned (.slice (some ⟨w.heap.size, 0, none⟩) (n + 1) c') ∧ OwnL 187 10 PairV.cells w' (.slice (some ⟨w.heap.size, 0, none⟩) (n + 1) c') (L.take i ++ x :: L.drop i) ∧ Fr [] w w' := by
  obtain ⟨hn, h0 | ⟨g, cur, hA, hb, hnc, hcm, hcs, hct⟩⟩ := ho.blk
  · rw [h0.2.1] at hn
    simp at hn
    omega
  · subst hA
    obtain ⟨i0, TR⟩ := etPairP
    obtain rfl : cap = n := by omega
    have hcm63 : cap ≤ 9223372036854775807 := by unfold maxLen at hcm; omega
    have hat := (ho.at1 PairV.cells_len).1
    have hsz : (Tryz.prog.info? 187).map (·.size) = some 10 := by kernel_rfl
    have hol : (Builtin.firstCells i0.size i (.slice (some ⟨g, 0, none⟩) i cap)).run Tryz.prog w.drew = .ok ((L.take i).flatMap PairV.cells).toArray w.drew := by
      rw [TR.hs]
      refine run_firstCells_some w.drew 10 i ⟨g, 0, none⟩ i cap _ (by rw [flat_len PairV.cells_len, List.length_take, ← hn]; congr 1; omega) (fun j u hu => ?_)
      obtain ⟨b', off', hA', -, hc⟩ := hat (by omega)
      injection hA' with hA'
      injection hA' with e5 e6
      subst e5 e6
      have hj2 : j < i * 10 := by
        have := (List.getElem?_eq_some_iff.1 hu).1
        rw [flat_len PairV.cells_len, List.length_take] at this
        omega
      have h1 := hc (j / 10) (by omega) (j % 10) (Nat.mod_lt _ (by decide))
      have h2 := flat_get PairV.cells_len L (j / 10) (by omega) (j % 10) (Nat.mod_lt _ (by decide))
      rw [show j / 10 * 10 + j % 10 = j by omega] at h2
      rw [flat_take PairV.cells_len, List.getElem?_take_of_lt hj2] at hu
      rw [Addr.add_lit]
      show w.cell? _ = _
      rw [show 0 + j = 0 + j / 10 * 10 + j % 10 by omega, h1, ← h2, hu]
    have hfit := growslice_fits (need := cap + 1) (old := cap) (bytes := i0.bytes) (by omega) (by rw [TR.hb]; omega)
    have hap : ∀ ty k q, k = cap + 1 - i → (Builtin.append_ #[185, 3] ty #[.slice (some ⟨g, 0, none⟩) i cap, .int q (k : Nat)]).run Tryz.prog w = .ok (.slice (some ⟨w.heap.size, 0, none⟩) (cap + 1) (grownCap w (cap + 1) cap 187)) (w.drew.alloc (.cells (((L.take i).flatMap PairV.cells).toArray ++ Builtin.zeroCells (Value.cells (.agg #[.int .i64 0, .int .i64 0, .int .i64 0, .int .i64 0, .int .i64 0, .int .i64 0, .int .i64 0, .int .i64 0, .int .i64 0, .int .i64 0])) (cap + 1 - i) ++ Builtin.zeroCells (Value.cells (.agg #[.int .i64 0, .int .i64 0, .int .i64 0, .int .i64 0, .int .i64 0, .int .i64 0, .int .i64 0, .int .i64 0, .int .i64 0, .int .i64 0])) (grownCap w (cap + 1) cap 187 - (cap + 1))) 187)) := by
      intro ty k q hk
      have h9 := Lib.run_append_grow_zeros (P := Tryz.prog) w 185 3 ty 187 i0 (.agg #[.int .i64 0, .int .i64 0, .int .i64 0, .int .i64 0, .int .i64 0, .int .i64 0, .int .i64 0, .int .i64 0, .int .i64 0, .int .i64 0]) q .i64 TR.ht Tryz.underlying3 TR.hi TR.hz (some ⟨g, 0, none⟩) i cap _ hol k (by omega) (by rw [TR.hs]; decide) (by omega) (by omega) (by rw [TR.hb]; omega) (by rw [show i + k = cap + 1 by omega]; exact hfit)
      rw [show i + k = cap + 1 by omega] at h9
      rw [h9, hk]
    have hge := grownCap_ge w (cap + 1) cap 187
    have hle := grownCap_le_maxLen w (cap + 1) cap 187 (by unfold maxLen; omega)
    generalize grownCap w (cap + 1) cap 187 = C at hap hge hle
    have hfl : ((L.take i).flatMap PairV.cells).length = i * 10 := by rw [flat_len PairV.cells_len, List.length_take, ← hn]; congr 1; omega
    have hdl : ((L.drop i).flatMap PairV.cells).length = (cap - i) * 10 := by rw [flat_len PairV.cells_len, List.length_drop, hn]
    obtain ⟨cur1, hcur1⟩ : ∃ c1, c1 = ((L.take i).flatMap PairV.cells).toArray ++ Builtin.zeroCells (Value.cells (.agg #[.int .i64 0, .int .i64 0, .int .i64 0, .int .i64 0, .int .i64 0, .int .i64 0, .int .i64 0, .int .i64 0, .int .i64 0, .int .i64 0])) (cap + 1 - i) ++ Builtin.zeroCells (Value.cells (.agg #[.int .i64 0, .int .i64 0, .int .i64 0, .int .i64 0, .int .i64 0, .int .i64 0, .int .i64 0, .int .i64 0, .int .i64 0, .int .i64 0])) (C - (cap + 1)) := ⟨_, rfl⟩
    have hc1s : cur1.size = C * 10 := by
      rw [hcur1, Array.size_append, Array.size_append, List.size_toArray, hfl, size_zeroCells, size_zeroCells]
      simp only [Value.cells]
      simp only [List.size_toArray, List.length_cons, List.length_nil]
      omega
    have hc1t : ∀ k, k < i * 10 → cur1[k]? = ((L.take i).flatMap PairV.cells)[k]? := fun k hk => by
      rw [hcur1, Array.append_assoc, Array.getElem?_append_left (by rw [List.size_toArray, hfl]; exact hk)]
      simp
    rw [← hcur1] at hap
    clear hcur1
    obtain ⟨W1, hW1⟩ : ∃ W1, W1 = w.drew.alloc (.cells cur1 187) := ⟨_, rfl⟩
    have hB0 : Blk W1 w.heap.size 187 cur1 := by rw [hW1]; exact Blk.new w.drew _ _
    have hF0 : Fr [] w W1 := by rw [hW1]; exact (Fr.refl _ _).drew.alloc _
    have hV1 : Blk W1 vb 187 (PairV.cells x).toArray := hv.fr hF0 (by simp)
    rw [← hW1] at hap
    have hcp1 : ∀ ty o1 l1 c1, o1 = i * 10 → 1 ≤ l1 → (Builtin.copy_ #[185, 185] ty #[.slice (some ⟨w.heap.size, o1, none⟩) l1 c1, .slice (some ⟨vb, 0, none⟩) 1 1]).run Tryz.prog W1 = .ok (goInt 1) (W1.setCells w.heap.size (i * 10) (PairV.cells x)) := by
      intro ty o1 l1 c1 e1 e2
      subst e1
      refine run_copy_put W1 185 185 ty 187 10 w.heap.size (i * 10) l1 c1 187 _ ⟨vb, 0, none⟩ 1 1 (PairV.cells x) Tryz.underlying185 hsz 1 (by simp only [Nat.min_def]; split <;> omega) rfl (fun j v hj => ?_) hB0 (by rw [hc1s]; omega) (PairV.cells_one x)
      rw [Addr.add_lit, Nat.zero_add, hV1.cell]
      simpa using hj
    have hB1 : Blk (W1.setCells w.heap.size (i * 10) (PairV.cells x)) w.heap.size 187 _ := Blk.puts _ _ hB0
    have hF1 : Fr [] w (W1.setCells w.heap.size (i * 10) (PairV.cells x)) := Fr.puts _ _ hF0 (.inr (Nat.le_refl _))
    obtain ⟨W2, hW2⟩ : ∃ W2, W2 = W1.setCells w.heap.size (i * 10) (PairV.cells x) := ⟨_, rfl⟩
    rw [← hW2] at hcp1 hB1 hF1
    clear hW1 hW2 hB0 hF0 hV1
    have hcp2 : ∀ ty o1 o2 l1 l2 c1 c2, o1 = i * 10 + 10 → o2 = i * 10 → l1 = cap - i → l2 = cap - i → (Builtin.copy_ #[185, 185] ty #[.slice (some ⟨w.heap.size, o1, none⟩) l1 c1, .slice (some ⟨g, o2, none⟩) l2 c2]).run Tryz.prog W2.drew = .ok (goInt ((cap - i : Nat) : Int)) (W2.drew.setCells w.heap.size (i * 10 + 10) ((L.drop i).flatMap PairV.cells)) := by
      intro ty o1 o2 l1 l2 c1 c2 e1 e2 e3 e4
      subst e1 e2 e3 e4
      refine run_copy_put W2.drew 185 185 ty 187 10 w.heap.size (i * 10 + 10) (cap - i) c1 187 _ ⟨g, i * 10, none⟩ (cap - i) c2 ((L.drop i).flatMap PairV.cells) Tryz.underlying185 hsz (cap - i) (by simp only [Nat.min_def]; split <;> omega) hdl (fun j v hj => ?_) hB1.drew (by rw [wr_size, hc1s]; omega) (pairFlat_one _)
      obtain ⟨b', off', hA', -, hc⟩ := (hat.fr0 hF1) (by omega)
      injection hA' with hA'
      injection hA' with e5 e6
      subst e5 e6
      have hj2 : j < (cap - i) * 10 := by rw [← hdl]; exact (List.getElem?_eq_some_iff.1 hj).1
      have hq : i + j / 10 < L.length := by rw [← hn]; omega
      have h1 := hc (i + j / 10) hq (j % 10) (Nat.mod_lt _ (by decide))
      have h2 := flat_get PairV.cells_len (L.drop i) (j / 10) (by rw [List.length_drop]; omega) (j % 10) (Nat.mod_lt _ (by decide))
      rw [show j / 10 * 10 + j % 10 = j by omega, hj] at h2
      rw [Addr.add_lit, show i * 10 + j = 0 + (i + j / 10) * 10 + j % 10 by omega]
      show W2.cell? _ = _
      rw [h1, h2]
      simp
    have hres : OwnL 187 10 PairV.cells (W2.drew.setCells w.heap.size (i * 10 + 10) ((L.drop i).flatMap PairV.cells)) (.slice (some ⟨w.heap.size, 0, none⟩) (cap + 1) C) (L.take i ++ x :: L.drop i) := own_insB PairV.cells_len (Blk.puts _ _ hB1.drew) hc1s (by omega) (by omega) hge hle hc1t x
    have HRES := Lib.hid hres
    have HF : Hid (Fr [] w (W2.drew.setCells w.heap.size (i * 10 + 10) ((L.drop i).flatMap PairV.cells))) := Lib.hid (Fr.puts _ _ hF1.drew (.inr (Nat.le_refl _)))
    have HCP1 := Lib.hid hcp1
    have HCP2 := Lib.hid hcp2
    have HAP := Lib.hid hap
    clear hres hcp1 hcp2 hB1 hat hdl hct hcs hb hv ho hn hap hc1s hc1t hF1 hfit hol hfl
    obtain ⟨gn, hgn⟩ : ∃ gn, gn = w.heap.size := ⟨_, rfl⟩
    rw [← hgn] at HRES HF HCP1 HCP2 HAP ⊢
    clear hgn
    have hn1 : IntKind.i64.wrap ((cap : Int) + 1) = (cap : Int) + 1 := by rw [IntKind.wrap_i64]; omega
    have hi1 : IntKind.i64.wrap ((i : Int) + 1) = (i : Int) + 1 := by rw [IntKind.wrap_i64]; omega
    have hn2 : IntKind.i64.wrap ((cap : Int) + 1 - (i : Int)) = ((cap + 1 - i : Nat) : Int) := by rw [IntKind.wrap_i64]; omega
    have hb0 : ¬ ((i : Int) = (cap : Int)) := by omega
    have hb1 : (0 : Int) ≤ (i : Int) := by omega
    have hb2 : (i : Int) ≤ (cap : Int) := by omega
    have hb3 : (cap : Int) < (cap : Int) + 1 := by omega
    have hb4 : (0 : Int) ≤ (i : Int) + 1 := by omega
    have hb5 : (i : Int) + 1 ≤ (cap : Int) + 1 := by omega
    have hb6 : (i : Int) ≤ (cap : Int) + 1 := by omega
    have hb7 : ¬ C = i := by omega
    have hb8 : ¬ C = i + 1 := by omega
    have hb9 : ¬ cap = i := by omega
    have ht1 : ((cap : Int) + 1).toNat = cap + 1 := by omega
    have ht2 : ((i : Int) + 1).toNat = i + 1 := by omega
    go_enter Tryz.func178, Tryz.ntmps178
    have k1 := fun ty c1 => HCP1.out ty (i * 10) (cap + 1 - i) c1 rfl (by omega)
    go_upto_region 11 with (at_builtin; refine wpList_appendP _ rfl _ _ 185 3 rfl _ _ rfl rfl (HAP.out _ _ _ rfl) ?_)
    clear k1
    go_still_tail 8, (by kernel_rfl)
    change wpList _ _ _ _ _ W2.drew
    have k2 := fun ty c1 c2 => HCP2.out ty ((i + 1) * 10) (i * 10) (cap - i) (cap - i) c1 c2 (by omega) rfl rfl rfl
    go_wp2_with fail
    go_ret
    exact ⟨C, rfl, HRES.out, HF.out⟩
end Go.Proofs.YtciaallekkdnhaaGreat
namespace Go.Proofs.YtciaallekkdnhaaGreat
open Go.RowKit

theorem own_val {X : Type} {e size : Nat} {enc : X → List Value} {w : World} {v : Value} {L : List X} (h : OwnL e size enc w v L) : ∃ A n cap, v = .slice A n cap ∧ n = L.length := by
  obtain ⟨A, cap, hv⟩ := h.val
  exact ⟨A, _, cap, hv, rfl⟩
theorem mem_sliceB {A : Option Addr} {g : Nat} : g ∈ sliceB A ↔ ∃ ad, A = some ad ∧ ad.block = g := by
  cases A <;> simp [sliceB, eq_comm]
theorem own_sliceB {A : Option Addr} {n cap g : Nat} (h : (Value.slice A n cap).ownBlock = some g) : g ∈ sliceB A := by
  cases A with
  | none => cases h
  | some a => injection h with h; simp [sliceB, h]
theorem sliceB_own {A : Option Addr} {ad : Addr} {e size : Nat} {X : Type} {enc : X → List Value} {w : World} {n cap : Nat} {L : List X} (h : OwnL e size enc w (.slice A n cap) L) (ha : A = some ad) : (Value.slice A n cap).ownBlock = some ad.block := by
  subst ha
  rfl
namespace Pm
theorem ins_end {X : Type} {p : X → Bool} {x : X} : ∀ {l : List X}, (∀ y ∈ l, p y = false) → ins p x l = l ++ [x]
  | [], _ => rfl
  | y :: l, h => by
    rw [ins, if_neg (by rw [h y (by simp)]; simp), ins_end (fun z hz => h z (by simp [hz]))]
    rfl
theorem ins_at {X : Type} {p : X → Bool} {x : X} : ∀ {l : List X} {k : Nat} (hk : k < l.length), (∀ y ∈ l.take k, p y = false) → p l[k] = true → ins p x l = l.take k ++ x :: l.drop k
  | y :: l, 0, _, _, h => by
    rw [ins, if_pos (by simpa using h)]
    rfl
  | y :: l, k + 1, hk, ha, h => by
    rw [ins, if_neg (by rw [ha y (by simp)]; simp), ins_at (k := k) (by simpa using hk) (fun z hz => ha z (by simp [hz])) (by simpa using h)]
    rfl
end Pm
/-- Insert, wherever. -/
theorem rowIns_any (A : Option Addr) (n cap : Nat) (L : List RowV) (i : Nat) (x : RowV) (vb : Nat) (w : World) (ho : OwnL 116 5 RowV.cells w (.slice A n cap) L) (hi : i ≤ n) (hl : n ≤ 100000) (hv : Blk w vb 116 (RowV.cells x).toArray) (hne : ∀ ad, A = some ad → vb ≠ ad.block) :
    Calls Tryz.prog 149 #[.slice A n cap, .int .i64 i, .slice (some ⟨vb, 0, none⟩) 1 1] w fun e w' => ∃ A' n' c', e = .returned (.slice A' n' c') ∧ OwnL 116 5 RowV.cells w' (.slice A' n' c') (L.take i ++ x :: L.drop i) ∧ Fr (sliceB A) w w' ∧ ∀ ad, A' = some ad → ad.block ∈ sliceB A ∨ w.heap.size ≤ ad.block := by
  have hn : n = L.length := ho.blk.1
  by_cases h1 : i = n
  · subst h1
    refine (rowInsEnd A i cap L x vb w ho hl hv).mono ?_
    rintro e w' ⟨v', rfl, ho', hf, hb⟩
    obtain ⟨A', n', c', rfl, -⟩ := own_val ho'
    refine ⟨A', n', c', rfl, ?_, hf, fun ad ha => ?_⟩
    · rw [List.take_of_length_le (by omega), List.drop_eq_nil_of_le (by omega)]
      exact ho'
    · subst ha
      rcases hb with h | h
      · exact .inl (own_sliceB h.symm)
      · injection h with h
        exact .inr (by omega)
  · by_cases h2 : cap ≤ n
    · refine (rowInsGrow A n cap L i x vb w ho (by omega) h2 hl hv).mono ?_
      rintro e w' ⟨c', rfl, ho', hf⟩
      exact ⟨_, _, _, rfl, ho', hf.mono (by simp), fun ad ha => by injection ha with ha; subst ha; exact .inr (Nat.le_refl _)⟩
    · obtain ⟨-, h0 | ⟨g, cur, rfl, -⟩⟩ := ho.blk
      · rw [h0.2.1] at hn
        simp at hn
        omega
      · refine (rowInsShift g n cap L i x vb w ho (by omega) (by omega) hl hv (hne _ rfl)).mono ?_
        rintro e w' ⟨rfl, ho', hf⟩
        exact ⟨_, _, _, rfl, ho', by simpa [sliceB] using hf, fun ad ha => by injection ha with ha; subst ha; exact .inl (by simp [sliceB])⟩
set_option maxRecDepth 100000 in
set_option maxHeartbeats 2000000 in
/-- without: those of which a function does not hold. -/
theorem rowWithout_any (fn : Nat) (cb : Array Value) (p : RowV → Bool) (A : Option Addr) (n cap : Nat) (L : List RowV) (w : World) (hx : AtL RowV.cells 5 w A L) (hn : n = L.length) (hl : n ≤ 100000)
    (eg : ∀ args w, (callFunc fn args).run Tryz.prog w = .ok (.enter fn args) w)
    (hp : ∀ (W : World) (x : RowV), Fr [] w W → Calls Tryz.prog fn (#[RowV.val x] ++ cb) W fun e w' => e = .returned (.bool (p x)) ∧ Fr [] W w') :
    Calls Tryz.prog 121 #[.slice A n cap, .func (.func fn) #[] cb] w fun e w' => ∃ A' n' c', e = .returned (.slice A' n' c') ∧ OwnL 116 5 RowV.cells w' (.slice A' n' c') (L.filter fun x => !p x) ∧ Fr [] w w' ∧ ∀ ad, A' = some ad → w.heap.size ≤ ad.block := by
  have HC := Lib.hid (rowClone_any A n cap L w hx hn hl)
  have HP := Lib.hid hp
  have HN : Hid (L.length ≤ 100000) := Lib.hid (by omega)
  clear hp hx hn hl
  go_enter Tryz.func121, Tryz.ntmps121
  go_wp2_with (first
    | (go_at_call 55; refine HC.out.mono ?_; rintro e w1 ⟨v, rfl, ho, hf, hg⟩; obtain ⟨A1, n1, c1, hv, hn1⟩ := own_val ho; subst hv; have HO1 := Lib.hid ho; have HF1 := Lib.hid hf; have HG1 : Hid (∀ ad, A1 = some ad → w.heap.size ≤ ad.block) := Lib.hid (fun ad ha => hg _ (sliceB_own ho ha)); have HN1 : Hid (n1 ≤ 100000) := Lib.hid (by rw [hn1]; exact HN.out); clear ho hf hg hn1)
    | (go_at_call 147; refine (rowDel_any fn cb p A1 n1 c1 L w1 HO1.out HN1.out eg (fun W x hw => HP.out W x (HF1.out.trans' hw (fun i hi => by obtain ⟨ad, h1, h2⟩ := mem_sliceB.1 hi; have h3 := HG1.out ad h1; exact .inr (by omega))))).mono ?_; rintro e w2 ⟨m, rfl, ho2, hf2⟩; have HO2 := Lib.hid ho2; have HF2 := Lib.hid hf2; clear ho2 hf2))
  go_ret
  exact ⟨A1, m, c1, rfl, HO2.out, HF1.out.trans' HF2.out (fun i hi => by obtain ⟨ad, h1, h2⟩ := mem_sliceB.1 hi; have h3 := HG1.out ad h1; exact .inr (by omega)), HG1.out⟩
set_option maxRecDepth 100000 in
set_option maxHeartbeats 4000000 in
/-- inserted: ahead of the first one of which a function holds. -/
theorem rowInserted_any (fn : Nat) (cb : Array Value) (p : RowV → Bool) (A : Option Addr) (n cap : Nat) (L : List RowV) (x : RowV) (w : World) (ho : OwnL 116 5 RowV.cells w (.slice A n cap) L) (hl : n ≤ 100000)
    (eg : ∀ args w, (callFunc fn args).run Tryz.prog w = .ok (.enter fn args) w)
    (hp : ∀ (W : World) (x : RowV), Fr [] w W → Calls Tryz.prog fn (#[RowV.val x] ++ cb) W fun e w' => e = .returned (.bool (p x)) ∧ Fr [] W w') :
    Calls Tryz.prog 123 #[.slice A n cap, RowV.val x, .func (.func fn) #[] cb] w fun e w' => ∃ A' n' c', e = .returned (.slice A' n' c') ∧ OwnL 116 5 RowV.cells w' (.slice A' n' c') (Pm.ins p x L) ∧ Fr (sliceB A) w w' ∧ ∀ ad, A' = some ad → ad.block ∈ sliceB A ∨ w.heap.size ≤ ad.block := by
  have hn : n = L.length := ho.blk.1
  obtain ⟨r0, r1, r2, r3, r4⟩ := x
  have F0 := (Fr.refl [] w).alloc (.cells #[.int .i64 r0, .int .i64 r1, .int .i64 r2, .int .i64 r3, .int .i64 r4] 116)
  have HB : Hid (Blk (w.alloc (.cells #[.int .i64 r0, .int .i64 r1, .int .i64 r2, .int .i64 r3, .int .i64 r4] 116)) w.heap.size 116 #[.int .i64 r0, .int .i64 r1, .int .i64 r2, .int .i64 r3, .int .i64 r4]) := Lib.hid (Blk.new _ _ _)
  have ho1 : OwnL 116 5 RowV.cells (w.alloc (.cells #[.int .i64 r0, .int .i64 r1, .int .i64 r2, .int .i64 r3, .int .i64 r4] 116)) (.slice A n cap) L := ho.fr F0 (by simp)
  have HIX := Lib.hid (rowIdx_any fn cb p A n cap L (w.alloc (.cells #[.int .i64 r0, .int .i64 r1, .int .i64 r2, .int .i64 r3, .int .i64 r4] 116)) (ho1.at1 RowV.cells_len).1 hn hl eg (fun W x hf => hp W x (F0.trans hf)))
  have HO1 := Lib.hid ho1
  have HF0 := Lib.hid F0
  have HNE : Hid (∀ ad, A = some ad → ad.block < w.heap.size) := Lib.hid (fun ad ha => ho.lt (sliceB_own ho ha))
  have HL := Lib.hid hl
  have HN := Lib.hid hn
  have step : ∀ (j : Nat), j ≤ n → Hid (Pm.ins p (⟨r0, r1, r2, r3, r4⟩ : RowV) L = L.take j ++ (⟨r0, r1, r2, r3, r4⟩ : RowV) :: L.drop j) → ∀ w2, Fr [] (w.alloc (.cells #[.int .i64 r0, .int .i64 r1, .int .i64 r2, .int .i64 r3, .int .i64 r4] 116)) w2 → Calls Tryz.prog 149 #[.slice A n cap, .int .i64 j, .slice (some ⟨w2.heap.size, 0, none⟩) 1 1] (w2.alloc (.cells #[.int .i64 r0, .int .i64 r1, .int .i64 r2, .int .i64 r3, .int .i64 r4] 116)) fun e w' => ∃ A' n' c', e = .returned (.slice A' n' c') ∧ Hid (OwnL 116 5 RowV.cells w' (.slice A' n' c') (Pm.ins p (⟨r0, r1, r2, r3, r4⟩ : RowV) L)) ∧ Hid (Fr (sliceB A) w w') ∧ Hid (∀ ad, A' = some ad → ad.block ∈ sliceB A ∨ w.heap.size ≤ ad.block) := by
    intro j hj hins w2 f2
    have f3 := f2.alloc (.cells #[.int .i64 r0, .int .i64 r1, .int .i64 r2, .int .i64 r3, .int .i64 r4] 116)
    have h3 := HO1.out.fr f3 (by simp)
    refine (rowIns_any A n cap L j ⟨r0, r1, r2, r3, r4⟩ w2.heap.size _ h3 hj HL.out (Blk.new _ _ _) (fun ad ha e => ?_)).mono ?_
    · have h4 := HNE.out ad ha
      have h5 := f2.size
      rw [World.size_alloc] at h5
      omega
    · rintro e w' ⟨A', n', c', rfl, ho', hf, hb⟩
      have hs := (HF0.out.trans f3).size
      refine ⟨A', n', c', rfl, Lib.hid (by rw [hins.out]; exact ho'), Lib.hid (((HF0.out.trans f3).mono (by simp)).trans hf), Lib.hid (fun ad ha => ?_)⟩
      rcases hb ad ha with h | h
      · exact .inl h
      · exact .inr (by omega)
  have HSTEP := Lib.hid step
  rcases first_or p L with hall | ⟨k, hk, hbefore, hit⟩
  · have HM : Hid (idxP p L 0 = -1) := Lib.hid (idxP_miss 0 hall)
    have HI : Hid (Pm.ins p (⟨r0, r1, r2, r3, r4⟩ : RowV) L = L.take n ++ (⟨r0, r1, r2, r3, r4⟩ : RowV) :: L.drop n) := Lib.hid (by rw [Pm.ins_end hall, List.take_of_length_le (by omega), List.drop_eq_nil_of_le (by omega)])
    clear hall step ho1 F0 ho hp hn hl
    go_enter Tryz.func123, Tryz.ntmps123
    go_upto_region 4 with (go_at_call 148; refine HIX.out.mono ?_; rintro e w2 ⟨rfl, f2⟩; rw [HM.out]; have F2 := Lib.hid f2; clear f2)
    have HB2 := HB.out.fr F2.out (by simp)
    have b0 := HB2.cell 0
    have b1 := HB2.cell 1
    have b2 := HB2.cell 2
    have b3 := HB2.cell 3
    have b4 := HB2.cell 4
    clear HB2
    go_wp2_with (go_at_call 149; refine (HSTEP.out n (Nat.le_refl _) HI w2 F2.out).mono ?_; rintro e w3 ⟨A', n', c', rfl, H1, H2, H3⟩)
    go_ret
    exact ⟨A', n', c', rfl, H1.out, H2.out, H3.out⟩
  · have HM : Hid (idxP p L 0 = (k : Int)) := Lib.hid (by rw [idxP_hit 0 k hk hbefore hit, Nat.zero_add])
    have HI : Hid (Pm.ins p (⟨r0, r1, r2, r3, r4⟩ : RowV) L = L.take k ++ (⟨r0, r1, r2, r3, r4⟩ : RowV) :: L.drop k) := Lib.hid (Pm.ins_at hk hbefore hit)
    have HK : Hid (k ≤ n) := Lib.hid (by omega)
    have hk0 : ¬ ((k : Int) < 0) := by omega
    clear hit hbefore step ho1 F0 ho hp hn hl hk
    go_enter Tryz.func123, Tryz.ntmps123
    go_upto_region 4 with (go_at_call 148; refine HIX.out.mono ?_; rintro e w2 ⟨rfl, f2⟩; rw [HM.out]; have F2 := Lib.hid f2; clear f2)
    have HB2 := HB.out.fr F2.out (by simp)
    have b0 := HB2.cell 0
    have b1 := HB2.cell 1
    have b2 := HB2.cell 2
    have b3 := HB2.cell 3
    have b4 := HB2.cell 4
    clear HB2
    go_wp2_with (go_at_call 149; refine (HSTEP.out k HK.out HI w2 F2.out).mono ?_; rintro e w3 ⟨A', n', c', rfl, H1, H2, H3⟩)
    go_ret
    exact ⟨A', n', c', rfl, H1.out, H2.out, H3.out⟩
end Go.Proofs.YtciaallekkdnhaaGreat

/-
  The order that chosen sorts by.
-/
import Derived.Test.YthiaaminkfkjpaaGreatGao
import Derived.Test.YthiaaminkfkjpaaGreatSort
import Derived.Test.YthiaaminkfkjpaaGreatLay
import Derived.StillTailTactics
namespace Go.Proofs.YthiaaminkfkjpaaGreat
open Go.RowKit Go.Sort

instance : Inhabited RowV := ⟨⟨0, 0, 0, 0, 0⟩⟩

theorem cmpI_spec (x y : Int) : (cmpI x y = -1 ∧ x < y) ∨ (cmpI x y = 1 ∧ y < x) ∨ (cmpI x y = 0 ∧ x = y) := by
  unfold cmpI
  split
  · exact .inl ⟨rfl, by assumption⟩
  · split
    · exact .inr (.inl ⟨rfl, by assumption⟩)
    · exact .inr (.inr ⟨rfl, by omega⟩)
/-- A row stands ahead of another. -/
def ahead2 (c : Int) (a b : RowV) : Prop := a.value c < b.value c ∨ (a.value c = b.value c ∧ a.k < b.k)
theorem cmpRow_neg (c : Int) (a b : RowV) : ltOf (cmpRow c) a b = true ↔ ahead2 c a b := by
  unfold ltOf cmpRow ahead2
  rw [decide_eq_true_eq]
  rcases cmpI_spec (a.value c) (b.value c) with ⟨h1, h2⟩ | ⟨h1, h2⟩ | ⟨h1, h2⟩
  · rw [h1]; simp; omega
  · rw [h1]; simp; omega
  · rw [h1, if_pos rfl]
    rcases cmpI_spec a.k b.k with ⟨h3, h4⟩ | ⟨h3, h4⟩ | ⟨h3, h4⟩ <;> rw [h3] <;> simp <;> omega
theorem swoRow (c : Int) : SWO (ltOf (cmpRow c)) where
  irrefl x := by
    rw [Bool.eq_false_iff]
    intro h
    have := (cmpRow_neg c x x).1 h
    unfold ahead2 at this
    omega
  trans x y z h1 h2 := by
    have h1 := (cmpRow_neg c x y).1 h1
    have h2 := (cmpRow_neg c y z).1 h2
    refine (cmpRow_neg c x z).2 ?_
    unfold ahead2 at *
    omega
  ntrans x y z h1 h2 := by
    rw [Bool.eq_false_iff] at h1 h2 ⊢
    intro h3
    have h3 := (cmpRow_neg c x z).1 h3
    have h1 : ¬ ahead2 c x y := fun h => h1 ((cmpRow_neg c x y).2 h)
    have h2 : ¬ ahead2 c y z := fun h => h2 ((cmpRow_neg c y z).2 h)
    unfold ahead2 at *
    omega

theorem Iter.ne_own {K V X : Type} {P : Program} {k : TypeId} {kl : K → Lit} {ev : V → Value} {w : World} {b r e size : Nat} {M rest : List (K × V)} {enc : X → List Value} {v : Value} {L : List X} (h : Iter P k kl ev w b r M rest) (ho : OwnL e size enc w v L) {g : Nat} (hg : v.ownBlock = some g) : r ≠ g := by
  rcases ho.2 with ⟨rfl, _⟩ | ⟨g', cap, cur, rfl, _, hh, _⟩
  · simp [Value.ownBlock] at hg
  · simp [Value.ownBlock] at hg
    subst hg
    exact h.ne_cells hh
theorem sort_rows (c : Int) (A : Option Addr) (n cap gc : Nat) (w0 w : World) (L : List RowV) (h : RowsOwn w (.slice A n cap) L) (hl : L.length ≤ 4000) (hgc : gc ≤ w0.heap.size) (hc : w.cell? ⟨gc, 0, none⟩ = some (.int .i64 c)) (hf : Fr [] w0 w) (hown : ∀ g, (Value.slice A n cap).ownBlock = some g → w0.heap.size < g) :
    Calls Tryz.prog 68 #[.slice A n cap, .func (.func 69) #[] #[.pointer (some ⟨gc, 0, none⟩)]] w fun e w' =>
      e = .returned (.tuple #[]) ∧ ∃ R, RowsOwn w' (.slice A n cap) R ∧ R.Perm L ∧ R.Pairwise (fun x y => ¬ ahead2 c y x) ∧ Fr [] w0 w' := by
  obtain ⟨A', cap', hv⟩ := h.val
  cases hv
  rcases Nat.eq_zero_or_pos L.length with h0 | h0
  · have hL : L = [] := List.eq_nil_of_length_eq_zero h0
    subst hL
    have hcon := AnyF.slices_SortFunc_none (P := Tryz.prog) (ρ := Shlf.sortRow_ren) { Shlf.sortRow with } A cap (.func (.func 69) #[] #[.pointer (some ⟨gc, 0, none⟩)]) w
    change Calls Tryz.prog 68 _ _ _ at hcon
    refine hcon.mono ?_
    rintro e w' ⟨rfl, rfl⟩
    exact ⟨rfl, [], h, List.Perm.refl _, List.Pairwise.nil, hf⟩
  · obtain ⟨g, cap', hv, hnc, hcm, hgl, _, _⟩ := h.form RowV.cells_len h0
    cases hv
    have hgw := hown g rfl
    have eg : ∀ args w, (callFunc 69 args).run Tryz.prog w = .ok (.enter 69 args) w := enters_of Tryz.func69 (by kernel_rfl) rfl
    have hcmp : CmpLays Tryz.prog 69 #[.pointer (some ⟨gc, 0, none⟩)] RowV.cells 5 (cmpRow c) g 0 L.toArray.size w := fun m os dk _ x y =>
      cmp_any c x y gc _ (by
        rw [(sortWorld_fr (g := g) (w := w) (enc := RowV.cells) m dk os 5 0).cell (p := ⟨gc, 0, none⟩) (World.block_lt_of_cell? w _ hc) (by simp; omega)]
        exact hc)
    have hcon := AnyQ.slices_SortFunc (P := Tryz.prog) (ρ := Shlf.sortRow_ren) Shlf.sortRow 5 Tryz.isAgg67 Tryz.sizeOf67 RowV.cells RowV.cells_len RowV.cells_one (cmpRow c) (swoRow c) 69 #[.pointer (some ⟨gc, 0, none⟩)] g 0 cap L.toArray w eg hcmp (h.holdsK RowV.cells_len) hgl (by simp only [List.size_toArray]; omega)
    change Calls Tryz.prog 68 _ _ _ at hcon
    simp only [List.size_toArray] at hcon
    refine hcon.mono ?_
    rintro e w' ⟨rfl, d', n, os, hp, hs, rfl⟩
    have hd : d'.size = L.length := by simpa using hp.1
    refine ⟨rfl, d'.toList, h.sorted RowV.cells_len d' hd n os, ?_, ?_, hf.trans' (sortWorld_fr n d' os 5 0) (by simp; omega)⟩
    · have h1 := hp.2.2
      have h2 : d'.extract 0 L.length = d' := by rw [← hd]; simp
      have h3 : L.toArray.extract 0 L.length = L.toArray := by simp
      rw [h2, h3] at h1
      simpa using h1
    · rw [List.pairwise_iff_getElem]
      intro i j hi hj hij h1
      have h2 := hs i j (Nat.zero_le _) hij (by rw [← hd]; simpa using hj)
      have hi' : i < d'.size := by simpa using hi
      have hj' : j < d'.size := by simpa using hj
      have e1 : d'[i]! = d'.toList[i] := by simp [hi']
      have e2 : d'[j]! = d'.toList[j] := by simp [hj']
      rw [e1, e2] at h2
      have := (cmpRow_neg c _ _).2 h1
      rw [this] at h2
      cases h2

/-- What stands at the head of each round of 'chosen'. -/
structure ChRel (w W0 wr : World) (m : Nat) (s : Sm.Sta) (p : RowV → Bool) (v : Value) (done rest : List (IdK × RowV)) : Prop where
  perm : s.M.Perm (done ++ rest)
  iter : Iter Tryz.prog 94 klId RowV.val wr m (w.heap.size + 1) s.M rest
  row : RowsOwn wr v ((done.map (·.2)).filter p)
  fr : Fr [] W0 wr
  own : ∀ g, v.ownBlock = some g → w.heap.size < g

set_option maxRecDepth 100000 in
set_option maxHeartbeats 20000000 in
theorem chosen_any (b m : Nat) (s : Sm.Sta) (c : Int) (g : Nat) (cb : Array Value) (p : RowV → Bool) (w : World) (h : StaAt w b m s) (eg : ∀ args w, (callFunc g args).run Tryz.prog w = .ok (.enter g args) w)
    (hp : ∀ (W : World) (r : RowV), Fr [] w W → Calls Tryz.prog g (#[r.val] ++ cb) W fun e w' => e = .returned (.bool (p r)) ∧ Fr [] W w') :
    Calls Tryz.prog 55 #[.pointer (some ⟨b, 0, none⟩), .int .i64 c, .func (.func g) #[] cb] w fun e w' => ∃ v R, e = .returned v ∧ RowsOwn w' v R ∧ R.Perm ((s.M.map (·.2)).filter p) ∧ R.Pairwise (fun x y => ¬ ahead2 c y x) ∧ Fr [] w w' ∧
      ∀ g, v.ownBlock = some g → w.heap.size ≤ g := by
  have HP := Lib.hid hp
  clear hp
  have F0 : Fr [] w (w.alloc (.cells #[.int .i64 c] 3)) := (Fr.refl _ _).alloc _
  have hB0 := Blk.new w 3 #[.int .i64 c]
  have h0 := h.fr0 F0
  have hml := h.lt.2
  have c0 : (w.alloc (.cells #[.int .i64 c] 3)).cell? ⟨b, 0, none⟩ = some (.map (some m)) := h0.blk.cell 0
  have hlen := h.ok.len
  have H := Lib.hid h
  have hs0 : (w.alloc (.cells #[.int .i64 c] 3)).heap.size = w.heap.size + 1 := by simp
  go_enter Tryz.func55, Tryz.ntmps55
  clear h
  go_wp2_with (at_range; refine wpList_vrange _ rfl _ rfl tyIdRow m _ rfl h0.map ?_; intro w0 hit0 hf0 hs1)
  go_frame
  have e1 := hs0
  rw [e1] at hit0 hs1 ⊢
  clear e1
  generalize w.alloc (.cells #[.int .i64 c] 3) = W0 at *
  obtain ⟨i0, TR⟩ := etRow
  go_loopw [7] (fun v wr => ∃ (A : Option Addr) (n cap : Nat) (done rest : List (IdK × RowV)), v = .slice A n cap ∧ Hid (ChRel w W0 wr m s p (.slice A n cap) done rest)) (fun _ wr => wr.rangeLeft m (w.heap.size + 1))
  case atStart => exact ⟨none, 0, 0, [], s.M, rfl, Lib.hid ⟨by simp, hit0, OwnL.nil, hf0, fun g hg => by simp [Value.ownBlock] at hg⟩⟩
  case round =>
    obtain ⟨A, n, cap, done, rest, rfl, R⟩ := hrel
    go_wp2_with (at_next; refine wpList_vnext _ rfl _ rfl tyIdRow m _ _ _ (fun _ _ => trivial) rfl R.out.iter ?_ ?_)
    · intro hnil
      subst hnil
      have hperm := R.out.perm
      rw [List.append_nil] at hperm
      have hrow := Lib.hid R.out.row
      have hF := Lib.hid (F0.trans R.out.fr)
      have hown := Lib.hid R.out.own
      have hb := hB0.fr R.out.fr (by simp)
      have hcc := hb.cell 0
      have HPM := Lib.hid hperm
      clear R hperm hit0 hf0 hs1
      have hsort : Hid (Calls Tryz.prog 68 #[.slice A n cap, .func (.func 69) #[] #[.pointer (some ⟨w.heap.size, 0, none⟩)]] wr fun e w' =>
          e = .returned (.tuple #[]) ∧ ∃ R, RowsOwn w' (.slice A n cap) R ∧ R.Perm ((done.map (·.2)).filter p) ∧ R.Pairwise (fun x y => ¬ ahead2 c y x) ∧ Fr [] w w') := Lib.hid (sort_rows c A n cap w.heap.size w wr _ hrow.out (by have h1 := List.length_filter_le p (done.map (·.2)); rw [List.length_map, ← HPM.out.length_eq] at h1; omega) (Nat.le_refl _) hcc hF.out hown.out)
      clear hrow hF hcc hb
      go_wp2_with (go_at_call 68; refine hsort.out.mono ?_; rintro e w2 ⟨rfl, R, hr2, hp2, hs2, hf2⟩; have HR2 := Lib.hid hr2; have HP2 := Lib.hid hp2; have HS2 := Lib.hid hs2; have HF2 := Lib.hid hf2; clear hr2 hp2 hs2 hf2)
      go_ret
      exact ⟨_, R, rfl, HR2.out, HP2.out.trans ((HPM.out.symm.map _).filter _), HS2.out, HF2.out, fun g hg => Nat.le_of_lt (hown.out g hg)⟩
    · intro ta tb htb u rest' w1 hp1 hm1 hit1 hf1 hs2 hen
      have hdl : Hid (((done.map (·.2)).filter p).length + [u].length ≤ 2010) := Lib.hid (by
        have h1 := List.length_filter_le p (done.map (·.2))
        have h2 := R.out.perm.length_eq
        rw [List.length_append] at h2
        rw [List.length_map] at h1
        simp only [List.length_singleton]
        omega)
      have hS : ∀ g, (Value.slice A n cap).ownBlock = some g → w.heap.size < g ∧ g ≠ w.heap.size + 1 := fun g hg => ⟨R.out.own g hg, fun e => R.out.iter.ne_own R.out.row hg e.symm⟩
      have hnext := Lib.hid (fun (v : Value) (W : World) (S : List Nat) (hr : RowsOwn W v (((done ++ [((⟨(ta, tb), htb⟩ : IdK), u)]).map (·.2)).filter p)) (hi : Fr S w1 W) (hSS : ∀ g ∈ S, (Value.slice A n cap).ownBlock = some g) (hv : ∀ g, v.ownBlock = some g → w.heap.size < g) =>
        (show ChRel w W0 W m s p v (done ++ [((⟨(ta, tb), htb⟩ : IdK), u)]) rest' ∧ W.rangeLeft m (w.heap.size + 1) < wr.rangeLeft m (w.heap.size + 1) from by
          have h2 := hit1.fr hi (fun hm => by have := (hS _ (hSS _ hm)).1; omega) (fun hm => (hS _ (hSS _ hm)).2 rfl)
          refine ⟨⟨R.out.perm.trans ((hp1.append_left done).trans (by simp)), h2, hr, (R.out.fr.trans' hf1 (by simp; omega)).trans' hi (fun g hg => .inr (by have := (hS _ (hSS _ hg)).1; omega)), hv⟩, ?_⟩
          rw [h2.left_eq, R.out.iter.left_eq, hp1.length_eq]
          simp))
      have hrow1 := R.out.row.fr hf1 (fun g hg => by
        have := R.out.iter.ne_own R.out.row hg
        simpa using fun e => this e.symm)
      have hfw : Fr [] w w1 := F0.trans ((R.out.fr).trans' hf1 (by simp; omega))
      have hown := Lib.hid R.out.own
      clear hit1 hf1 hit0 hf0 hs1 R hp1 hm1
      obtain ⟨t, k, xa, xb, xc⟩ := u
      have hN0 := Blk.new w1 67 #[.int .i64 t, .int .i64 k, .int .i64 xa, .int .i64 xb, .int .i64 xc]
      rw [hs2] at hN0
      have F1 : Fr [] w1 (w1.alloc (.cells #[.int .i64 t, .int .i64 k, .int .i64 xa, .int .i64 xb, .int .i64 xc] 67)) := (Fr.refl _ _).alloc _
      have HPP := Lib.hid (HP.out _ ⟨t, k, xa, xb, xc⟩ (hfw.trans F1))
      cases hpu : p ⟨t, k, xa, xb, xc⟩
      · have Hpu := Lib.hid hpu
        clear hpu
        go_wp2_with (go_at_fn g; refine HPP.out.mono ?_; rintro e w2 ⟨he, f2⟩; rw [Hpu.out] at he; subst he)
        have R2 := hnext.out (.slice A n cap) w2 [] (by rw [List.map_append, List.filter_append]; simpa [Hpu.out] using hrow1.fr (F1.trans f2) (by simp)) (F1.trans f2) (by simp) hown.out
        go_roundw
        case rel => exact ⟨A, n, cap, _, _, rfl, Lib.hid R2.1⟩
        case measure => exact R2.2
      · have Hpu := Lib.hid hpu
        clear hpu
        have hrow1' := Lib.hid hrow1
        clear hrow1
        go_wp2_with (first
          | (go_at_fn g; refine HPP.out.mono ?_; rintro e w2 ⟨he, f2⟩; rw [Hpu.out] at he; subst he; have hN := hN0.fr f2 (by simp); have x0 := hN.cell 0; have x1 := hN.cell 1; have x2 := hN.cell 2; have x3 := hN.cell 3; have x4 := hN.cell 4; have hrow2 := Lib.hid (hrow1'.out.fr (F1.trans f2) (by simp)); have F2 := Lib.hid (F1.trans f2); clear f2 hN)
          | (at_builtin; refine wpList_appendL rfl _ _ rfl TR RowV.cells_len RowV.cells_one rfl (hrow2.out.fr ((Fr.refl [] w2).alloc (.cells #[.int .i64 t, .int .i64 k, .int .i64 xa, .int .i64 xb, .int .i64 xc] 67)) (by simp)) (w2.heap.size + 1) _ _ _ [(⟨t, k, xa, xb, xc⟩ : RowV)] rfl rfl (reads_new (enc := RowV.cells) w2 67 ⟨t, k, xa, xb, xc⟩ rfl) (Nat.le_trans hdl.out (by decide)) (Nat.le_trans (Nat.mul_le_mul_right 40 hdl.out) (by decide)) ?_; intro v5 w5 hrow5 (hg5 : World.grownBy _ w5 (Value.slice A n cap).ownBlock) hat5; have HR5 := Lib.hid hrow5; have HG5 := Lib.hid hg5; have HA5 := Lib.hid hat5; obtain ⟨A5, n5, cap5, hv5⟩ : ∃ A n c, v5 = .slice A n c := (match hrow5.val with | ⟨_, _, hv⟩ => ⟨_, _, _, hv⟩); subst hv5; clear hrow5 hg5 hat5))
        have R2 := hnext.out (.slice A5 n5 cap5) w5 (Value.slice A n cap).ownBlock.toList (by rw [List.map_append, List.filter_append]; simpa [Hpu.out] using HR5.out) (((F2.out.alloc _).mono (by simp)).grown HG5.out (fun g hg => .inl (by simp [hg]))) (fun g hg => by simpa using hg) (fun g hg => by
          rcases HA5.out with h1 | h1
          · exact hown.out g (h1 ▸ hg)
          · rw [h1] at hg
            injection hg with hg
            rw [World.size_alloc] at hg
            have := F2.out.size
            have := hfw.size
            omega)
        go_roundw
        case rel => exact ⟨A5, n5, cap5, _, _, rfl, Lib.hid R2.1⟩
        case measure => exact R2.2
end Go.Proofs.YthiaaminkfkjpaaGreat

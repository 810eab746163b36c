/-
  The map of a join's partners.
-/
import Derived.Test.YtciaallekkdnhaaGreatJq
import Derived.Test.YtciaallekkdnhaaGreatSort
import Derived.Test.YtciaallekkdnhaaGreatJi
import Derived.Test.YtciaallekkdnhaaGreatLay
import Derived.StillTailTactics
import Derived.Test.YtciaallekkdnhaaGreatJd
import Derived.Test.YtciaallekkdnhaaGreatJc
import Derived.Test.YtciaallekkdnhaaGreatJl
import Derived.Deep.DeepCutAuto
import Derived.Test.YtciaallekkdnhaaGreatJf
import Derived.OwnWalk
import Derived.WalkSpells
namespace Go.Proofs.YtciaallekkdnhaaGreat
open Go.RowKit Go.Sort

instance : Inhabited RowV := ⟨⟨0, 0, 0, 0, 0⟩⟩

theorem cmpI_spec (x y : Int) : (cmpI x y = -1 ∧ x < y) ∨ (cmpI x y = 1 ∧ y < x) ∨ (cmpI x y = 0 ∧ x = y) := by
  unfold cmpI
  split
  · exact .inl ⟨rfl, by assumption⟩
  · split
    · exact .inr (.inl ⟨rfl, by assumption⟩)
    · exact .inr (.inr ⟨rfl, by omega⟩)
/-- A row stands ahead of another. -/
def ahead2 (c : Int) (a b : RowV) : Prop := a.value c < b.value c ∨ (a.value c = b.value c ∧ a.k < b.k)
theorem cmpRow_neg (c : Int) (a b : RowV) : ltOf (cmpRow c) a b = true ↔ ahead2 c a b := by
  unfold ltOf cmpRow ahead2
  rw [decide_eq_true_eq]
  rcases cmpI_spec (a.value c) (b.value c) with ⟨h1, h2⟩ | ⟨h1, h2⟩ | ⟨h1, h2⟩
  · rw [h1]; simp; omega
  · rw [h1]; simp; omega
  · rw [h1, if_pos rfl]
    rcases cmpI_spec a.k b.k with ⟨h3, h4⟩ | ⟨h3, h4⟩ | ⟨h3, h4⟩ <;> rw [h3] <;> simp <;> omega
theorem swoRow (c : Int) : SWO (ltOf (cmpRow c)) where
  irrefl x := by
    rw [Bool.eq_false_iff]
    intro h
    have := (cmpRow_neg c x x).1 h
    unfold ahead2 at this
    omega
  trans x y z h1 h2 := by
    have h1 := (cmpRow_neg c x y).1 h1
    have h2 := (cmpRow_neg c y z).1 h2
    refine (cmpRow_neg c x z).2 ?_
    unfold ahead2 at *
    omega
  ntrans x y z h1 h2 := by
    rw [Bool.eq_false_iff] at h1 h2 ⊢
    intro h3
    have h3 := (cmpRow_neg c x z).1 h3
    have h1 : ¬ ahead2 c x y := fun h => h1 ((cmpRow_neg c x y).2 h)
    have h2 : ¬ ahead2 c y z := fun h => h2 ((cmpRow_neg c y z).2 h)
    unfold ahead2 at *
    omega

theorem Iter.ne_own {K V X : Type} {P : Program} {k : TypeId} {kl : K → Lit} {ev : V → Value} {w : World} {b r e size : Nat} {M rest : List (K × V)} {enc : X → List Value} {v : Value} {L : List X} (h : Iter P k kl ev w b r M rest) (ho : OwnL e size enc w v L) {g : Nat} (hg : v.ownBlock = some g) : r ≠ g := by
  rcases ho.2 with ⟨rfl, _⟩ | ⟨g', cap, cur, rfl, _, hh, _⟩
  · simp [Value.ownBlock] at hg
  · simp [Value.ownBlock] at hg
    subst hg
    exact h.ne_cells hh
theorem sort_rows (c : Int) (A : Option Addr) (n cap gc : Nat) (w0 w : World) (L : List RowV) (h : RowsOwn w (.slice A n cap) L) (hl : L.length ≤ 4000) (hgc : gc ≤ w0.heap.size) (hc : w.cell? ⟨gc, 0, none⟩ = some (.int .i64 c)) (hf : Fr [] w0 w) (hown : ∀ g, (Value.slice A n cap).ownBlock = some g → w0.heap.size < g) :
    Calls Tryz.prog 129 #[.slice A n cap, .func (.func 130) #[] #[.pointer (some ⟨gc, 0, none⟩)]] w fun e w' =>
      e = .returned (.tuple #[]) ∧ ∃ R, RowsOwn w' (.slice A n cap) R ∧ R.Perm L ∧ R.Pairwise (fun x y => ¬ ahead2 c y x) ∧ Fr [] w0 w' := by
  obtain ⟨A', cap', hv⟩ := h.val
  cases hv
  rcases Nat.eq_zero_or_pos L.length with h0 | h0
  · have hL : L = [] := List.eq_nil_of_length_eq_zero h0
    subst hL
    have hcon := AnyF.slices_SortFunc_none (P := Tryz.prog) (ρ := Shlf.sortRow_ren) { Shlf.sortRow with } A cap (.func (.func 130) #[] #[.pointer (some ⟨gc, 0, none⟩)]) w
    change Calls Tryz.prog 129 _ _ _ at hcon
    refine hcon.mono ?_
    rintro e w' ⟨rfl, rfl⟩
    exact ⟨rfl, [], h, List.Perm.refl _, List.Pairwise.nil, hf⟩
  · obtain ⟨g, cap', hv, hnc, hcm, hgl, _, _⟩ := h.form RowV.cells_len h0
    cases hv
    have hgw := hown g rfl
    have eg : ∀ args w, (callFunc 130 args).run Tryz.prog w = .ok (.enter 130 args) w := enters_of Tryz.func130 (by kernel_rfl) rfl
    have hcmp : CmpLays Tryz.prog 130 #[.pointer (some ⟨gc, 0, none⟩)] RowV.cells 5 (cmpRow c) g 0 L.toArray.size w := fun m os dk _ x y =>
      cmp_any c x y gc _ (by
        rw [(sortWorld_fr (g := g) (w := w) (enc := RowV.cells) m dk os 5 0).cell (p := ⟨gc, 0, none⟩) (World.block_lt_of_cell? w _ hc) (by simp; omega)]
        exact hc)
    have hcon := AnyQ.slices_SortFunc (P := Tryz.prog) (ρ := Shlf.sortRow_ren) Shlf.sortRow 5 Tryz.isAgg116 Tryz.sizeOf116 RowV.cells RowV.cells_len RowV.cells_one (cmpRow c) (swoRow c) 130 #[.pointer (some ⟨gc, 0, none⟩)] g 0 cap L.toArray w eg hcmp (h.holdsK RowV.cells_len) hgl (by simp only [List.size_toArray]; omega)
    change Calls Tryz.prog 129 _ _ _ at hcon
    simp only [List.size_toArray] at hcon
    refine hcon.mono ?_
    rintro e w' ⟨rfl, d', n, os, hp, hs, rfl⟩
    have hd : d'.size = L.length := by simpa using hp.1
    refine ⟨rfl, d'.toList, h.sorted RowV.cells_len d' hd n os, ?_, ?_, hf.trans' (sortWorld_fr n d' os 5 0) (by simp; omega)⟩
    · have h1 := hp.2.2
      have h2 : d'.extract 0 L.length = d' := by rw [← hd]; simp
      have h3 : L.toArray.extract 0 L.length = L.toArray := by simp
      rw [h2, h3] at h1
      simpa using h1
    · rw [List.pairwise_iff_getElem]
      intro i j hi hj hij h1
      have h2 := hs i j (Nat.zero_le _) hij (by rw [← hd]; simpa using hj)
      have hi' : i < d'.size := by simpa using hi
      have hj' : j < d'.size := by simpa using hj
      have e1 : d'[i]! = d'.toList[i] := by simp [hi']
      have e2 : d'[j]! = d'.toList[j] := by simp [hj']
      rw [e1, e2] at h2
      have := (cmpRow_neg c _ _).2 h1
      rw [this] at h2
      cases h2

/-- What stands at the head of each round of 'chosen'. -/
structure ChRel (w W0 wr : World) (m : Nat) (s : Sm.Sta) (p : RowV → Bool) (v : Value) (done rest : List (IdK × RowV)) : Prop where
  perm : s.M.Perm (done ++ rest)
  iter : Iter Tryz.prog 114 klId RowV.val wr m (w.heap.size + 1) s.M rest
  row : RowsOwn wr v ((done.map (·.2)).filter p)
  fr : Fr [] W0 wr
  own : ∀ g, v.ownBlock = some g → w.heap.size < g

set_option maxRecDepth 100000 in
set_option maxHeartbeats 20000000 in
theorem chosen_any (b m : Nat) (s : Sm.Sta) (c : Int) (g : Nat) (cb : Array Value) (p : RowV → Bool) (w : World) (h : StaAt w b m s) (eg : ∀ args w, (callFunc g args).run Tryz.prog w = .ok (.enter g args) w)
    (hp : ∀ (W : World) (r : RowV), Fr [] w W → Calls Tryz.prog g (#[r.val] ++ cb) W fun e w' => e = .returned (.bool (p r)) ∧ Fr [] W w') :
    Calls Tryz.prog 103 #[.pointer (some ⟨b, 0, none⟩), .int .i64 c, .func (.func g) #[] cb] w fun e w' => ∃ v R, e = .returned v ∧ RowsOwn w' v R ∧ R.Perm ((s.M.map (·.2)).filter p) ∧ R.Pairwise (fun x y => ¬ ahead2 c y x) ∧ Fr [] w w' ∧
      ∀ g, v.ownBlock = some g → w.heap.size ≤ g := by
  have HP := Lib.hid hp
  clear hp
  have F0 : Fr [] w (w.alloc (.cells #[.int .i64 c] 3)) := (Fr.refl _ _).alloc _
  have hB0 := Blk.new w 3 #[.int .i64 c]
  have h0 := h.fr0 F0
  have hml := h.lt.2
  have c0 : (w.alloc (.cells #[.int .i64 c] 3)).cell? ⟨b, 0, none⟩ = some (.map (some m)) := h0.blk.cell 0
  have hlen := h.ok.len
  have H := Lib.hid h
  have hs0 : (w.alloc (.cells #[.int .i64 c] 3)).heap.size = w.heap.size + 1 := by simp
  go_enter Tryz.func103, Tryz.ntmps103
  clear h
  go_wp2_with (at_range; refine wpList_vrange _ rfl _ rfl tyIdRow m _ rfl h0.map ?_; intro w0 hit0 hf0 hs1)
  go_frame
  have e1 := hs0
  rw [e1] at hit0 hs1 ⊢
  clear e1
  generalize w.alloc (.cells #[.int .i64 c] 3) = W0 at *
  obtain ⟨i0, TR⟩ := etRow
  go_loopw [7] (fun v wr => ∃ (A : Option Addr) (n cap : Nat) (done rest : List (IdK × RowV)), v = .slice A n cap ∧ Hid (ChRel w W0 wr m s p (.slice A n cap) done rest)) (fun _ wr => wr.rangeLeft m (w.heap.size + 1))
  case atStart => exact ⟨none, 0, 0, [], s.M, rfl, Lib.hid ⟨by simp, hit0, OwnL.nil, hf0, fun g hg => by simp [Value.ownBlock] at hg⟩⟩
  case round =>
    obtain ⟨A, n, cap, done, rest, rfl, R⟩ := hrel
    go_wp2_with (at_next; refine wpList_vnext _ rfl _ rfl tyIdRow m _ _ _ (fun _ _ => trivial) rfl R.out.iter ?_ ?_)
    · intro hnil
      subst hnil
      have hperm := R.out.perm
      rw [List.append_nil] at hperm
      have hrow := Lib.hid R.out.row
      have hF := Lib.hid (F0.trans R.out.fr)
      have hown := Lib.hid R.out.own
      have hb := hB0.fr R.out.fr (by simp)
      have hcc := hb.cell 0
      have HPM := Lib.hid hperm
      clear R hperm hit0 hf0 hs1
      have hsort : Hid (Calls Tryz.prog 129 #[.slice A n cap, .func (.func 130) #[] #[.pointer (some ⟨w.heap.size, 0, none⟩)]] wr fun e w' =>
          e = .returned (.tuple #[]) ∧ ∃ R, RowsOwn w' (.slice A n cap) R ∧ R.Perm ((done.map (·.2)).filter p) ∧ R.Pairwise (fun x y => ¬ ahead2 c y x) ∧ Fr [] w w') := Lib.hid (sort_rows c A n cap w.heap.size w wr _ hrow.out (by have h1 := List.length_filter_le p (done.map (·.2)); rw [List.length_map, ← HPM.out.length_eq] at h1; omega) (Nat.le_refl _) hcc hF.out hown.out)
      clear hrow hF hcc hb
      go_wp2_with (go_at_call 129; refine hsort.out.mono ?_; rintro e w2 ⟨rfl, R, hr2, hp2, hs2, hf2⟩; have HR2 := Lib.hid hr2; have HP2 := Lib.hid hp2; have HS2 := Lib.hid hs2; have HF2 := Lib.hid hf2; clear hr2 hp2 hs2 hf2)
      go_ret
      exact ⟨_, R, rfl, HR2.out, HP2.out.trans ((HPM.out.symm.map _).filter _), HS2.out, HF2.out, fun g hg => Nat.le_of_lt (hown.out g hg)⟩
    · intro ta tb htb u rest' w1 hp1 hm1 hit1 hf1 hs2 hen
      have hdl : Hid (((done.map (·.2)).filter p).length + [u].length ≤ 2010) := Lib.hid (by
        have h1 := List.length_filter_le p (done.map (·.2))
        have h2 := R.out.perm.length_eq
        rw [List.length_append] at h2
        rw [List.length_map] at h1
        simp only [List.length_singleton]
        omega)
      have hS : ∀ g, (Value.slice A n cap).ownBlock = some g → w.heap.size < g ∧ g ≠ w.heap.size + 1 := fun g hg => ⟨R.out.own g hg, fun e => R.out.iter.ne_own R.out.row hg e.symm⟩
      have hnext := Lib.hid (fun (v : Value) (W : World) (S : List Nat) (hr : RowsOwn W v (((done ++ [((⟨(ta, tb), htb⟩ : IdK), u)]).map (·.2)).filter p)) (hi : Fr S w1 W) (hSS : ∀ g ∈ S, (Value.slice A n cap).ownBlock = some g) (hv : ∀ g, v.ownBlock = some g → w.heap.size < g) =>
        (show ChRel w W0 W m s p v (done ++ [((⟨(ta, tb), htb⟩ : IdK), u)]) rest' ∧ W.rangeLeft m (w.heap.size + 1) < wr.rangeLeft m (w.heap.size + 1) from by
          have h2 := hit1.fr hi (fun hm => by have := (hS _ (hSS _ hm)).1; omega) (fun hm => (hS _ (hSS _ hm)).2 rfl)
          refine ⟨⟨R.out.perm.trans ((hp1.append_left done).trans (by simp)), h2, hr, (R.out.fr.trans' hf1 (by simp; omega)).trans' hi (fun g hg => .inr (by have := (hS _ (hSS _ hg)).1; omega)), hv⟩, ?_⟩
          rw [h2.left_eq, R.out.iter.left_eq, hp1.length_eq]
          simp))
      have hrow1 := R.out.row.fr hf1 (fun g hg => by
        have := R.out.iter.ne_own R.out.row hg
        simpa using fun e => this e.symm)
      have hfw : Fr [] w w1 := F0.trans ((R.out.fr).trans' hf1 (by simp; omega))
      have hown := Lib.hid R.out.own
      clear hit1 hf1 hit0 hf0 hs1 R hp1 hm1
      obtain ⟨t, k, xa, xb, xc⟩ := u
      have hN0 := Blk.new w1 116 #[.int .i64 t, .int .i64 k, .int .i64 xa, .int .i64 xb, .int .i64 xc]
      rw [hs2] at hN0
      have F1 : Fr [] w1 (w1.alloc (.cells #[.int .i64 t, .int .i64 k, .int .i64 xa, .int .i64 xb, .int .i64 xc] 116)) := (Fr.refl _ _).alloc _
      have HPP := Lib.hid (HP.out _ ⟨t, k, xa, xb, xc⟩ (hfw.trans F1))
      cases hpu : p ⟨t, k, xa, xb, xc⟩
      · have Hpu := Lib.hid hpu
        clear hpu
        go_wp2_with (go_at_fn g; refine HPP.out.mono ?_; rintro e w2 ⟨he, f2⟩; rw [Hpu.out] at he; subst he)
        have R2 := hnext.out (.slice A n cap) w2 [] (by rw [List.map_append, List.filter_append]; simpa [Hpu.out] using hrow1.fr (F1.trans f2) (by simp)) (F1.trans f2) (by simp) hown.out
        go_roundw
        case rel => exact ⟨A, n, cap, _, _, rfl, Lib.hid R2.1⟩
        case measure => exact R2.2
      · have Hpu := Lib.hid hpu
        clear hpu
        have hrow1' := Lib.hid hrow1
        clear hrow1
        go_wp2_with (first
          | (go_at_fn g; refine HPP.out.mono ?_; rintro e w2 ⟨he, f2⟩; rw [Hpu.out] at he; subst he; have hN := hN0.fr f2 (by simp); have x0 := hN.cell 0; have x1 := hN.cell 1; have x2 := hN.cell 2; have x3 := hN.cell 3; have x4 := hN.cell 4; have hrow2 := Lib.hid (hrow1'.out.fr (F1.trans f2) (by simp)); have F2 := Lib.hid (F1.trans f2); clear f2 hN)
          | (at_builtin; refine wpList_appendL rfl _ _ rfl TR RowV.cells_len RowV.cells_one rfl (hrow2.out.fr ((Fr.refl [] w2).alloc (.cells #[.int .i64 t, .int .i64 k, .int .i64 xa, .int .i64 xb, .int .i64 xc] 116)) (by simp)) (w2.heap.size + 1) _ _ _ [(⟨t, k, xa, xb, xc⟩ : RowV)] rfl rfl (reads_new (enc := RowV.cells) w2 116 ⟨t, k, xa, xb, xc⟩ rfl) (Nat.le_trans hdl.out (by decide)) (Nat.le_trans (Nat.mul_le_mul_right 40 hdl.out) (by decide)) ?_; intro v5 w5 hrow5 (hg5 : World.grownBy _ w5 (Value.slice A n cap).ownBlock) hat5; have HR5 := Lib.hid hrow5; have HG5 := Lib.hid hg5; have HA5 := Lib.hid hat5; obtain ⟨A5, n5, cap5, hv5⟩ : ∃ A n c, v5 = .slice A n c := (match hrow5.val with | ⟨_, _, hv⟩ => ⟨_, _, _, hv⟩); subst hv5; clear hrow5 hg5 hat5))
        have R2 := hnext.out (.slice A5 n5 cap5) w5 (Value.slice A n cap).ownBlock.toList (by rw [List.map_append, List.filter_append]; simpa [Hpu.out] using HR5.out) (((F2.out.alloc _).mono (by simp)).grown HG5.out (fun g hg => .inl (by simp [hg]))) (fun g hg => by simpa using hg) (fun g hg => by
          rcases HA5.out with h1 | h1
          · exact hown.out g (h1 ▸ hg)
          · rw [h1] at hg
            injection hg with hg
            rw [World.size_alloc] at hg
            have := F2.out.size
            have := hfw.size
            omega)
        go_roundw
        case rel => exact ⟨A5, n5, cap5, _, _, rfl, Lib.hid R2.1⟩
        case measure => exact R2.2
end Go.Proofs.YtciaallekkdnhaaGreat
namespace Go.Proofs.YtciaallekkdnhaaGreat
open Go.RowKit Go.Sort

def inTab (t : Int) (r : RowV) : Bool := decide (r.t = t)
def inRng (t c lo hi : Int) (r : RowV) : Bool := decide (r.t = t) && (decide (lo ≤ r.value c) && decide (r.value c ≤ hi))

theorem rowsC_any (r : RowV) (t : Int) (gt : Nat) (w : World) (h0 : w.cell? ⟨gt, 0, none⟩ = some (.int .i64 t)) :
    Calls Tryz.prog 105 #[r.val, .pointer (some ⟨gt, 0, none⟩)] w fun e w' => e = .returned (.bool (inTab t r)) ∧ Fr [] w w' := by
  obtain ⟨rt, k, x, y, z⟩ := r
  have hl := World.block_lt_of_cell? w _ h0
  have h1 : ∀ o, (w.alloc o).cell? ⟨gt, 0, none⟩ = some (.int .i64 t) := fun o => by rw [World.cell?_alloc_lt _ _ _ hl]; exact h0
  unfold RowV.val inTab
  dsimp only
  by_cases e : rt = t
  · have e' : (rt == t) = true := by simpa using e
    have E := Lib.hid e
    clear e
    go_enter Tryz.func105, Tryz.ntmps105
    go_wp2
    go_ret
    exact ⟨by rw [decide_eq_true E.out]; rfl, (Fr.refl _ _).alloc _⟩
  · have e' : (rt == t) = false := by simpa using e
    have E := Lib.hid e
    clear e
    go_enter Tryz.func105, Tryz.ntmps105
    go_wp2
    go_ret
    exact ⟨by rw [decide_eq_false E.out]; rfl, (Fr.refl _ _).alloc _⟩

theorem rangeC_any (r : RowV) (t c lo hi : Int) (gc gt gl gh : Nat) (w : World) (h0 : w.cell? ⟨gc, 0, none⟩ = some (.int .i64 c)) (h1 : w.cell? ⟨gt, 0, none⟩ = some (.int .i64 t)) (h2 : w.cell? ⟨gl, 0, none⟩ = some (.int .i64 lo)) (h3 : w.cell? ⟨gh, 0, none⟩ = some (.int .i64 hi)) :
    Calls Tryz.prog 104 #[r.val, .pointer (some ⟨gc, 0, none⟩), .pointer (some ⟨gt, 0, none⟩), .pointer (some ⟨gl, 0, none⟩), .pointer (some ⟨gh, 0, none⟩)] w fun e w' => e = .returned (.bool (inRng t c lo hi r)) ∧ Fr [] w w' := by
  obtain ⟨rt, k, x, y, z⟩ := r
  have l0 := World.block_lt_of_cell? w _ h0
  have l1 := World.block_lt_of_cell? w _ h1
  have l2 := World.block_lt_of_cell? w _ h2
  have l3 := World.block_lt_of_cell? w _ h3
  dsimp only at l0 l1 l2 l3
  have hb := Blk.new w 116 #[.int .i64 rt, .int .i64 k, .int .i64 x, .int .i64 y, .int .i64 z]
  have HV := Lib.hid (value5 rt k x y z c)
  have HE : Hid (inRng t c lo hi ⟨rt, k, x, y, z⟩ = (decide (rt = t) && (decide (lo ≤ RowV.value ⟨rt, k, x, y, z⟩ c) && decide (RowV.value ⟨rt, k, x, y, z⟩ c ≤ hi)))) := Lib.hid rfl
  generalize RowV.value ⟨rt, k, x, y, z⟩ c = v at *
  unfold RowV.val
  dsimp only
  have p0 : ∀ o, (w.alloc o).cell? ⟨gc, 0, none⟩ = some (.int .i64 c) := fun o => by rw [World.cell?_alloc_lt _ _ _ (by simpa using l0)]; exact h0
  have q1 : ∀ o o', ((w.alloc o).alloc o').cell? ⟨gt, 0, none⟩ = some (.int .i64 t) := fun o o' => by rw [World.cell?_alloc_lt _ _ _ (by simp; omega), World.cell?_alloc_lt _ _ _ (by simpa using l1)]; exact h1
  have q2 : ∀ o o', ((w.alloc o).alloc o').cell? ⟨gl, 0, none⟩ = some (.int .i64 lo) := fun o o' => by rw [World.cell?_alloc_lt _ _ _ (by simp; omega), World.cell?_alloc_lt _ _ _ (by simpa using l2)]; exact h2
  have q3 : ∀ o o', ((w.alloc o).alloc o').cell? ⟨gh, 0, none⟩ = some (.int .i64 hi) := fun o o' => by rw [World.cell?_alloc_lt _ _ _ (by simp; omega), World.cell?_alloc_lt _ _ _ (by simpa using l3)]; exact h3
  have F2 : ∀ o o', Fr [] w ((w.alloc o).alloc o') := fun o o' => ((Fr.refl _ _).alloc _).alloc _
  by_cases e : rt = t
  · have e' : (rt == t) = true := by simpa using e
    have HE2 : Hid (inRng t c lo hi ⟨rt, k, x, y, z⟩ = (decide (lo ≤ v) && decide (v ≤ hi))) := Lib.hid (by rw [HE.out]; simp [e])
    clear e HE
    by_cases e1 : lo ≤ v
    · by_cases e2 : v ≤ hi
      · have HE3 : Hid (inRng t c lo hi ⟨rt, k, x, y, z⟩ = true) := Lib.hid (by rw [HE2.out]; simp [e1, e2])
        go_enter Tryz.func104, Tryz.ntmps104
        go_wp2_with (go_at_call 66; refine (HV.out _).mono ?_; rintro e w' ⟨rfl, rfl⟩)
        go_ret
        exact ⟨by rw [HE3.out]; rfl, F2 _ _⟩
      · have HE3 : Hid (inRng t c lo hi ⟨rt, k, x, y, z⟩ = false) := Lib.hid (by rw [HE2.out]; simp [e2])
        go_enter Tryz.func104, Tryz.ntmps104
        go_wp2_with (go_at_call 66; refine (HV.out _).mono ?_; rintro e w' ⟨rfl, rfl⟩)
        go_ret
        refine ⟨?_, F2 _ _⟩
        rw [HE3.out]
        refine congrArg (fun b => Ending.returned (.bool b)) ?_
        (first | rfl | (simp; omega))
    · have HE3 : Hid (inRng t c lo hi ⟨rt, k, x, y, z⟩ = false) := Lib.hid (by rw [HE2.out]; simp [e1])
      go_enter Tryz.func104, Tryz.ntmps104
      go_wp2_with (go_at_call 66; refine (HV.out _).mono ?_; rintro e w' ⟨rfl, rfl⟩)
      go_ret
      exact ⟨by rw [HE3.out]; rfl, F2 _ _⟩
  · have e' : (rt == t) = false := by simpa using e
    have HE3 : Hid (inRng t c lo hi ⟨rt, k, x, y, z⟩ = false) := Lib.hid (by rw [HE.out]; simp [e])
    clear e
    go_enter Tryz.func104, Tryz.ntmps104
    go_wp2_with (go_at_call 66; refine (HV.out _).mono ?_; rintro e w' ⟨rfl, rfl⟩)
    go_ret
    exact ⟨by rw [HE3.out]; rfl, F2 _ _⟩

/-- What Rows and Range hand out. -/
structure Picked (s : Sm.Sta) (c : Int) (p : RowV → Bool) (R : List RowV) : Prop where
  perm : R.Perm ((s.M.map (·.2)).filter p)
  srt : R.Pairwise (fun x y => ¬ ahead2 c y x)

theorem srows_any (b m : Nat) (s : Sm.Sta) (t : Int) (w : World) (h : StaAt w b m s) :
    Calls Tryz.prog 53 #[.pointer (some ⟨b, 0, none⟩), .int .i64 t] w fun e w' => ∃ v R, e = .returned v ∧ RowsOwn w' v R ∧ Picked s 0 (inTab t) R ∧ Fr [] w w' ∧ ∀ g, v.ownBlock = some g → w.heap.size ≤ g := by
  have F0 : Fr [] w (w.alloc (.cells #[.int .i64 t] 3)) := (Fr.refl _ _).alloc _
  have hb := Blk.new w 3 #[.int .i64 t]
  have HC := Lib.hid (chosen_any b m s 0 105 #[.pointer (some ⟨w.heap.size, 0, none⟩)] (inTab t) (w.alloc (.cells #[.int .i64 t] 3)) (h.fr0 F0) (enters_of Tryz.func105 (by kernel_rfl) rfl)
    (fun W r hf => rowsC_any r t w.heap.size W ((hb.fr hf (by simp)).cell 0)))
  clear h
  go_enter Tryz.func53, Tryz.ntmps53
  go_wp2_with (go_at_call 103; refine HC.out.mono ?_; rintro e w' ⟨v, R, rfl, hr, hp, hs, hf, ho⟩; have HR := Lib.hid hr; have HPS := Lib.hid (And.intro hp hs); have HF := Lib.hid hf; have HO := Lib.hid ho; clear hr hp hs hf ho)
  go_ret
  exact ⟨v, R, rfl, HR.out, ⟨HPS.out.1, HPS.out.2⟩, F0.trans HF.out, fun g hg => by have := HO.out g hg; simp at this; omega⟩

set_option maxHeartbeats 2000000 in
theorem srange_any (b m : Nat) (s : Sm.Sta) (t c lo hi : Int) (w : World) (h : StaAt w b m s) (h0 : 0 ≤ c) (h4 : c < 4) :
    Calls Tryz.prog 52 #[.pointer (some ⟨b, 0, none⟩), .int .i64 t, .int .i64 c, .int .i64 lo, .int .i64 hi] w fun e w' => ∃ v R, e = .returned v ∧ RowsOwn w' v R ∧ Picked s c (inRng t c lo hi) R ∧ Fr [] w w' ∧ ∀ g, v.ownBlock = some g → w.heap.size ≤ g := by
  have hb0 := (((Blk.new w 3 #[.int .i64 t]).alloc (.cells #[.int .i64 c] 3)).alloc (.cells #[.int .i64 lo] 3)).alloc (.cells #[.int .i64 hi] 3)
  have hb1 := ((Blk.new (w.alloc (.cells #[.int .i64 t] 3)) 3 #[.int .i64 c]).alloc (.cells #[.int .i64 lo] 3)).alloc (.cells #[.int .i64 hi] 3)
  have hb2 := (Blk.new ((w.alloc (.cells #[.int .i64 t] 3)).alloc (.cells #[.int .i64 c] 3)) 3 #[.int .i64 lo]).alloc (.cells #[.int .i64 hi] 3)
  have hb3 := Blk.new (((w.alloc (.cells #[.int .i64 t] 3)).alloc (.cells #[.int .i64 c] 3)).alloc (.cells #[.int .i64 lo] 3)) 3 #[.int .i64 hi]
  have F0 : Fr [] w ((((w.alloc (.cells #[.int .i64 t] 3)).alloc (.cells #[.int .i64 c] 3)).alloc (.cells #[.int .i64 lo] 3)).alloc (.cells #[.int .i64 hi] 3)) := ((((Fr.refl _ _).alloc _).alloc _).alloc _).alloc _
  simp only [World.size_alloc] at hb1 hb2 hb3
  have HC := Lib.hid (chosen_any b m s c 104 #[.pointer (some ⟨w.heap.size + 1, 0, none⟩), .pointer (some ⟨w.heap.size, 0, none⟩), .pointer (some ⟨w.heap.size + 1 + 1, 0, none⟩), .pointer (some ⟨w.heap.size + 1 + 1 + 1, 0, none⟩)] (inRng t c lo hi) _ (h.fr0 F0) (enters_of Tryz.func104 (by kernel_rfl) rfl)
    (fun W r hf => rangeC_any r t c lo hi (w.heap.size + 1) w.heap.size (w.heap.size + 1 + 1) (w.heap.size + 1 + 1 + 1) W ((hb1.fr hf (by simp)).cell 0) ((hb0.fr hf (by simp)).cell 0) ((hb2.fr hf (by simp)).cell 0) ((hb3.fr hf (by simp)).cell 0)))
  clear h hb0 hb1 hb2 hb3
  go_enter Tryz.func52, Tryz.ntmps52
  go_wp2_with fail
  refine HC.out.mono ?_
  rintro e w' ⟨v, R, rfl, hr, hp, hs, hf, ho⟩
  have HR := Lib.hid hr
  have HPS := Lib.hid (And.intro hp hs)
  have HF := Lib.hid hf
  have HO := Lib.hid ho
  clear hr hp hs hf ho
  go_wp2_with fail
  go_ret
  exact ⟨v, R, rfl, HR.out, ⟨HPS.out.1, HPS.out.2⟩, F0.trans HF.out, fun g hg => by have := HO.out g hg; simp at this; omega⟩
end Go.Proofs.YtciaallekkdnhaaGreat
namespace Go.Proofs.YtciaallekkdnhaaGreat

theorem ahead2_total {c : Int} {a b : RowV} (h1 : ¬ ahead2 c a b) (h2 : ¬ ahead2 c b a) : a.value c = b.value c ∧ a.k = b.k := by
  unfold ahead2 at h1 h2
  omega
theorem ahead2_asymm {c : Int} {a b : RowV} (h : ahead2 c a b) : ¬ ahead2 c b a := by
  unfold ahead2 at *
  omega
/-- Rows of one table are told apart by their keys. -/
def KeyApart (R : List RowV) : Prop := ∀ a ∈ R, ∀ b ∈ R, a.k = b.k → a = b
theorem picked_uniq : ∀ {R R' : List RowV} {c : Int}, R.Perm R' → KeyApart R → R.Pairwise (fun x y => ¬ ahead2 c y x) → R'.Pairwise (fun x y => ¬ ahead2 c y x) → R = R'
  | [], R', _, hp, _, _, _ => by rw [hp.nil_eq]
  | a :: R, [], _, hp, _, _, _ => by have := hp.length_eq; simp at this
  | a :: R, b :: R', c, hp, hk, h1, h2 => by
    obtain ⟨h3, h4⟩ := List.pairwise_cons.1 h1
    obtain ⟨h5, h6⟩ := List.pairwise_cons.1 h2
    have hb : b ∈ a :: R := hp.mem_iff.2 (by simp)
    have ha : a ∈ b :: R' := hp.mem_iff.1 (by simp)
    have e : a = b := by
      rcases List.mem_cons.1 ha with e | ha
      · exact e
      · rcases List.mem_cons.1 hb with e | hb
        · exact e.symm
        · exact hk a (by simp) b (by simp [hb]) (ahead2_total (h5 a ha) (h3 b hb)).2
    subst e
    rw [picked_uniq hp.cons_inv (fun x hx y hy => hk x (by simp [hx]) y (by simp [hy])) h4 h6]
theorem keyApart_filter {s : Sm.Sta} (h : Sm.Ok s) (t : Int) {p : RowV → Bool} (hp : ∀ r, p r = true → r.t = t) : KeyApart ((s.M.map (·.2)).filter p) := by
  intro a ha b hb hk
  obtain ⟨ha1, ha2⟩ := List.mem_filter.1 ha
  obtain ⟨hb1, hb2⟩ := List.mem_filter.1 hb
  obtain ⟨⟨i, a'⟩, hia, rfl⟩ := List.mem_map.1 ha1
  obtain ⟨⟨j, b'⟩, hjb, rfl⟩ := List.mem_map.1 hb1
  dsimp only at hk ha2 hb2 ⊢
  have e1 := h.key _ hia
  have e2 := h.key _ hjb
  dsimp only at e1 e2
  have hij : i = j := Subtype.ext (by rw [e1, e2, hp _ ha2, hp _ hb2, hk])
  subst hij
  have h1 := (mget_iff h.nd).2 hia
  have h2 := (mget_iff h.nd).2 hjb
  rw [h1] at h2
  exact Option.some.inj h2
theorem Picked.uniq {s : Sm.Sta} {c t : Int} {p : RowV → Bool} {R R' : List RowV} (h : Picked s c p R) (h' : Picked s c p R') (ho : Sm.Ok s) (hp : ∀ r, p r = true → r.t = t) : R = R' :=
  picked_uniq (h.perm.trans h'.perm.symm) (fun a ha b hb => keyApart_filter ho t hp a (h.perm.mem_iff.1 ha) b (h.perm.mem_iff.1 hb)) h.srt h'.srt
theorem inTab_t {t : Int} (r : RowV) (h : inTab t r = true) : r.t = t := by simpa [inTab] using h
theorem inRng_t {t c lo hi : Int} (r : RowV) (h : inRng t c lo hi r = true) : r.t = t := by
  simp only [inRng, Bool.and_eq_true, decide_eq_true_eq] at h
  exact h.1
theorem insert_perm {R : List RowV} {x : RowV} (k : Nat) : (R.take k ++ x :: R.drop k).Perm (R ++ [x]) := by
  refine List.perm_middle.trans ?_
  rw [List.take_append_drop]
  exact (List.perm_append_singleton x R).symm
end Go.Proofs.YtciaallekkdnhaaGreat
namespace Go.Proofs.YtciaallekkdnhaaGreat
open Go.RowKit

def encI (x : Int) : List Value := [.int .i64 x]
theorem encI_len (x : Int) : (encI x).length = 1 := rfl
theorem encI_one (x : Int) : ∀ u ∈ encI x, u.oneCell' = true := by
  intro u hu
  simp only [encI, List.mem_singleton] at hu
  subst hu
  rfl
theorem etI : ∃ i z, ET Tryz.prog 49 3 1 8 i z := by
  have h : (Tryz.prog.info? 3).map (fun i => (i.zero, i.size, i.bytes)) = some (some (.int .i64 0), 1, 8) := by kernel_rfl
  obtain ⟨i0, hi, hz0, hz1, hz2⟩ := info_parts h
  exact ⟨i0, _, Tryz.underlying49, hi, hz0, hz1, hz2, rfl, by decide⟩
/-- Integers at an address. -/
def IntRow (w : World) (A : Option Addr) (xs : List Int) : Prop := 0 < xs.length → ∃ b off, A = some ⟨b, off, none⟩ ∧ b < w.heap.size ∧ ∀ k (h : k < xs.length), w.cell? ⟨b, off + k, none⟩ = some (.int .i64 xs[k])
theorem IntRow.fr0 {w w' : World} {A : Option Addr} {xs : List Int} (h : IntRow w A xs) (hf : Fr [] w w') : IntRow w' A xs := by
  intro h0
  obtain ⟨b, off, e, hb, hc⟩ := h h0
  exact ⟨b, off, e, Nat.lt_of_lt_of_le hb hf.size, fun k hk => by rw [hf.cell (p := ⟨b, off + k, none⟩) hb (by simp)]; exact hc k hk⟩
theorem IntRow.of_own {w : World} {A : Option Addr} {n cap : Nat} {xs : List Int} (h : OwnL 3 1 encI w (.slice A n cap) xs) : IntRow w A xs ∧ n = xs.length := by
  obtain ⟨h1, h2⟩ := h.at1 encI_len
  refine ⟨fun h0 => ?_, h2⟩
  obtain ⟨b, off, e, hb, hc⟩ := h1 h0
  refine ⟨b, off, e, hb, fun k hk => ?_⟩
  have h3 := hc k hk 0 (by decide)
  rw [Nat.mul_one, Nat.add_zero] at h3
  exact h3
/-- What a fold does to a number and a flag. -/
def foldS {X : Type} (g : Int → Bool → X → Int × Bool) (l : List X) (s : Int × Bool) : Int × Bool := l.foldl (fun s x => g s.1 s.2 x) s
theorem foldS_take {X : Type} (g : Int → Bool → X → Int × Bool) (l : List X) (s : Int × Bool) {k : Nat} (hk : k < l.length) {n : Int} {f : Bool} (h : foldS g (l.take k) s = (n, f)) : foldS g (l.take (k + 1)) s = g n f l[k] := by
  unfold foldS at *
  rw [List.take_succ_eq_append_getElem hk, List.foldl_append, h]
  rfl
/-- Between two rounds. -/
structure FoRel (w wr : World) (v : Value) (n : Int) (f : Bool) : Prop where
  box : Blk wr w.heap.size 71 #[v, .int .i64 n, .bool f]
  res : Blk wr (w.heap.size + 1) 71 #[.slice none 0 0, .int .i64 0, .bool false]
  fr : Fr [] w wr
theorem FoRel.new (w : World) (v : Value) (n : Int) (f : Bool) : FoRel w ((w.alloc (.cells #[v, .int .i64 n, .bool f] 71)).alloc (.cells #[.slice none 0 0, .int .i64 0, .bool false] 71)) v n f := by
  refine ⟨(Blk.new w _ _).alloc _, ?_, ((Fr.refl _ _).alloc _).alloc _⟩
  have h := Blk.new (w.alloc (.cells #[v, .int .i64 n, .bool f] 71)) 71 #[.slice none 0 0, .int .i64 0, .bool false]
  rw [World.size_alloc] at h
  exact h
theorem FoRel.fr0 {w wr w' : World} {v : Value} {n : Int} {f : Bool} (h : FoRel w wr v n f) (hf : Fr [] wr w') : FoRel w w' v n f := ⟨h.box.fr hf (by simp), h.res.fr hf (by simp), h.fr.trans hf⟩
theorem FoRel.put {w w2 : World} {v : Value} {n : Int} {f : Bool} (h : FoRel w w2 v n f) (n2 : Int) (f2 : Bool) :
    FoRel w (((w2.setCell ⟨w.heap.size, 0, none⟩ v).setCell ⟨w.heap.size, 1, none⟩ (.int .i64 n2)).setCell ⟨w.heap.size, 2, none⟩ (.bool f2)) v n2 f2 := by
  have hf : Fr [w.heap.size] w2 (((w2.setCell ⟨w.heap.size, 0, none⟩ v).setCell ⟨w.heap.size, 1, none⟩ (.int .i64 n2)).setCell ⟨w.heap.size, 2, none⟩ (.bool f2)) := (((Fr.refl _ _).setCell (.inl (by simp)) _).setCell (.inl (by simp)) _).setCell (.inl (by simp)) _
  exact ⟨((h.box.set_ 0 _).set_ 1 _).set_ 2 _, h.res.fr hf (by simp), h.fr.trans' hf (fun x hx => .inr (by simp only [List.mem_singleton] at hx; omega))⟩
theorem FoRel.fin {w w2 : World} {v : Value} {n : Int} {f : Bool} (h : FoRel w w2 v n f) (v2 : Value) (n2 : Int) (f2 : Bool) :
    ∃ w3, ((w2.setCell ⟨w.heap.size + 1, 0, none⟩ v2).setCell ⟨w.heap.size + 1, 1, none⟩ (.int .i64 n2)).setCell ⟨w.heap.size + 1, 2, none⟩ (.bool f2) = w3 ∧
      w3.cell? ⟨w.heap.size + 1, 0, none⟩ = some v2 ∧ w3.cell? ⟨w.heap.size + 1, 1, none⟩ = some (.int .i64 n2) ∧ w3.cell? ⟨w.heap.size + 1, 2, none⟩ = some (.bool f2) ∧ Fr [] w w3 := by
  have hq := ((h.res.set_ 0 v2).set_ 1 (.int .i64 n2)).set_ 2 (.bool f2)
  exact ⟨_, rfl, hq.cell 0, hq.cell 1, hq.cell 2, ((h.fr.setCell (.inr (Nat.le_succ _)) _).setCell (.inr (Nat.le_succ _)) _).setCell (.inr (Nat.le_succ _)) _⟩
set_option maxRecDepth 100000 in
set_option maxHeartbeats 4000000 in
theorem foldI_any (fn : Nat) (cb : Array Value) (g : Int → Bool → Int → Int × Bool) (A : Option Addr) (n cap : Nat) (xs : List Int) (B : Option Addr) (nb cb' : Nat) (m : Int) (f : Bool) (w : World) (hx : IntRow w A xs) (hn : n = xs.length) (hn63 : n ≤ 4000)
    (eg : ∀ args w, (callFunc fn args).run Tryz.prog w = .ok (.enter fn args) w)
    (hg : ∀ (W : World) (x m : Int) (f : Bool), Fr [] w W → Calls Tryz.prog fn (#[.agg #[.slice B nb cb', .int .i64 m, .bool f], .int .i64 x] ++ cb) W fun e w' => e = .returned (.agg #[.slice B nb cb', .int .i64 (g m f x).1, .bool (g m f x).2]) ∧ Fr [] W w') :
    Calls Tryz.prog 96 #[.slice A n cap, .agg #[.slice B nb cb', .int .i64 m, .bool f], .func (.func fn) #[] cb] w fun e w' => e = .returned (.agg #[.slice B nb cb', .int .i64 (foldS g xs (m, f)).1, .bool (foldS g xs (m, f)).2]) ∧ Fr [] w w' := by
  have HG := Lib.hid hg
  have HX := Lib.hid hx
  have HN := Lib.hid hn
  have R0 := Lib.hid (FoRel.new w (.slice B nb cb') m f)
  clear hg hx hn
  go_enter Tryz.func96, Tryz.ntmps96
  go_wp2_with fail
  go_loopw [11] (fun i wr => ∃ (k : Nat) (n1 : Int) (f1 : Bool), k ≤ n ∧ i = .int .i64 k ∧ Hid (FoRel w wr (.slice B nb cb') n1 f1) ∧ Hid (foldS g (xs.take k) (m, f) = (n1, f1))) (fun i _ => n - (intOf i).toNat)
  case atStart => exact ⟨0, m, f, Nat.zero_le _, rfl, R0, Lib.hid rfl⟩
  case round =>
    clear R0
    obtain ⟨k, n1, f1, hk, rfl, R, HS⟩ := hrel
    have b0 : wr.cell? ⟨w.heap.size, 0, none⟩ = some (.slice B nb cb') := R.out.box.cell 0
    have b1 : wr.cell? ⟨w.heap.size, 1, none⟩ = some (.int .i64 n1) := R.out.box.cell 1
    have b2 : wr.cell? ⟨w.heap.size, 2, none⟩ = some (.bool f1) := R.out.box.cell 2
    by_cases hlt : k < n
    · obtain ⟨b, off, rfl, hb, hc⟩ := (HX.out.fr0 R.out.fr) (by rw [← HN.out]; omega)
      have hkx : k < xs.length := by rw [← HN.out]; exact hlt
      have c0 := hc k hkx
      have HS' := Lib.hid (foldS_take g xs (m, f) hkx HS.out)
      generalize xs[k] = x at c0 HS'
      clear hb hc
      have HC := Lib.hid (HG.out wr x n1 f1 R.out.fr)
      obtain ⟨n2, f2, hnf⟩ : ∃ n2 f2, g n1 f1 x = (n2, f2) := ⟨_, _, rfl⟩
      rw [hnf] at HC HS'
      dsimp only at HC
      clear hnf
      go_wp2_with (go_at_fn fn; refine HC.out.mono ?_; rintro e w2 ⟨rfl, hf2⟩; have R2 := Lib.hid (R.out.fr0 hf2); have z0 := R2.out.box.frozen 0; have z1 := R2.out.box.frozen 1; have z2 := R2.out.box.frozen 2; have y0 : w2.cell? ⟨w.heap.size, 0, none⟩ = some (.slice B nb cb') := R2.out.box.cell 0; have y1 : w2.cell? ⟨w.heap.size, 1, none⟩ = some (.int .i64 n1) := R2.out.box.cell 1; have y2 : w2.cell? ⟨w.heap.size, 2, none⟩ = some (.bool f1) := R2.out.box.cell 2; clear hf2)
      go_roundw
      case rel => exact ⟨k + 1, n2, f2, by omega, by go_num, Lib.hid (R2.out.put n2 f2), HS'⟩
      case measure => simp [intOf]; omega
    · obtain rfl : k = n := by omega
      have hres : foldS g xs (m, f) = (n1, f1) := by
        have h := HS.out
        rwa [HN.out, List.take_length] at h
      have HRS := Lib.hid hres
      have z0 := R.out.res.frozen 0
      have z1 := R.out.res.frozen 1
      have z2 := R.out.res.frozen 2
      have r0 : wr.cell? ⟨w.heap.size + 1, 0, none⟩ = some (.slice none 0 0) := R.out.res.cell 0
      have r1 : wr.cell? ⟨w.heap.size + 1, 1, none⟩ = some (.int .i64 0) := R.out.res.cell 1
      have r2 : wr.cell? ⟨w.heap.size + 1, 2, none⟩ = some (.bool false) := R.out.res.cell 2
      have FIN := Lib.hid (R.out.fin (.slice B nb cb') n1 f1)
      clear hres
      go_wp2_with fail
      obtain ⟨w3, e3, q0, q1, q2, f3⟩ := FIN.out
      rw [e3]
      refine bodyPost_ret (v := .agg #[.slice B nb cb', .int .i64 n1, .bool f1]) (by simp [results, Tryz.results96, go_sem, q0, q1, q2]) rfl ⟨by rw [HRS.out], f3⟩
set_option maxRecDepth 100000 in
set_option maxHeartbeats 4000000 in
theorem foldR_any (fn : Nat) (cb : Array Value) (g : Int → Bool → RowV → Int × Bool) (A : Option Addr) (n cap : Nat) (xs : List RowV) (B : Option Addr) (nb cb' : Nat) (m : Int) (f : Bool) (w : World) (hx : RowsAt w A xs) (hn : n = xs.length) (hn63 : n ≤ 4000)
    (eg : ∀ args w, (callFunc fn args).run Tryz.prog w = .ok (.enter fn args) w)
    (hg : ∀ (W : World) (x : RowV) (m : Int) (f : Bool), Fr [] w W → Calls Tryz.prog fn (#[.agg #[.slice B nb cb', .int .i64 m, .bool f], x.val] ++ cb) W fun e w' => e = .returned (.agg #[.slice B nb cb', .int .i64 (g m f x).1, .bool (g m f x).2]) ∧ Fr [] W w') :
    Calls Tryz.prog 94 #[.slice A n cap, .agg #[.slice B nb cb', .int .i64 m, .bool f], .func (.func fn) #[] cb] w fun e w' => e = .returned (.agg #[.slice B nb cb', .int .i64 (foldS g xs (m, f)).1, .bool (foldS g xs (m, f)).2]) ∧ Fr [] w w' := by
  have HG := Lib.hid hg
  have HX := Lib.hid hx
  have HN := Lib.hid hn
  have R0 := Lib.hid (FoRel.new w (.slice B nb cb') m f)
  clear hg hx hn
  go_enter Tryz.func94, Tryz.ntmps94
  go_wp2_with fail
  go_loopw [11] (fun i wr => ∃ (k : Nat) (n1 : Int) (f1 : Bool), k ≤ n ∧ i = .int .i64 k ∧ Hid (FoRel w wr (.slice B nb cb') n1 f1) ∧ Hid (foldS g (xs.take k) (m, f) = (n1, f1))) (fun i _ => n - (intOf i).toNat)
  case atStart => exact ⟨0, m, f, Nat.zero_le _, rfl, R0, Lib.hid rfl⟩
  case round =>
    clear R0
    obtain ⟨k, n1, f1, hk, rfl, R, HS⟩ := hrel
    have b0 : wr.cell? ⟨w.heap.size, 0, none⟩ = some (.slice B nb cb') := R.out.box.cell 0
    have b1 : wr.cell? ⟨w.heap.size, 1, none⟩ = some (.int .i64 n1) := R.out.box.cell 1
    have b2 : wr.cell? ⟨w.heap.size, 2, none⟩ = some (.bool f1) := R.out.box.cell 2
    by_cases hlt : k < n
    · obtain ⟨b, off, rfl, hb, hc⟩ := (HX.out.fr R.out.fr (by simp)) (by rw [← HN.out]; omega)
      have hkx : k < xs.length := by rw [← HN.out]; exact hlt
      have c0 := hc k hkx 0 (by decide)
      have c1 := hc k hkx 1 (by decide)
      have c2 := hc k hkx 2 (by decide)
      have c3 := hc k hkx 3 (by decide)
      have c4 := hc k hkx 4 (by decide)
      have HS' := Lib.hid (foldS_take g xs (m, f) hkx HS.out)
      generalize xs[k] = x at c0 c1 c2 c3 c4 HS'
      obtain ⟨rt, rk, rx, ry, rz⟩ := x
      have d0 : wr.cell? ⟨b, off + k * 5, none⟩ = some (.int .i64 rt) := c0
      have d1 : wr.cell? ⟨b, off + k * 5 + 1, none⟩ = some (.int .i64 rk) := c1
      have d2 : wr.cell? ⟨b, off + k * 5 + 2, none⟩ = some (.int .i64 rx) := c2
      have d3 : wr.cell? ⟨b, off + k * 5 + 3, none⟩ = some (.int .i64 ry) := c3
      have d4 : wr.cell? ⟨b, off + k * 5 + 4, none⟩ = some (.int .i64 rz) := c4
      clear c0 c1 c2 c3 c4
      clear hb hc
      have RA := Lib.hid (R.out.fr0 ((Fr.refl [] wr).alloc (.cells #[.int .i64 rt, .int .i64 rk, .int .i64 rx, .int .i64 ry, .int .i64 rz] 116)))
      have p0 : (wr.alloc (.cells #[.int .i64 rt, .int .i64 rk, .int .i64 rx, .int .i64 ry, .int .i64 rz] 116)).cell? ⟨w.heap.size, 0, none⟩ = some (.slice B nb cb') := RA.out.box.cell 0
      have p1 : (wr.alloc (.cells #[.int .i64 rt, .int .i64 rk, .int .i64 rx, .int .i64 ry, .int .i64 rz] 116)).cell? ⟨w.heap.size, 1, none⟩ = some (.int .i64 n1) := RA.out.box.cell 1
      have p2 : (wr.alloc (.cells #[.int .i64 rt, .int .i64 rk, .int .i64 rx, .int .i64 ry, .int .i64 rz] 116)).cell? ⟨w.heap.size, 2, none⟩ = some (.bool f1) := RA.out.box.cell 2
      have HC := Lib.hid (HG.out _ ⟨rt, rk, rx, ry, rz⟩ n1 f1 RA.out.fr)
      obtain ⟨n2, f2, hnf⟩ : ∃ n2 f2, g n1 f1 ⟨rt, rk, rx, ry, rz⟩ = (n2, f2) := ⟨_, _, rfl⟩
      rw [hnf] at HC HS'
      dsimp only at HC
      clear hnf
      go_wp2_with (go_at_fn fn; refine HC.out.mono ?_; rintro e w2 ⟨rfl, hf2⟩; have R2 := Lib.hid (RA.out.fr0 hf2); have z0 := R2.out.box.frozen 0; have z1 := R2.out.box.frozen 1; have z2 := R2.out.box.frozen 2; have y0 : w2.cell? ⟨w.heap.size, 0, none⟩ = some (.slice B nb cb') := R2.out.box.cell 0; have y1 : w2.cell? ⟨w.heap.size, 1, none⟩ = some (.int .i64 n1) := R2.out.box.cell 1; have y2 : w2.cell? ⟨w.heap.size, 2, none⟩ = some (.bool f1) := R2.out.box.cell 2; clear hf2)
      go_roundw
      case rel => exact ⟨k + 1, n2, f2, by omega, by go_num, Lib.hid (R2.out.put n2 f2), HS'⟩
      case measure => simp [intOf]; omega
    · obtain rfl : k = n := by omega
      have hres : foldS g xs (m, f) = (n1, f1) := by
        have h := HS.out
        rwa [HN.out, List.take_length] at h
      have HRS := Lib.hid hres
      have z0 := R.out.res.frozen 0
      have z1 := R.out.res.frozen 1
      have z2 := R.out.res.frozen 2
      have r0 : wr.cell? ⟨w.heap.size + 1, 0, none⟩ = some (.slice none 0 0) := R.out.res.cell 0
      have r1 : wr.cell? ⟨w.heap.size + 1, 1, none⟩ = some (.int .i64 0) := R.out.res.cell 1
      have r2 : wr.cell? ⟨w.heap.size + 1, 2, none⟩ = some (.bool false) := R.out.res.cell 2
      have FIN := Lib.hid (R.out.fin (.slice B nb cb') n1 f1)
      clear hres
      go_wp2_with fail
      obtain ⟨w3, e3, q0, q1, q2, f3⟩ := FIN.out
      rw [e3]
      refine bodyPost_ret (v := .agg #[.slice B nb cb', .int .i64 n1, .bool f1]) (by simp [results, Tryz.results94, go_sem, q0, q1, q2]) rfl ⟨by rw [HRS.out], f3⟩
end Go.Proofs.YtciaallekkdnhaaGreat
namespace Go.Proofs.YtciaallekkdnhaaGreat
open Go.RowKit

/-- A result in memory. -/
def RsAt (w : World) (g : Nat) (v : Value) (n : Int) (f : Bool) : Prop := Blk w g 71 #[v, .int .i64 n, .bool f]
section
variable {w w' : World} {g : Nat} {v : Value} {n : Int} {f : Bool}
theorem RsAt.c0 (h : RsAt w g v n f) : w.cell? ⟨g, 0, none⟩ = some v := Blk.cell h 0
theorem RsAt.c1 (h : RsAt w g v n f) : w.cell? ⟨g, 1, none⟩ = some (.int .i64 n) := Blk.cell h 1
theorem RsAt.c2 (h : RsAt w g v n f) : w.cell? ⟨g, 2, none⟩ = some (.bool f) := Blk.cell h 2
theorem RsAt.z (h : RsAt w g v n f) (k : Nat) : w.frozen? ⟨g, k, none⟩ = false := Blk.frozen h k
theorem RsAt.new (w : World) (v : Value) (n : Int) (f : Bool) : RsAt (w.alloc (.cells #[v, .int .i64 n, .bool f] 71)) w.heap.size v n f := Blk.new _ _ _
theorem RsAt.fr {S : List Nat} (h : RsAt w g v n f) (hf : Fr S w w') (hs : g ∉ S) : RsAt w' g v n f := Blk.fr h hf hs
theorem RsAt.fill (h : RsAt w g v n f) (v2 : Value) (n2 : Int) (f2 : Bool) :
    ∃ w3, ((w.setCell ⟨g, 0, none⟩ v2).setCell ⟨g, 1, none⟩ (.int .i64 n2)).setCell ⟨g, 2, none⟩ (.bool f2) = w3 ∧ RsAt w3 g v2 n2 f2 ∧ Fr [g] w w3 :=
  ⟨_, rfl, ((Blk.set_ h 0 v2).set_ 1 (.int .i64 n2)).set_ 2 (.bool f2), (((Fr.refl [g] w).setCell (.inl (by simp)) _).setCell (.inl (by simp)) _).setCell (.inl (by simp)) _⟩
end
set_option maxRecDepth 100000 in
/-- A sum's closure. -/
theorem plus_any (B : Option Addr) (nb cb : Nat) (m x : Int) (f : Bool) (w : World) :
    Calls Tryz.prog 98 #[.agg #[.slice B nb cb, .int .i64 m, .bool f], .int .i64 x] w fun e w' => e = .returned (.agg #[.slice B nb cb, .int .i64 (wrap64 (m + x)), .bool f]) ∧ Fr [] w w' := by
  have hb := (RsAt.new w (.slice B nb cb) m f).fr ((Fr.refl [] _).alloc (.cells #[.slice none 0 0, .int .i64 0, .bool false] 71)) (by simp)
  have hr := RsAt.new (w.alloc (.cells #[.slice B nb cb, .int .i64 m, .bool f] 71)) (.slice none 0 0) 0 false
  rw [World.size_alloc] at hr
  have F0 := Lib.hid (((Fr.refl [] w).alloc (.cells #[.slice B nb cb, .int .i64 m, .bool f] 71)).alloc (.cells #[.slice none 0 0, .int .i64 0, .bool false] 71))
  go_enter Tryz.func98, Tryz.ntmps98
  go_upto_region 1 with (fail)
  generalize (w.alloc (.cells #[.slice B nb cb, .int .i64 m, .bool f] 71)).alloc (.cells #[.slice none 0 0, .int .i64 0, .bool false] 71) = w2 at *
  have b0 := hb.c0
  have b1 := hb.c1
  have b2 := hb.c2
  have zb := hb.z 1
  have r0 := hr.c0
  have r1 := hr.c1
  have r2 := hr.c2
  have z0 := hr.z 0
  have z1 := hr.z 1
  have z2 := hr.z 2
  have HR := Lib.hid hr
  clear hb hr
  go_wp2_with fail
  have hf1 : Fr [w.heap.size] w2 (w2.setCell ⟨w.heap.size, 1, none⟩ (.int .i64 (wrap64 (m + x)))) := (Fr.refl _ _).setCell (.inl (by simp)) _
  obtain ⟨w3, e3, h3, f3⟩ := (HR.out.fr hf1 (by simp)).fill (.slice B nb cb) (wrap64 (m + x)) f
  have q0 := h3.c0
  have q1 := h3.c1
  have q2 := h3.c2
  rw [e3]
  exact bodyPost_ret (v := .agg #[.slice B nb cb, .int .i64 (wrap64 (m + x)), .bool f]) (by simp [results, Tryz.results98, go_sem, q0, q1, q2]) rfl ⟨rfl, (F0.out.trans' hf1 (by simp)).trans' f3 (by simp)⟩
set_option maxRecDepth 100000 in
/-- A count's closure. -/
theorem count_any (B : Option Addr) (nb cb : Nat) (m : Int) (r : RowV) (f : Bool) (w : World) :
    Calls Tryz.prog 95 #[.agg #[.slice B nb cb, .int .i64 m, .bool f], r.val] w fun e w' => e = .returned (.agg #[.slice B nb cb, .int .i64 (wrap64 (m + 1)), .bool f]) ∧ Fr [] w w' := by
  have hb := (RsAt.new w (.slice B nb cb) m f).fr (((Fr.refl [] _).alloc (.cells #[.int .i64 r.t, .int .i64 r.k, .int .i64 r.x, .int .i64 r.y, .int .i64 r.z] 116)).alloc (.cells #[.slice none 0 0, .int .i64 0, .bool false] 71)) (by simp)
  have hr := RsAt.new ((w.alloc (.cells #[.slice B nb cb, .int .i64 m, .bool f] 71)).alloc (.cells #[.int .i64 r.t, .int .i64 r.k, .int .i64 r.x, .int .i64 r.y, .int .i64 r.z] 116)) (.slice none 0 0) 0 false
  rw [World.size_alloc, World.size_alloc] at hr
  have F0 := Lib.hid ((((Fr.refl [] w).alloc (.cells #[.slice B nb cb, .int .i64 m, .bool f] 71)).alloc (.cells #[.int .i64 r.t, .int .i64 r.k, .int .i64 r.x, .int .i64 r.y, .int .i64 r.z] 116)).alloc (.cells #[.slice none 0 0, .int .i64 0, .bool false] 71))
  go_enter Tryz.func95, Tryz.ntmps95
  go_upto_region 1 with (fail)
  generalize ((w.alloc (.cells #[.slice B nb cb, .int .i64 m, .bool f] 71)).alloc (.cells #[.int .i64 r.t, .int .i64 r.k, .int .i64 r.x, .int .i64 r.y, .int .i64 r.z] 116)).alloc (.cells #[.slice none 0 0, .int .i64 0, .bool false] 71) = w2 at *
  have b0 := hb.c0
  have b1 := hb.c1
  have b2 := hb.c2
  have zb := hb.z 1
  have r0 := hr.c0
  have r1 := hr.c1
  have r2 := hr.c2
  have z0 := hr.z 0
  have z1 := hr.z 1
  have z2 := hr.z 2
  have HR := Lib.hid hr
  clear hb hr
  go_wp2_with fail
  have hf1 : Fr [w.heap.size] w2 (w2.setCell ⟨w.heap.size, 1, none⟩ (.int .i64 (wrap64 (m + 1)))) := (Fr.refl _ _).setCell (.inl (by simp)) _
  obtain ⟨w3, e3, h3, f3⟩ := (HR.out.fr hf1 (by simp; omega)).fill (.slice B nb cb) (wrap64 (m + 1)) f
  have q0 := h3.c0
  have q1 := h3.c1
  have q2 := h3.c2
  rw [e3]
  exact bodyPost_ret (v := .agg #[.slice B nb cb, .int .i64 (wrap64 (m + 1)), .bool f]) (by simp [results, Tryz.results95, go_sem, q0, q1, q2]) rfl ⟨rfl, (F0.out.trans' hf1 (by simp)).trans' f3 (by simp; omega)⟩
theorem less_any (a b : Int) (w : World) : Calls Tryz.prog 100 #[.int .i64 a, .int .i64 b] w fun e w' => e = .returned (.bool (decide (a < b))) ∧ w = w' := by
  go_enter Tryz.func100, Tryz.ntmps100
  go_wp2
  go_ret
  exact ⟨rfl, rfl⟩
theorem more_any (a b : Int) (w : World) : Calls Tryz.prog 101 #[.int .i64 a, .int .i64 b] w fun e w' => e = .returned (.bool (decide (b < a))) ∧ w = w' := by
  go_enter Tryz.func101, Tryz.ntmps101
  go_wp2
  go_ret
  exact ⟨rfl, rfl⟩
set_option maxRecDepth 100000 in
theorem extreme_any (lf : Nat) (w : World) : Calls Tryz.prog 99 #[.func (.func lf) #[] #[]] w fun e w' => e = .returned (.func (.func 128) #[] #[.pointer (some ⟨w.heap.size, 0, none⟩)]) ∧ Blk w' w.heap.size 156 #[.func (.func lf) #[] #[]] ∧ Fr [] w w' := by
  go_enter Tryz.func99, Tryz.ntmps99
  go_wp2
  go_ret
  exact ⟨rfl, Blk.new _ _ _, (Fr.refl _ _).alloc _⟩
set_option maxRecDepth 100000 in
/-- The least (by L) of what has come. -/
theorem extreme1_any (lf g : Nat) (L : Int → Int → Bool) (B : Option Addr) (nb cb : Nat) (m x : Int) (f : Bool) (w : World) (hg : Blk w g 156 #[.func (.func lf) #[] #[]]) (eg : ∀ args w, (callFunc lf args).run Tryz.prog w = .ok (.enter lf args) w)
    (hl : ∀ (a b : Int) (w : World), Calls Tryz.prog lf #[.int .i64 a, .int .i64 b] w fun e w' => e = .returned (.bool (L a b)) ∧ w = w') :
    Calls Tryz.prog 128 #[.agg #[.slice B nb cb, .int .i64 m, .bool f], .int .i64 x, .pointer (some ⟨g, 0, none⟩)] w fun e w' => e = .returned (.agg #[.slice B nb cb, .int .i64 (if f = false ∨ L x m = true then x else m), .bool true]) ∧ Fr [] w w' := by
  have HL := Lib.hid hl
  clear hl
  obtain ⟨y, HY⟩ : ∃ y, Hid ((if f = false ∨ L x m = true then x else m) = y) := ⟨_, Lib.hid rfl⟩
  rw [HY.out]
  have hb := (RsAt.new w (.slice B nb cb) m f).fr ((Fr.refl [] _).alloc (.cells #[.slice none 0 0, .int .i64 0, .bool false] 71)) (by simp)
  have hr := RsAt.new (w.alloc (.cells #[.slice B nb cb, .int .i64 m, .bool f] 71)) (.slice none 0 0) 0 false
  rw [World.size_alloc] at hr
  have F0 := Lib.hid (((Fr.refl [] w).alloc (.cells #[.slice B nb cb, .int .i64 m, .bool f] 71)).alloc (.cells #[.slice none 0 0, .int .i64 0, .bool false] 71))
  have hg2 := hg.fr F0.out (by simp)
  go_enter Tryz.func128, Tryz.ntmps128
  go_upto_region 1 with (fail)
  generalize (w.alloc (.cells #[.slice B nb cb, .int .i64 m, .bool f] 71)).alloc (.cells #[.slice none 0 0, .int .i64 0, .bool false] 71) = w2 at *
  have b0 := hb.c0
  have b1 := hb.c1
  have b2 := hb.c2
  have zb1 := hb.z 1
  have zb2 := hb.z 2
  have r0 := hr.c0
  have r1 := hr.c1
  have r2 := hr.c2
  have z0 := hr.z 0
  have z1 := hr.z 1
  have z2 := hr.z 2
  have gc : w2.cell? ⟨g, 0, none⟩ = some (.func (.func lf) #[] #[]) := hg2.cell 0
  have HR := Lib.hid hr
  clear hb hr hg hg2
  have hkeep : Hid (∀ _ : Int, ∃ w3, ((((w2.setCell ⟨w.heap.size, 2, none⟩ (.bool true)).setCell ⟨w.heap.size + 1, 0, none⟩ (.slice B nb cb)).setCell ⟨w.heap.size + 1, 1, none⟩ (.int .i64 m)).setCell ⟨w.heap.size + 1, 2, none⟩ (.bool true)) = w3 ∧ RsAt w3 (w.heap.size + 1) (.slice B nb cb) m true ∧ Fr [] w w3) := Lib.hid (fun _ => by
    have hf1 : Fr [w.heap.size] w2 (w2.setCell ⟨w.heap.size, 2, none⟩ (.bool true)) := (Fr.refl _ _).setCell (.inl (by simp)) _
    obtain ⟨w3, e3, h3, f3⟩ := (HR.out.fr hf1 (by simp)).fill (.slice B nb cb) m true
    exact ⟨w3, e3, h3, (F0.out.trans' hf1 (by simp)).trans' f3 (by simp)⟩)
  have htake : Hid (∀ _ : Int, ∃ w3, (((((w2.setCell ⟨w.heap.size, 1, none⟩ (.int .i64 x)).setCell ⟨w.heap.size, 2, none⟩ (.bool true)).setCell ⟨w.heap.size + 1, 0, none⟩ (.slice B nb cb)).setCell ⟨w.heap.size + 1, 1, none⟩ (.int .i64 x)).setCell ⟨w.heap.size + 1, 2, none⟩ (.bool true)) = w3 ∧ RsAt w3 (w.heap.size + 1) (.slice B nb cb) x true ∧ Fr [] w w3) := Lib.hid (fun _ => by
    have hf1 : Fr [w.heap.size] w2 ((w2.setCell ⟨w.heap.size, 1, none⟩ (.int .i64 x)).setCell ⟨w.heap.size, 2, none⟩ (.bool true)) := ((Fr.refl _ _).setCell (.inl (by simp)) _).setCell (.inl (by simp)) _
    obtain ⟨w3, e3, h3, f3⟩ := (HR.out.fr hf1 (by simp)).fill (.slice B nb cb) x true
    exact ⟨w3, e3, h3, (F0.out.trans' hf1 (by simp)).trans' f3 (by simp)⟩)
  cases hff : f
  · subst hff
    go_wp2_with fail
    obtain ⟨w3, e3, h3, f3⟩ := htake.out 0
    have q0 := h3.c0
    have q1 := h3.c1
    have q2 := h3.c2
    rw [e3]
    exact bodyPost_ret (v := .agg #[.slice B nb cb, .int .i64 x, .bool true]) (by simp [results, Tryz.results128, go_sem, q0, q1, q2]) rfl ⟨by rw [← HY.out]; simp, f3⟩
  · subst hff
    cases hlx : L x m
    · have HLX := Lib.hid hlx
      go_wp2_with (go_at_fn lf; refine (HL.out _ _ _).mono ?_; rintro e w' ⟨rfl, rfl⟩)
      obtain ⟨w3, e3, h3, f3⟩ := hkeep.out 0
      have q0 := h3.c0
      have q1 := h3.c1
      have q2 := h3.c2
      rw [e3]
      exact bodyPost_ret (v := .agg #[.slice B nb cb, .int .i64 m, .bool true]) (by simp [results, Tryz.results128, go_sem, q0, q1, q2]) rfl ⟨by rw [← HY.out]; simp [HLX.out], f3⟩
    · have HLX := Lib.hid hlx
      go_wp2_with (go_at_fn lf; refine (HL.out _ _ _).mono ?_; rintro e w' ⟨rfl, rfl⟩)
      obtain ⟨w3, e3, h3, f3⟩ := htake.out 0
      have q0 := h3.c0
      have q1 := h3.c1
      have q2 := h3.c2
      rw [e3]
      exact bodyPost_ret (v := .agg #[.slice B nb cb, .int .i64 x, .bool true]) (by simp [results, Tryz.results128, go_sem, q0, q1, q2]) rfl ⟨by rw [← HY.out]; simp [HLX.out], f3⟩
end Go.Proofs.YtciaallekkdnhaaGreat
namespace Go.Proofs.YtciaallekkdnhaaGreat
open Go.RowKit

/-- Between two rounds of measures. -/
structure MeRel (w wr : World) (q : Qry) (v : Value) (l : List Int) : Prop where
  box : QAt wr w.heap.size q
  own : OwnL 3 1 encI wr v l
  fr : Fr [] w wr
  new : ∀ g, v.ownBlock = some g → w.heap.size < g
theorem MeRel.fr0 {w wr w' : World} {q : Qry} {v : Value} {l : List Int} (h : MeRel w wr q v l) (hf : Fr [] wr w') : MeRel w w' q v l := ⟨h.box.fr hf (by simp), h.own.fr hf (by simp), h.fr.trans hf, h.new⟩
theorem MeRel.grown {w wr w' : World} {q : Qry} {v v' : Value} {l : List Int} {x : Int} (h : MeRel w wr q v l) (ho : OwnL 3 1 encI w' v' (l ++ [x])) (hg : wr.grownBy w' v.ownBlock) (hat : v'.ownBlock = v.ownBlock ∨ v'.ownBlock = some wr.heap.size) : MeRel w w' q v' (l ++ [x]) := by
  have hf : Fr v.ownBlock.toList wr w' := (Fr.refl _ _).grown hg (fun g hg => .inl (Option.mem_toList.2 hg))
  have hlt := Blk.lt h.box
  refine ⟨h.box.fr hf (fun hm => ?_), ho, h.fr.trans' hf (fun g hm => .inr (Nat.le_of_lt (h.new g (Option.mem_toList.1 hm)))), fun g hgg => ?_⟩
  · have := h.new _ (Option.mem_toList.1 hm)
    omega
  · rcases hat with e | e
    · exact h.new g (e ▸ hgg)
    · rw [hgg] at e
      injection e with e
      omega
set_option maxRecDepth 100000 in
set_option maxHeartbeats 4000000 in
theorem measures_any (q : Qry) (A : Option Addr) (n cap : Nat) (rows : List RowV) (w : World) (hx : RowsAt w A rows) (hn : n = rows.length) (hl : n ≤ 4000) :
    Calls Tryz.prog 97 #[q.val, .slice A n cap] w fun e w' => ∃ A2 c2, e = .returned (.slice A2 n c2) ∧ OwnL 3 1 encI w' (.slice A2 n c2) (Em.meas q rows) ∧ Fr [] w w' ∧ ∀ g, (Value.slice A2 n c2).ownBlock = some g → w.heap.size < g := by
  have HX := Lib.hid hx
  have HN := Lib.hid hn
  clear hx hn
  have HB := Lib.hid (QAt.new w q)
  have F0 := Lib.hid ((Fr.refl [] w).alloc (.cells #[.int .i64 q.kind, .int .i64 q.table, .int .i64 q.column, .int .i64 q.low, .int .i64 q.high, .int .i64 q.by_, .int .i64 q.other] 35))
  have hs0 : (w.alloc (.cells #[.int .i64 q.kind, .int .i64 q.table, .int .i64 q.column, .int .i64 q.low, .int .i64 q.high, .int .i64 q.by_, .int .i64 q.other] 35)).heap.size = w.heap.size + 1 := World.size_alloc _ _
  obtain ⟨i0, z, TI⟩ := etI
  unfold Qry.val
  go_enter Tryz.func97, Tryz.ntmps97
  go_upto_region 1 with (fail)
  have HS0 := Lib.hid hs0
  clear hs0
  generalize w.alloc (.cells #[.int .i64 q.kind, .int .i64 q.table, .int .i64 q.column, .int .i64 q.low, .int .i64 q.high, .int .i64 q.by_, .int .i64 q.other] 35) = w1 at *
  go_wp2_with (at_make; refine wpList_make_own _ rfl _ _ _ rfl 0 _ i0 z 1 TI.ht TI.hi TI.hz TI.hs _ _ _ n rfl rfl rfl (by rw [TI.hb]; omega) (Nat.le_trans hl (by decide)) (Nat.zero_le _) ?_; intro w2 hown2 hg2; have R0 := Lib.hid (show MeRel w w2 q (.slice (some ⟨w1.heap.size, 0, none⟩) 0 n) [] from ⟨HB.out.fr ((Fr.refl [] _).grown hg2 (fun g h => by cases h)) (by simp), hown2, F0.out.trans ((Fr.refl [] _).grown hg2 (fun g h => by cases h)), fun g hg => by simp only [Value.ownBlock, Option.some.injEq] at hg; rw [HS0.out] at hg; omega⟩); clear hown2 hg2)
  go_loopw [5, 13] (fun v i wr => ∃ (k : Nat) (A2 : Option Addr) (n2 c2 : Nat), k ≤ n ∧ i = .int .i64 k ∧ v = .slice A2 n2 c2 ∧ Hid (MeRel w wr q (.slice A2 n2 c2) (Em.meas q (rows.take k)))) (fun _ i _ => n - (intOf i).toNat)
  case atStart => exact ⟨0, _, _, _, Nat.zero_le _, rfl, rfl, R0⟩
  case round =>
    clear R0
    obtain ⟨k, A2, n2, c2, hk, rfl, rfl, R⟩ := hrel
    by_cases hlt : k < n
    · obtain ⟨b, off, rfl, hb, hc⟩ := (HX.out.fr R.out.fr (by simp)) (by rw [← HN.out]; omega)
      have hkx : k < rows.length := by rw [← HN.out]; exact hlt
      have c0 := hc k hkx 0 (by decide)
      have c1 := hc k hkx 1 (by decide)
      have c2' := hc k hkx 2 (by decide)
      have c3 := hc k hkx 3 (by decide)
      have c4 := hc k hkx 4 (by decide)
      have HT : Hid (Em.meas q (rows.take (k + 1)) = Em.meas q (rows.take k) ++ [rows[k].value q.by_]) := Lib.hid (by unfold Em.meas; rw [List.take_succ_eq_append_getElem hkx, List.map_append, List.map_singleton])
      have hlen : Hid ((Em.meas q (rows.take k)).length = k) := Lib.hid (by unfold Em.meas; rw [List.length_map, List.length_take]; omega)
      generalize rows[k] = x at c0 c1 c2' c3 c4 HT
      obtain ⟨rt, rk, rx, ry, rz⟩ := x
      have d0 : wr.cell? ⟨b, off + k * 5, none⟩ = some (.int .i64 rt) := c0
      have d1 : wr.cell? ⟨b, off + k * 5 + 1, none⟩ = some (.int .i64 rk) := c1
      have d2 : wr.cell? ⟨b, off + k * 5 + 2, none⟩ = some (.int .i64 rx) := c2'
      have d3 : wr.cell? ⟨b, off + k * 5 + 3, none⟩ = some (.int .i64 ry) := c3
      have d4 : wr.cell? ⟨b, off + k * 5 + 4, none⟩ = some (.int .i64 rz) := c4
      clear c0 c1 c2' c3 c4 hb hc
      have RA := Lib.hid (R.out.fr0 ((Fr.refl [] wr).alloc (.cells #[.int .i64 rt, .int .i64 rk, .int .i64 rx, .int .i64 ry, .int .i64 rz] 116)))
      have q5 : (wr.alloc (.cells #[.int .i64 rt, .int .i64 rk, .int .i64 rx, .int .i64 ry, .int .i64 rz] 116)).cell? ⟨w.heap.size, 5, none⟩ = some (.int .i64 q.by_) := RA.out.box.c5
      obtain ⟨y, HY⟩ : ∃ y, Hid (y = RowV.value ⟨rt, rk, rx, ry, rz⟩ q.by_) := ⟨_, Lib.hid rfl⟩
      have HV := Lib.hid (value5 rt rk rx ry rz q.by_ (wr.alloc (.cells #[.int .i64 rt, .int .i64 rk, .int .i64 rx, .int .i64 ry, .int .i64 rz] 116)))
      rw [← HY.out] at HT HV
      go_wp2_with (first | (go_at_call 66; refine HV.out.mono ?_; rintro e w2 ⟨rfl, hw2⟩; have F2 : Fr [] (wr.alloc (.cells #[.int .i64 rt, .int .i64 rk, .int .i64 rx, .int .i64 ry, .int .i64 rz] 116)) w2 := (by rw [hw2]; exact (Fr.refl _ _).alloc _); have R2 := Lib.hid ((RA.out.fr0 F2).fr0 ((Fr.refl [] w2).alloc (.cells #[.int .i64 y] 3))); clear hw2 F2) | (at_builtin; refine wpList_appendL rfl _ _ rfl TI encI_len encI_one rfl R2.out.own (w2.heap.size + 1) _ _ _ [y] rfl rfl (reads_new (enc := encI) w2 3 y rfl) (by rw [hlen.out]; simp only [maxLen, List.length_singleton]; omega) (by rw [hlen.out]; simp only [List.length_singleton]; omega) ?_; intro v5 w5 hown5 hg5 hat5; have R5 := Lib.hid (R2.out.grown hown5 hg5 hat5); rw [← HT.out] at R5; obtain ⟨A5, n5, c5, hv5⟩ : ∃ A n c, v5 = .slice A n c := (match hown5.val with | ⟨_, _, hv⟩ => ⟨_, _, _, hv⟩); subst hv5; clear hown5 hg5 hat5))
      go_roundw
      case rel => exact ⟨k + 1, A5, n5, c5, by omega, by go_num, rfl, R5⟩
      case measure => simp [intOf]; omega
    · obtain rfl : k = n := by omega
      have hl2 : n2 = (Em.meas q (rows.take k)).length := (IntRow.of_own R.out.own).2
      have hn2 : n2 = k := by rw [hl2]; unfold Em.meas; rw [List.length_map, List.length_take, ← HN.out]; omega
      subst hn2
      have ho := R.out.own
      rw [HN.out, List.take_length] at ho
      rw [← HN.out] at ho
      have HO := Lib.hid ho
      clear ho hl2
      go_wp2_with fail
      go_ret
      exact ⟨A2, c2, rfl, HO.out, R.out.fr, R.out.new⟩
end Go.Proofs.YtciaallekkdnhaaGreat
namespace Go.Proofs.YtciaallekkdnhaaGreat
open Go.RowKit

theorem reads_of_rows {w : World} {A : Option Addr} {l : List RowV} (h : RowsAt w A l) : Reads w w.heap.size 5 A l.length (l.flatMap RowV.cells) := by
  refine ⟨flat_len RowV.cells_len l, fun hl => ?_⟩
  obtain ⟨b, off, e, hb, hc⟩ := h hl
  refine ⟨_, e, hb, fun q u hu => ?_⟩
  have hq : q < l.length * 5 := by
    rw [← flat_len RowV.cells_len l]
    exact (List.getElem?_eq_some_iff.1 hu).1
  have h1 := hc (q / 5) (by omega) (q % 5) (by omega)
  have h2 := flat_get RowV.cells_len l (q / 5) (by omega) (q % 5) (by omega)
  rw [show q / 5 * 5 + q % 5 = q by omega] at h2
  have hadd : (⟨b, off, none⟩ : Addr).add q = ⟨b, off + q, none⟩ := by unfold Addr.add; split <;> simp_all
  rw [hadd, show off + q = off + q / 5 * 5 + q % 5 by omega, h1, ← h2, hu]
set_option maxRecDepth 100000 in
theorem rclone_any (A : Option Addr) (n cap : Nat) (rows : List RowV) (w : World) (hx : RowsAt w A rows) (hn : n = rows.length) (hl : n ≤ 4000) :
    Calls Tryz.prog 55 #[.slice A n cap] w fun e w' => ∃ v, e = .returned v ∧ RowsOwn w' v rows ∧ Fr [] w w' ∧ ∀ g, v.ownBlock = some g → w.heap.size ≤ g := by
  obtain ⟨i0, TR⟩ := etRow
  have hu := TR.ht
  have hnil := Lib.run_eql_slice_nil (P := Tryz.prog)
  cases A with
  | none =>
    have h0 : rows = [] := by
      rcases Nat.eq_zero_or_pos rows.length with h | h
      · exact List.eq_nil_of_length_eq_zero h
      · obtain ⟨b, off, e, _⟩ := hx h
        cases e
    subst h0
    go_enter Tryz.func55, Tryz.ntmps55
    go_wp2
    go_ret
    exact ⟨_, rfl, OwnL.nil, Fr.refl _ _, by simp [Value.ownBlock]⟩
  | some ad =>
    have hE : OwnL 116 5 RowV.cells (w.alloc (.cells #[] 116)) (.slice (some ⟨w.heap.size, 0, none⟩) 0 0) ([] : List RowV) := ⟨rfl, .inr ⟨w.heap.size, 0, #[], rfl, Nat.zero_le _, Blk.new w 116 #[], Nat.le_refl _, by simp [maxLen], rfl, rfl⟩⟩
    have HE := Lib.hid hE
    have hR := reads_of_rows (hx.fr ((Fr.refl [] w).alloc (.cells #[] 116)) (by simp))
    rw [← hn] at hR
    have HR := Lib.hid hR
    have HL : Hid (rows.length ≤ 4000) := Lib.hid (by omega)
    have HN := Lib.hid hn
    clear hE hR hx hn
    go_enter Tryz.func55, Tryz.ntmps55
    go_wp2_with (at_builtin; refine wpList_appendL rfl _ _ rfl TR RowV.cells_len RowV.cells_one rfl HE.out _ _ _ _ rows rfl HN.out HR.out (by have := HL.out; simp only [maxLen, List.length_nil]; omega) (by have := HL.out; simp only [List.length_nil]; omega) ?_; intro v5 w1 hown5 hg5 hat5; have HG5 := Lib.hid hg5; have HO5 := Lib.hid hown5; have HA5 := Lib.hid hat5; clear hg5 hown5 hat5)
    go_ret
    have hg : (w.alloc (.cells #[] 116)).grownBy w1 (some w.heap.size) := HG5.out
    have ha : v5.ownBlock = some w.heap.size ∨ v5.ownBlock = some (w.alloc (.cells #[] 116)).heap.size := HA5.out
    refine ⟨v5, rfl, by simpa using HO5.out, ((Fr.refl [] w).alloc _).grown hg (fun g h => .inr (by injection h with h; omega)), fun g h => ?_⟩
    rcases ha with e | e
    · rw [h] at e
      injection e with e
      omega
    · rw [h] at e
      injection e with e
      rw [World.size_alloc] at e
      omega
end Go.Proofs.YtciaallekkdnhaaGreat
namespace Go.Proofs.YtciaallekkdnhaaGreat
open Go.RowKit

theorem tyIRw : MT Tryz.prog 191 3 116 (Value.int .i64) (Lit.int .i64) RowV.val okI (.agg #[.int .i64 0, .int .i64 0, .int .i64 0, .int .i64 0, .int .i64 0]) where
  keyed := Maps.int_keyed Tryz.underlying3
  ht := Tryz.underlying191
  key := fun x hx => Maps.keyOf_int_mk Tryz.underlying3 hx
  inj := fun x y h => by injection h
  zero := fun w => by kernel_rfl
namespace Em
def pstep (t : Int) (M : List (Int × RowV)) (x : RowV) : List (Int × RowV) := if x.t = t ∧ mget M x.k = none then mput M x.k x else M
def pmap (t : Int) (l : List RowV) : List (Int × RowV) := l.foldl (pstep t) []
theorem pstep_get (t : Int) (M : List (Int × RowV)) (x : RowV) (k : Int) : mget (pstep t M x) k = (mget M k).or (if (decide (x.t = t) && decide (x.k = k)) = true then some x else none) := by
  unfold pstep
  by_cases h1 : x.t = t
  · cases h2 : mget M x.k with
    | none =>
      rw [if_pos ⟨h1, rfl⟩]
      by_cases h3 : x.k = k
      · subst h3
        rw [mget_put_same, h2]
        simp [h1]
      · rw [mget_put_other (fun e => h3 e.symm)]
        simp [h3]
    | some r =>
      rw [if_neg (by simp)]
      by_cases h3 : x.k = k
      · subst h3
        rw [h2]
        rfl
      · simp [h3]
  · rw [if_neg (fun h => h1 h.1)]
    simp [h1]
theorem pmap_from (t k : Int) : ∀ (l : List RowV) (M : List (Int × RowV)), mget (l.foldl (pstep t) M) k = (mget M k).or (partner l t k)
  | [], M => by simp [partner]
  | x :: l, M => by
    rw [List.foldl_cons, pmap_from t k l, pstep_get]
    unfold partner
    rw [List.find?_cons]
    cases (decide (x.t = t) && decide (x.k = k)) <;> cases mget M k <;> simp
theorem pmap_get (t k : Int) (l : List RowV) : mget (pmap t l) k = partner l t k := by
  unfold pmap
  rw [pmap_from]
  simp [mget]
theorem pstep_len (t : Int) (M : List (Int × RowV)) (x : RowV) : (pstep t M x).length ≤ M.length + 1 := by
  unfold pstep
  split
  · show (mput M x.k x).length ≤ _
    unfold mput mdel
    rw [List.length_cons]
    exact Nat.succ_le_succ (List.length_filter_le _ _)
  · omega
theorem pmap_len (t : Int) (l : List RowV) : (pmap t l).length ≤ l.length := by
  have key : ∀ (l : List RowV) (M : List (Int × RowV)), (l.foldl (pstep t) M).length ≤ M.length + l.length := by
    intro l
    induction l with
    | nil => intro M; simp
    | cons x l ih =>
      intro M
      have h1 := ih (pstep t M x)
      have h2 := pstep_len t M x
      rw [List.foldl_cons, List.length_cons]
      omega
  have := key l []
  simpa [pmap] using this
theorem pmap_take (t : Int) (l : List RowV) {k : Nat} (hk : k < l.length) : pmap t (l.take (k + 1)) = pstep t (pmap t (l.take k)) l[k] := by
  unfold pmap
  rw [List.take_succ_eq_append_getElem hk, List.foldl_append]
  rfl
end Em
end Go.Proofs.YtciaallekkdnhaaGreat

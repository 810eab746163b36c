/-
  PLAIN LAWS of rows that are picked: there is one list of them; a row inserted in its place.
-/
import Derived.Test.YthiaaminkfkjpaaGreatGai
import Derived.Test.YthiaaminkfkjpaaGreatGao
import Derived.Test.YthiaaminkfkjpaaGreatGbo
import Derived.Deep.QuietTactic
import Derived.Test.YthiaaminkfkjpaaGreatGaf
namespace Go.Proofs.YthiaaminkfkjpaaGreat
open Go.RowKit

theorem run_isAgg_v3' (w : World) : (isAgg 63).run Tryz.prog w = .ok true w := by kernel_rfl
theorem run_sizeOf_v3' (w : World) : (sizeOf 63).run Tryz.prog w = .ok 3 w := by kernel_rfl
theorem eqIn_row (d : Nat) (a b : RowV) (w : World) : (Op.equalIn (d + 3) 67 a.val b.val).run Tryz.prog w = .ok (decide (a = b)) w := by
  unfold RowV.val
  rw [run_equalIn_agg w (d + 2) 67 _ _ (by kernel_rfl) (by kernel_rfl)]
  simp only [Program.fieldsOf, Tryz.underlying67]
  obtain ⟨t, k, x, y, z⟩ := a
  obtain ⟨t', k', x', y', z'⟩ := b
  have hI : ∀ (a b : Int) (w : World), (Op.equalIn (d + 2) 3 (.int .i64 a) (.int .i64 b)).run Tryz.prog w = .ok (a == b) w := fun a b w => run_equalIn_int (P := Tryz.prog) w (d + 1) 3 .i64 .i64 a b Tryz.underlying3
  have hV := fun x y z a b c w => eqIn_v3 d x y z a b c w
  simp [Op.eqFields, Sem.run_bind, part, hI, hV]
  repeat' split
  all_goals simp_all
theorem neq_row (a b : RowV) (w : World) : (binOp .neq 67 a.val b.val).run Tryz.prog w = .ok (.bool (!decide (a = b))) w := by
  rw [run_neq_struct, show (10000 : Nat) = 9997 + 3 from rfl, eqIn_row]
  rfl
theorem eql_row (a b : RowV) (w : World) : (binOp .eql 67 a.val b.val).run Tryz.prog w = .ok (.bool (decide (a = b))) w := by
  rw [run_eql_struct, show (10000 : Nat) = 9997 + 3 from rfl, eqIn_row]
  rfl
theorem eqGuard_row (op : BinOp) (x y : Operand) (xs ys : Array Value) (w : World) : (eqGuard op 67 x y (.agg xs) (.agg ys)).run Tryz.prog w = .ok () w :=
  run_eqGuard_agg w op _ x y xs ys (by kernel_rfl)

/-- Rows at an address. -/
abbrev RowsAt (w : World) (A : Option Addr) (L : List RowV) : Prop := AtL RowV.cells 5 w A L
end Go.Proofs.YthiaaminkfkjpaaGreat
namespace Go.Proofs.YthiaaminkfkjpaaGreat
open Go.RowKit Go.Sort

def inTab (t : Int) (r : RowV) : Bool := decide (r.t = t)
def inRng (t c lo hi : Int) (r : RowV) : Bool := decide (r.t = t) && (decide (lo ≤ r.value c) && decide (r.value c ≤ hi))

theorem rowsC_any (r : RowV) (t : Int) (gt : Nat) (w : World) (h0 : w.cell? ⟨gt, 0, none⟩ = some (.int .i64 t)) :
    Calls Tryz.prog 58 #[r.val, .pointer (some ⟨gt, 0, none⟩)] w fun e w' => e = .returned (.bool (inTab t r)) ∧ Fr [] w w' := by
  obtain ⟨rt, k, x, y, z⟩ := r
  have hl := World.block_lt_of_cell? w _ h0
  have h1 : ∀ o, (w.alloc o).cell? ⟨gt, 0, none⟩ = some (.int .i64 t) := fun o => by rw [World.cell?_alloc_lt _ _ _ hl]; exact h0
  unfold RowV.val inTab
  dsimp only
  by_cases e : rt = t
  · have e' : (rt == t) = true := by simpa using e
    have E := Lib.hid e
    clear e
    go_enter Tryz.func58, Tryz.ntmps58
    go_wp2
    go_ret
    exact ⟨by rw [decide_eq_true E.out]; rfl, (Fr.refl _ _).alloc _⟩
  · have e' : (rt == t) = false := by simpa using e
    have E := Lib.hid e
    clear e
    go_enter Tryz.func58, Tryz.ntmps58
    go_wp2
    go_ret
    exact ⟨by rw [decide_eq_false E.out]; rfl, (Fr.refl _ _).alloc _⟩

theorem rangeC_any (r : RowV) (t c lo hi : Int) (gc gt gl gh : Nat) (w : World) (h0 : w.cell? ⟨gc, 0, none⟩ = some (.int .i64 c)) (h1 : w.cell? ⟨gt, 0, none⟩ = some (.int .i64 t)) (h2 : w.cell? ⟨gl, 0, none⟩ = some (.int .i64 lo)) (h3 : w.cell? ⟨gh, 0, none⟩ = some (.int .i64 hi)) :
    Calls Tryz.prog 56 #[r.val, .pointer (some ⟨gc, 0, none⟩), .pointer (some ⟨gt, 0, none⟩), .pointer (some ⟨gl, 0, none⟩), .pointer (some ⟨gh, 0, none⟩)] w fun e w' => e = .returned (.bool (inRng t c lo hi r)) ∧ Fr [] w w' := by
  obtain ⟨rt, k, x, y, z⟩ := r
  have l0 := World.block_lt_of_cell? w _ h0
  have l1 := World.block_lt_of_cell? w _ h1
  have l2 := World.block_lt_of_cell? w _ h2
  have l3 := World.block_lt_of_cell? w _ h3
  dsimp only at l0 l1 l2 l3
  have hb := Blk.new w 67 #[.int .i64 rt, .int .i64 k, .int .i64 x, .int .i64 y, .int .i64 z]
  have HV := Lib.hid (value5 rt k x y z c)
  have HE : Hid (inRng t c lo hi ⟨rt, k, x, y, z⟩ = (decide (rt = t) && (decide (lo ≤ RowV.value ⟨rt, k, x, y, z⟩ c) && decide (RowV.value ⟨rt, k, x, y, z⟩ c ≤ hi)))) := Lib.hid rfl
  generalize RowV.value ⟨rt, k, x, y, z⟩ c = v at *
  unfold RowV.val
  dsimp only
  have p0 : ∀ o, (w.alloc o).cell? ⟨gc, 0, none⟩ = some (.int .i64 c) := fun o => by rw [World.cell?_alloc_lt _ _ _ (by simpa using l0)]; exact h0
  have q1 : ∀ o o', ((w.alloc o).alloc o').cell? ⟨gt, 0, none⟩ = some (.int .i64 t) := fun o o' => by rw [World.cell?_alloc_lt _ _ _ (by simp; omega), World.cell?_alloc_lt _ _ _ (by simpa using l1)]; exact h1
  have q2 : ∀ o o', ((w.alloc o).alloc o').cell? ⟨gl, 0, none⟩ = some (.int .i64 lo) := fun o o' => by rw [World.cell?_alloc_lt _ _ _ (by simp; omega), World.cell?_alloc_lt _ _ _ (by simpa using l2)]; exact h2
  have q3 : ∀ o o', ((w.alloc o).alloc o').cell? ⟨gh, 0, none⟩ = some (.int .i64 hi) := fun o o' => by rw [World.cell?_alloc_lt _ _ _ (by simp; omega), World.cell?_alloc_lt _ _ _ (by simpa using l3)]; exact h3
  have F2 : ∀ o o', Fr [] w ((w.alloc o).alloc o') := fun o o' => ((Fr.refl _ _).alloc _).alloc _
  by_cases e : rt = t
  · have e' : (rt == t) = true := by simpa using e
    have HE2 : Hid (inRng t c lo hi ⟨rt, k, x, y, z⟩ = (decide (lo ≤ v) && decide (v ≤ hi))) := Lib.hid (by rw [HE.out]; simp [e])
    clear e HE
    by_cases e1 : lo ≤ v
    · by_cases e2 : v ≤ hi
      · have HE3 : Hid (inRng t c lo hi ⟨rt, k, x, y, z⟩ = true) := Lib.hid (by rw [HE2.out]; simp [e1, e2])
        go_enter Tryz.func56, Tryz.ntmps56
        go_wp2_with (go_at_call 57; refine (HV.out _).mono ?_; rintro e w' ⟨rfl, rfl⟩)
        go_ret
        exact ⟨by rw [HE3.out]; rfl, F2 _ _⟩
      · have HE3 : Hid (inRng t c lo hi ⟨rt, k, x, y, z⟩ = false) := Lib.hid (by rw [HE2.out]; simp [e2])
        go_enter Tryz.func56, Tryz.ntmps56
        go_wp2_with (go_at_call 57; refine (HV.out _).mono ?_; rintro e w' ⟨rfl, rfl⟩)
        go_ret
        refine ⟨?_, F2 _ _⟩
        rw [HE3.out]
        refine congrArg (fun b => Ending.returned (.bool b)) ?_
        (first | rfl | (simp; omega))
    · have HE3 : Hid (inRng t c lo hi ⟨rt, k, x, y, z⟩ = false) := Lib.hid (by rw [HE2.out]; simp [e1])
      go_enter Tryz.func56, Tryz.ntmps56
      go_wp2_with (go_at_call 57; refine (HV.out _).mono ?_; rintro e w' ⟨rfl, rfl⟩)
      go_ret
      exact ⟨by rw [HE3.out]; rfl, F2 _ _⟩
  · have e' : (rt == t) = false := by simpa using e
    have HE3 : Hid (inRng t c lo hi ⟨rt, k, x, y, z⟩ = false) := Lib.hid (by rw [HE.out]; simp [e])
    clear e
    go_enter Tryz.func56, Tryz.ntmps56
    go_wp2_with (go_at_call 57; refine (HV.out _).mono ?_; rintro e w' ⟨rfl, rfl⟩)
    go_ret
    exact ⟨by rw [HE3.out]; rfl, F2 _ _⟩

/-- What Rows and Range hand out. -/
structure Picked (s : Sm.Sta) (c : Int) (p : RowV → Bool) (R : List RowV) : Prop where
  perm : R.Perm ((s.M.map (·.2)).filter p)
  srt : R.Pairwise (fun x y => ¬ ahead2 c y x)

theorem srows_any (b m : Nat) (s : Sm.Sta) (t : Int) (w : World) (h : StaAt w b m s) :
    Calls Tryz.prog 30 #[.pointer (some ⟨b, 0, none⟩), .int .i64 t] w fun e w' => ∃ v R, e = .returned v ∧ RowsOwn w' v R ∧ Picked s 0 (inTab t) R ∧ Fr [] w w' ∧ ∀ g, v.ownBlock = some g → w.heap.size ≤ g := by
  have F0 : Fr [] w (w.alloc (.cells #[.int .i64 t] 3)) := (Fr.refl _ _).alloc _
  have hb := Blk.new w 3 #[.int .i64 t]
  have HC := Lib.hid (chosen_any b m s 0 58 #[.pointer (some ⟨w.heap.size, 0, none⟩)] (inTab t) (w.alloc (.cells #[.int .i64 t] 3)) (h.fr0 F0) (enters_of Tryz.func58 (by kernel_rfl) rfl)
    (fun W r hf => rowsC_any r t w.heap.size W ((hb.fr hf (by simp)).cell 0)))
  clear h
  go_enter Tryz.func30, Tryz.ntmps30
  go_wp2_with (go_at_call 55; refine HC.out.mono ?_; rintro e w' ⟨v, R, rfl, hr, hp, hs, hf, ho⟩; have HR := Lib.hid hr; have HPS := Lib.hid (And.intro hp hs); have HF := Lib.hid hf; have HO := Lib.hid ho; clear hr hp hs hf ho)
  go_ret
  exact ⟨v, R, rfl, HR.out, ⟨HPS.out.1, HPS.out.2⟩, F0.trans HF.out, fun g hg => by have := HO.out g hg; simp at this; omega⟩

theorem srange_bad (s : Value) (t c lo hi : Int) (w : World) (h : c < 0 ∨ 4 ≤ c) :
    Calls Tryz.prog 29 #[s, .int .i64 t, .int .i64 c, .int .i64 lo, .int .i64 hi] w fun e w' => e = .returned (.slice none 0 0) ∧ Fr [] w w' := by
  rcases h with h | h
  all_goals
    go_enter Tryz.func29, Tryz.ntmps29
    go_wp2
    go_ret
    exact ⟨rfl, ((((Fr.refl _ _).alloc _).alloc _).alloc _).alloc _⟩
set_option maxHeartbeats 2000000 in
theorem srange_any (b m : Nat) (s : Sm.Sta) (t c lo hi : Int) (w : World) (h : StaAt w b m s) (h0 : 0 ≤ c) (h4 : c < 4) :
    Calls Tryz.prog 29 #[.pointer (some ⟨b, 0, none⟩), .int .i64 t, .int .i64 c, .int .i64 lo, .int .i64 hi] w fun e w' => ∃ v R, e = .returned v ∧ RowsOwn w' v R ∧ Picked s c (inRng t c lo hi) R ∧ Fr [] w w' ∧ ∀ g, v.ownBlock = some g → w.heap.size ≤ g := by
  have hb0 := (((Blk.new w 3 #[.int .i64 t]).alloc (.cells #[.int .i64 c] 3)).alloc (.cells #[.int .i64 lo] 3)).alloc (.cells #[.int .i64 hi] 3)
  have hb1 := ((Blk.new (w.alloc (.cells #[.int .i64 t] 3)) 3 #[.int .i64 c]).alloc (.cells #[.int .i64 lo] 3)).alloc (.cells #[.int .i64 hi] 3)
  have hb2 := (Blk.new ((w.alloc (.cells #[.int .i64 t] 3)).alloc (.cells #[.int .i64 c] 3)) 3 #[.int .i64 lo]).alloc (.cells #[.int .i64 hi] 3)
  have hb3 := Blk.new (((w.alloc (.cells #[.int .i64 t] 3)).alloc (.cells #[.int .i64 c] 3)).alloc (.cells #[.int .i64 lo] 3)) 3 #[.int .i64 hi]
  have F0 : Fr [] w ((((w.alloc (.cells #[.int .i64 t] 3)).alloc (.cells #[.int .i64 c] 3)).alloc (.cells #[.int .i64 lo] 3)).alloc (.cells #[.int .i64 hi] 3)) := ((((Fr.refl _ _).alloc _).alloc _).alloc _).alloc _
  simp only [World.size_alloc] at hb1 hb2 hb3
  have HC := Lib.hid (chosen_any b m s c 56 #[.pointer (some ⟨w.heap.size + 1, 0, none⟩), .pointer (some ⟨w.heap.size, 0, none⟩), .pointer (some ⟨w.heap.size + 1 + 1, 0, none⟩), .pointer (some ⟨w.heap.size + 1 + 1 + 1, 0, none⟩)] (inRng t c lo hi) _ (h.fr0 F0) (enters_of Tryz.func56 (by kernel_rfl) rfl)
    (fun W r hf => rangeC_any r t c lo hi (w.heap.size + 1) w.heap.size (w.heap.size + 1 + 1) (w.heap.size + 1 + 1 + 1) W ((hb1.fr hf (by simp)).cell 0) ((hb0.fr hf (by simp)).cell 0) ((hb2.fr hf (by simp)).cell 0) ((hb3.fr hf (by simp)).cell 0)))
  clear h hb0 hb1 hb2 hb3
  go_enter Tryz.func29, Tryz.ntmps29
  go_wp2_with fail
  refine HC.out.mono ?_
  rintro e w' ⟨v, R, rfl, hr, hp, hs, hf, ho⟩
  have HR := Lib.hid hr
  have HPS := Lib.hid (And.intro hp hs)
  have HF := Lib.hid hf
  have HO := Lib.hid ho
  clear hr hp hs hf ho
  go_wp2_with fail
  go_ret
  exact ⟨v, R, rfl, HR.out, ⟨HPS.out.1, HPS.out.2⟩, F0.trans HF.out, fun g hg => by have := HO.out g hg; simp at this; omega⟩
end Go.Proofs.YthiaaminkfkjpaaGreat
namespace Go.Proofs.YthiaaminkfkjpaaGreat

theorem ahead2_total {c : Int} {a b : RowV} (h1 : ¬ ahead2 c a b) (h2 : ¬ ahead2 c b a) : a.value c = b.value c ∧ a.k = b.k := by
  unfold ahead2 at h1 h2
  omega
theorem ahead2_irrefl {c : Int} {a : RowV} : ¬ ahead2 c a a := by
  unfold ahead2
  omega
theorem ahead2_asymm {c : Int} {a b : RowV} (h : ahead2 c a b) : ¬ ahead2 c b a := by
  unfold ahead2 at *
  omega
/-- Rows of one table are told apart by their keys. -/
def KeyApart (R : List RowV) : Prop := ∀ a ∈ R, ∀ b ∈ R, a.k = b.k → a = b
theorem picked_uniq : ∀ {R R' : List RowV} {c : Int}, R.Perm R' → KeyApart R → R.Pairwise (fun x y => ¬ ahead2 c y x) → R'.Pairwise (fun x y => ¬ ahead2 c y x) → R = R'
  | [], R', _, hp, _, _, _ => by rw [hp.nil_eq]
  | a :: R, [], _, hp, _, _, _ => by have := hp.length_eq; simp at this
  | a :: R, b :: R', c, hp, hk, h1, h2 => by
    obtain ⟨h3, h4⟩ := List.pairwise_cons.1 h1
    obtain ⟨h5, h6⟩ := List.pairwise_cons.1 h2
    have hb : b ∈ a :: R := hp.mem_iff.2 (by simp)
    have ha : a ∈ b :: R' := hp.mem_iff.1 (by simp)
    have e : a = b := by
      rcases List.mem_cons.1 ha with e | ha
      · exact e
      · rcases List.mem_cons.1 hb with e | hb
        · exact e.symm
        · exact hk a (by simp) b (by simp [hb]) (ahead2_total (h5 a ha) (h3 b hb)).2
    subst e
    rw [picked_uniq hp.cons_inv (fun x hx y hy => hk x (by simp [hx]) y (by simp [hy])) h4 h6]
theorem keyApart_filter {s : Sm.Sta} (h : Sm.Ok s) (t : Int) {p : RowV → Bool} (hp : ∀ r, p r = true → r.t = t) : KeyApart ((s.M.map (·.2)).filter p) := by
  intro a ha b hb hk
  obtain ⟨ha1, ha2⟩ := List.mem_filter.1 ha
  obtain ⟨hb1, hb2⟩ := List.mem_filter.1 hb
  obtain ⟨⟨i, a'⟩, hia, rfl⟩ := List.mem_map.1 ha1
  obtain ⟨⟨j, b'⟩, hjb, rfl⟩ := List.mem_map.1 hb1
  dsimp only at hk ha2 hb2 ⊢
  have e1 := h.key _ hia
  have e2 := h.key _ hjb
  dsimp only at e1 e2
  have hij : i = j := Subtype.ext (by rw [e1, e2, hp _ ha2, hp _ hb2, hk])
  subst hij
  have h1 := (mget_iff h.nd).2 hia
  have h2 := (mget_iff h.nd).2 hjb
  rw [h1] at h2
  exact Option.some.inj h2
theorem Picked.uniq {s : Sm.Sta} {c t : Int} {p : RowV → Bool} {R R' : List RowV} (h : Picked s c p R) (h' : Picked s c p R') (ho : Sm.Ok s) (hp : ∀ r, p r = true → r.t = t) : R = R' :=
  picked_uniq (h.perm.trans h'.perm.symm) (fun a ha b hb => keyApart_filter ho t hp a (h.perm.mem_iff.1 ha) b (h.perm.mem_iff.1 hb)) h.srt h'.srt
theorem inTab_t {t : Int} (r : RowV) (h : inTab t r = true) : r.t = t := by simpa [inTab] using h
theorem inRng_t {t c lo hi : Int} (r : RowV) (h : inRng t c lo hi r = true) : r.t = t := by
  simp only [inRng, Bool.and_eq_true, decide_eq_true_eq] at h
  exact h.1
theorem value_zero (r : RowV) : r.value 0 = r.k := rfl
/-- The rows of a table in the reference's list are the rows that are picked. -/
theorem picked_filter {s : Sm.Sta} {L : List RowV} (h : Sm.Sim s.M L) (t : Int) : Picked s 0 (inTab t) (L.filter (inTab t)) := by
  refine ⟨h.perm.filter _, ?_⟩
  refine List.Pairwise.imp_of_mem (fun {a b} ha hb hab => ?_) (List.Pairwise.filter _ h.srt)
  have e1 := inTab_t a (List.mem_filter.1 ha).2
  have e2 := inTab_t b (List.mem_filter.1 hb).2
  unfold ahead2
  rw [value_zero, value_zero]
  omega
/-- A row is inserted behind those whose values are not greater. -/
theorem insert_srt {c : Int} {R : List RowV} {x : RowV} {k : Nat} (h : R.Pairwise (ahead2 c)) (hlo : ∀ i (hi : i < R.length), i < k → R[i].value c ≤ x.value c) (hhi : ∀ i (hi : i < R.length), k ≤ i → x.value c < R[i].value c) (hk : ∀ a ∈ R, a.k < x.k) :
    (R.take k ++ x :: R.drop k).Pairwise (ahead2 c) := by
  have h' := h
  rw [← List.take_append_drop k R, List.pairwise_append] at h'
  obtain ⟨h1, h2, h3⟩ := h'
  rw [List.pairwise_append]
  refine ⟨h1, List.pairwise_cons.2 ⟨fun b hb => ?_, h2⟩, fun a ha b hb => ?_⟩
  · obtain ⟨i, hi, rfl⟩ := List.getElem_of_mem hb
    rw [List.length_drop] at hi
    rw [List.getElem_drop]
    exact .inl (hhi (k + i) (by omega) (by omega))
  · rcases List.mem_cons.1 hb with rfl | hb
    · obtain ⟨i, hi, rfl⟩ := List.getElem_of_mem ha
      rw [List.length_take] at hi
      rw [List.getElem_take]
      have e1 := hlo i (by omega) (by omega)
      have e2 := hk _ (List.getElem_mem (show i < R.length by omega))
      unfold ahead2
      omega
    · exact h3 a ha b hb
theorem insert_perm {R : List RowV} {x : RowV} (k : Nat) : (R.take k ++ x :: R.drop k).Perm (R ++ [x]) := by
  refine List.perm_middle.trans ?_
  rw [List.take_append_drop]
  exact (List.perm_append_singleton x R).symm
end Go.Proofs.YthiaaminkfkjpaaGreat

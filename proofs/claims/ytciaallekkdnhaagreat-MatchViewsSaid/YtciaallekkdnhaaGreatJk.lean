/-
  Law 08, plain: the index of a list of queries that have the numbers 0, 1, 2 ..; a match as the list of what is touched.
-/
import Derived.Test.YtciaallekkdnhaaGreatJf
import Derived.Test.YtciaallekkdnhaaGreatJe
import Derived.Test.YtciaallekkdnhaaGreatJb
import Derived.Maps.Keyed
import Derived.DeepKeys4
import Derived.Test.YtciaallekkdnhaaGreatJi
import Derived.Shelf.Abstract
import Derived.WalkKit
import Derived.OwnWalkIn
import Derived.TacticsInMore
import Derived.LoopNIn
import Derived.LoopIn
namespace Go.Proofs.YtciaallekkdnhaaGreat
open Go.RowKit

namespace Mm
/-- The queries by their numbers. -/
abbrev Ix := List (Int × Qry)
structure Ok (M : Ix) : Prop where
  nd : Nd M
  len : M.length ≤ 500
  valid : ∀ e ∈ M, Em.valid e.2 = true
  id : ∀ e ∈ M, okI e.1
def code (M : Ix) (id : Int) (q : Qry) : Int := if (mget M id).isSome = true ∨ Em.valid q = false ∨ 500 ≤ M.length then 80 else 0
def add (M : Ix) (id : Int) (q : Qry) : Ix := if code M id q = 0 then mput M id q else M
theorem code_zero {M : Ix} {id : Int} {q : Qry} : code M id q = 0 ↔ mget M id = none ∧ Em.valid q = true ∧ M.length < 500 := by
  unfold code
  split
  · rename_i h
    refine ⟨fun h0 => (by cases h0), fun ⟨h1, h2, h3⟩ => ?_⟩
    rw [h1, h2] at h
    simp at h
    omega
  · rename_i h
    simp only [not_or, Bool.not_eq_true, Option.isSome_eq_false_iff, Option.isNone_iff_eq_none, Bool.not_eq_false, Nat.not_le] at h
    exact ⟨fun _ => h, fun _ => rfl⟩
theorem Ok.nil : Ok [] := ⟨nd_nil, by simp, by simp, by simp⟩
theorem Ok.add {M : Ix} (h : Ok M) {id : Int} (hi : okI id) (q : Qry) : Ok (add M id q) := by
  unfold Mm.add
  split
  · rename_i h0
    obtain ⟨h1, h2, h3⟩ := code_zero.1 h0
    refine ⟨h.nd.put _ _, ?_, fun e he => ?_, fun e he => ?_⟩
    · rw [length_mput h.nd, h1]
      simp
      omega
    · rcases mem_mput.1 he with rfl | ⟨he, -⟩
      · exact h2
      · exact h.valid e he
    · rcases mem_mput.1 he with rfl | ⟨he, -⟩
      · exact hi
      · exact h.id e he
  · exact h
theorem Ok.del {M : Ix} (h : Ok M) (id : Int) : Ok (mdel M id) :=
  ⟨h.nd.del _, Nat.le_trans length_mdel_le h.len, fun e he => h.valid e (mem_mdel.1 he).1, fun e he => h.id e (mem_mdel.1 he).1⟩

/-- An interval. -/
structure Iv where
  low : Int
  high : Int
  reach : Int
  id : Int
def Iv.cells (x : Iv) : List Value := [.int .i64 x.low, .int .i64 x.high, .int .i64 x.reach, .int .i64 x.id]
theorem Iv.len (x : Iv) : x.cells.length = 4 := rfl
theorem Iv.one (x : Iv) : ∀ u ∈ x.cells, u.oneCell' = true := by
  intro u hu
  simp only [Iv.cells, List.mem_cons, List.not_mem_nil, or_false] at hu
  rcases hu with rfl | rfl | rfl | rfl <;> rfl
/-- What 'containing' produces. -/
def ahead (v : Int) (L : List Iv) : List Iv := L.takeWhile fun x => decide (x.low ≤ v)
def back (v : Int) (L : List Iv) : List Iv := (ahead v L).reverse.takeWhile fun x => decide (v ≤ x.reach)
def cont (L : List Iv) (v : Int) : List Int := ((back v L).filter fun x => decide (v ≤ x.high)).map (·.id)
structure Sor (L : List Iv) : Prop where
  low : L.Pairwise fun x y => x.low ≤ y.low
  reach : L.Pairwise fun x y => x.high ≤ y.reach
  own : ∀ x ∈ L, x.high ≤ x.reach
theorem mem_back {p : Iv → Bool} {x : Iv} {B : List Iv} (hp : ∀ y ∈ B, p y = true) (hx : p x = true) (A : List Iv) : x ∈ (A ++ x :: B).reverse.takeWhile p := by
  rw [List.reverse_append, List.reverse_cons, List.append_assoc, List.takeWhile_append_of_pos (by simpa using hp)]
  simp [hx]
theorem mem_cont {L : List Iv} (h : Sor L) {x : Iv} (hx : x ∈ L) {v : Int} (h1 : x.low ≤ v) (h2 : v ≤ x.high) : x.id ∈ cont L v := by
  obtain ⟨A, B, rfl⟩ := List.append_of_mem hx
  obtain ⟨a1, a2, a3⟩ := List.pairwise_append.1 h.low
  obtain ⟨b1, b2, b3⟩ := List.pairwise_append.1 h.reach
  have e : ahead v (A ++ x :: B) = A ++ x :: ahead v B := by
    unfold ahead
    rw [List.takeWhile_append_of_pos (fun y hy => by
      have := a3 y hy x (by simp)
      simp only [decide_eq_true_eq]
      omega), List.takeWhile_cons_of_pos (by simpa using h1)]
  unfold cont back
  rw [e]
  refine List.mem_map.2 ⟨x, List.mem_filter.2 ⟨mem_back (fun y hy => ?_) ?_ A, by simpa using h2⟩, rfl⟩
  · have hy' : y ∈ B := (List.takeWhile_sublist _).subset hy
    have := (List.pairwise_cons.1 b2).1 y hy'
    simp only [decide_eq_true_eq]
    omega
  · have := h.own x (by simp)
    simp only [decide_eq_true_eq]
    omega
/-- The rows of a change. -/
def rows (c : Chg) : List RowV := (Pm.bef c).toList ++ (Pm.aft c).toList
abbrev Sc := List ((Int × Int) × List Iv)
abbrev Jn := List (Int × List Int)
def scanOf (SC : Sc) (t col : Int) : List Iv := (mget SC (t, col)).getD []
def nearR (SC : Sc) (t : Int) (r : RowV) : List Int := [(0 : Int), 1, 2, 3].flatMap fun col => cont (scanOf SC t col) (r.value col)
def near (SC : Sc) (JN : Jn) (c : Chg) : List Int := (rows c).flatMap (nearR SC c.t) ++ (mget JN c.t).getD []
/-- The lists of an index. -/
structure Lists (M : Ix) (SC : Sc) (JN : Jn) : Prop where
  scan : ∀ e ∈ M, ∃ L, mget SC (e.2.table, e.2.column) = some L ∧ ∃ x ∈ L, x.low = e.2.low ∧ x.high = e.2.high ∧ x.id = e.1
  sor : ∀ p ∈ SC, Sor p.2
  join : ∀ e ∈ M, e.2.kind = 7 → ∃ L, mget JN e.2.other = some L ∧ e.1 ∈ L
  ok : ∀ p ∈ SC, p.2.length ≤ 500 ∧ ∀ x ∈ p.2, (-1000000000 ≤ x.low ∧ x.low ≤ 1000000000) ∧ (-1000000000 ≤ x.high ∧ x.high ≤ 1000000000) ∧ (-1000000000 ≤ x.reach ∧ x.reach ≤ 1000000000) ∧ okI x.id
  okJ : ∀ p ∈ JN, p.2.length ≤ 500 ∧ ∀ x ∈ p.2, okI x
theorem bounds_of {q : Qry} (h : Em.valid q = true) : (0 ≤ q.table ∧ q.table ≤ 3) ∧ (0 ≤ q.column ∧ q.column ≤ 3) ∧ (-1000000000 ≤ q.low ∧ q.low ≤ q.high ∧ q.high ≤ 1000000000) := by
  have hb : Em.base q = true := by
    unfold Em.valid at h
    repeat' split at h
    all_goals first
      | (simp only [Bool.and_eq_true] at h; exact h.1)
      | simp at h
  unfold Em.base Em.within at hb
  simp only [Bool.and_eq_true, decide_eq_true_eq] at hb
  omega
/-- What a change touches is near it. -/
theorem any_of_touches {q : Qry} {c : Chg} (h : Pm.touches q c = true) : Em.valid q = true ∧ ((∃ r ∈ rows c, r.t = c.t ∧ Pm.inq q r = true) ∨ (q.kind = 7 ∧ c.t = q.other)) := by
  unfold Pm.touches at h
  simp only [Bool.and_eq_true] at h
  obtain ⟨h1, -, h3⟩ := h
  refine ⟨h1, ?_⟩
  have key : Pm.anyE q c = true → ∃ r ∈ rows c, r.t = c.t ∧ Pm.inq q r = true := by
    intro ha
    unfold Pm.anyE Pm.B Pm.A Pm.sc at ha
    simp only [Bool.or_eq_true, Option.isSome_iff_exists, Option.filter_eq_some_iff] at ha
    rcases ha with ⟨r, hr, hq⟩ | ⟨r, hr, hq⟩
    · refine ⟨r, by simp [rows, hr], ?_, hq⟩
      unfold Pm.bef at hr
      split at hr
      · injection hr with hr
        rw [← hr]
      · cases hr
    · refine ⟨r, by simp [rows, hr], ?_, hq⟩
      unfold Pm.aft at hr
      split at hr
      · injection hr with hr
        rw [← hr]
      · cases hr
  have one : Pm.oneE q c = true → Pm.anyE q c = true := by
    unfold Pm.oneE Pm.anyE
    cases (Pm.B q c).isSome <;> cases (Pm.A q c).isSome <;> simp
  have diff : (!decide (Pm.old q c = Pm.now q c)) = true → Pm.anyE q c = true := by
    unfold Pm.old Pm.now Pm.anyE
    cases Pm.B q c <;> cases Pm.A q c <;> simp [Pm.me]
  unfold Pm.tk at h3
  repeat' split at h3
  · exact .inl (key (one h3))
  · exact .inl (key (diff h3))
  · simp only [Bool.or_eq_true] at h3
    rcases h3 with h3 | h3
    · exact .inl (key (one h3))
    · exact .inl (key (diff h3))
  · rename_i h7
    simp only [Bool.or_eq_true, decide_eq_true_eq] at h3
    rcases h3 with h3 | h3
    · exact .inl (key h3)
    · exact .inr ⟨h7, h3⟩
  · exact .inl (key h3)
theorem touched_near {M : Ix} {SC : Sc} {JN : Jn} (h : Lists M SC JN) {e : Int × Qry} (he : e ∈ M) {c : Chg} (ht : Pm.touches e.2 c = true) : e.1 ∈ near SC JN c := by
  obtain ⟨hv, h1⟩ := any_of_touches ht
  obtain ⟨-, hc, -⟩ := bounds_of hv
  rcases h1 with ⟨r, hr, hrt, hq⟩ | ⟨h7, ho⟩
  · unfold Pm.inq at hq
    simp only [Bool.and_eq_true, decide_eq_true_eq] at hq
    obtain ⟨q1, q2, q3⟩ := hq
    obtain ⟨L, hL, x, hx, x1, x2, x3⟩ := h.scan e he
    have hs := h.sor (_, L) (List.mem_of_find?_eq_some (by
      unfold mget at hL
      rw [Option.map_eq_some_iff] at hL
      obtain ⟨a, ha, hb⟩ := hL
      have h0 := List.find?_some ha
      simp only [decide_eq_true_eq] at h0
      obtain ⟨a1, a2⟩ := a
      subst hb
      dsimp only at h0
      subst h0
      exact ha))
    have hm := mem_cont hs hx (v := r.value e.2.column) (by omega) (by omega)
    rw [x3] at hm
    refine List.mem_append.2 (.inl (List.mem_flatMap.2 ⟨r, hr, List.mem_flatMap.2 ⟨e.2.column, by simp only [List.mem_cons, List.not_mem_nil, or_false]; omega, ?_⟩⟩))
    unfold scanOf
    rw [← hrt, q1, hL]
    exact hm
  · obtain ⟨L, hL, hm⟩ := h.join e he h7
    refine List.mem_append.2 (.inr ?_)
    rw [ho, hL]
    exact hm
/-- What a match is. -/
structure Hit (M : Ix) (cs : List Chg) (zs : List Int) : Prop where
  asc : zs.Pairwise (· < ·)
  mem : ∀ id, id ∈ zs ↔ ∃ q, mget M id = some q ∧ cs.any (Pm.touches q) = true
theorem asc_uniq : ∀ {a b : List Int}, a.Pairwise (· < ·) → b.Pairwise (· < ·) → (∀ x, x ∈ a ↔ x ∈ b) → a = b
  | [], [], _, _, _ => rfl
  | [], y :: b, _, _, h => absurd ((h y).2 (by simp)) (by simp)
  | x :: a, [], _, _, h => absurd ((h x).1 (by simp)) (by simp)
  | x :: a, y :: b, ha, hb, h => by
    obtain ⟨a1, a2⟩ := List.pairwise_cons.1 ha
    obtain ⟨b1, b2⟩ := List.pairwise_cons.1 hb
    have e : x = y := by
      have h1 := (h x).1 (by simp)
      have h2 := (h y).2 (by simp)
      rcases List.mem_cons.1 h1 with h1 | h1
      · exact h1
      · rcases List.mem_cons.1 h2 with h2 | h2
        · exact h2.symm
        · have := a1 y h2
          have := b1 x h1
          omega
    subst e
    rw [asc_uniq a2 b2 (fun z => ?_)]
    refine ⟨fun hz => ?_, fun hz => ?_⟩
    · rcases List.mem_cons.1 ((h z).1 (List.mem_cons_of_mem _ hz)) with rfl | h1
      · exact absurd (a1 z hz) (by omega)
      · exact h1
    · rcases List.mem_cons.1 ((h z).2 (List.mem_cons_of_mem _ hz)) with rfl | h1
      · exact absurd (b1 z hz) (by omega)
      · exact h1
theorem Hit.uniq {M : Ix} {cs : List Chg} {a b : List Int} (ha : Hit M cs a) (hb : Hit M cs b) : a = b :=
  asc_uniq ha.asc hb.asc (fun x => (ha.mem x).trans (hb.mem x).symm)
end Mm
end Go.Proofs.YtciaallekkdnhaaGreat
namespace Go.Proofs.YtciaallekkdnhaaGreat
open Go.RowKit

def encJ (x : Int) : List Value := [.int .i64 x]
theorem encJ_len (x : Int) : (encJ x).length = 1 := rfl
theorem encJ_one (x : Int) : ∀ u ∈ encJ x, u.oneCell' = true := by
  intro u hu
  simp only [encJ, List.mem_singleton] at hu
  subst hu
  rfl
def klPl (x : IdK) : Lit := .string (keyBytes [.int .i64 x.1.1, .int .i64 x.1.2])
set_option maxRecDepth 100000 in
theorem keyOf_pl (x : IdK) : keyOf Tryz.prog 141 x.val = some (klPl x) := by
  obtain ⟨⟨t, k⟩, h1, h2⟩ := x
  obtain ⟨d, hd⟩ : ∃ d, Tryz.prog.types.size + 1 = d + 2 := ⟨Tryz.prog.types.size - 1, by
    have : 1 ≤ Tryz.prog.types.size := of_decide_eq_true (by kernel_rfl)
    omega⟩
  have hk : Tryz.prog.keyType 141 = true := by kernel_rfl
  have hcell : Tryz.prog.cellsOf 141 = 2 := by kernel_rfl
  have hcelli : Tryz.prog.cellsOf 3 = 1 := by kernel_rfl
  unfold okI at h1 h2
  dsimp only at h1 h2
  simp only [keyOf, Tryz.underlying141, hk, Value.formed, hcell, hd, Value.cells]
  simp [Program.keyLits, Tryz.underlying141, Tryz.underlying3, hcell, hcelli, h1, h2, klPl]
theorem keyedPl : Maps.Keyed Tryz.prog 141 := Maps.Keyed.of_law (deep_law_laid (m := 3) laidOut (by decide) (of_decide_eq_true (by kernel_rfl)) (by kernel_rfl) (by kernel_rfl))
theorem injPl (x y : IdK) (h : klPl x = klPl y) : x = y := by
  have h1 := keyedPl.inj (keyOf_pl x) ((keyOf_pl y).trans (by rw [h]))
  obtain ⟨⟨t, k⟩, _⟩ := x
  obtain ⟨⟨t', k'⟩, _⟩ := y
  simp only [IdK.val] at h1
  injection h1 with h1
  simp at h1
  obtain ⟨rfl, rfl⟩ := h1
  rfl
/-- A slice's value beside what the row holds. -/
abbrev RvL (X : Type) := Value × List X
theorem tyPlIvs : MT Tryz.prog 134 141 145 IdK.val klPl (fun u : RvL Mm.Iv => u.1) (fun _ => True) (.slice none 0 0) where
  keyed := keyedPl
  ht := Tryz.underlying134
  key := fun x _ => keyOf_pl x
  inj := injPl
  zero := fun w => by kernel_rfl
theorem tyPlRaw : MT Tryz.prog 133 141 142 IdK.val klPl (fun u : RvL Mm.Iv => u.1) (fun _ => True) (.slice none 0 0) where
  keyed := keyedPl
  ht := Tryz.underlying133
  key := fun x _ => keyOf_pl x
  inj := injPl
  zero := fun w => by kernel_rfl
theorem tyIntRow : MT Tryz.prog 135 3 49 (Value.int .i64) (Lit.int .i64) (fun u : RvL Int => u.1) okI (.slice none 0 0) where
  keyed := Maps.int_keyed Tryz.underlying3
  ht := Tryz.underlying135
  key := fun x hx => Maps.keyOf_int_mk Tryz.underlying3 hx
  inj := fun x y h => by injection h
  zero := fun w => by kernel_rfl
theorem tyIntBool : MT Tryz.prog 88 3 4 (Value.int .i64) (Lit.int .i64) Value.bool okI (.bool false) where
  keyed := Maps.int_keyed Tryz.underlying3
  ht := Tryz.underlying88
  key := fun x hx => Maps.keyOf_int_mk Tryz.underlying3 hx
  inj := fun x y h => by injection h
  zero := fun w => by kernel_rfl
theorem tyIntQry : MT Tryz.prog 79 3 35 (Value.int .i64) (Lit.int .i64) Qry.val okI (.agg #[.int .i64 0, .int .i64 0, .int .i64 0, .int .i64 0, .int .i64 0, .int .i64 0, .int .i64 0]) where
  keyed := Maps.int_keyed Tryz.underlying3
  ht := Tryz.underlying79
  key := fun x hx => Maps.keyOf_int_mk Tryz.underlying3 hx
  inj := fun x y h => by injection h
  zero := fun w => by kernel_rfl
/-- A row that a slice's value tells, in blocks of D. -/
def RowD {X : Type} (enc : X → List Value) (size : Nat) (w : World) (D : List Nat) (u : RvL X) : Prop :=
  ∃ A cap, u.1 = .slice A u.2.length cap ∧ u.2.length ≤ cap ∧ cap ≤ maxLen ∧ AtL enc size w A u.2 ∧ ∀ ad, A = some ad → ad.block ∈ D
theorem RowD.fr {X : Type} {enc : X → List Value} {size : Nat} {w w' : World} {D S : List Nat} {u : RvL X} (h : RowD enc size w D u) (hf : Fr S w w') (hD : ∀ x ∈ D, x ∉ S) : RowD enc size w' D u := by
  obtain ⟨A, cap, h1, h2, h3, h4, h5⟩ := h
  exact ⟨A, cap, h1, h2, h3, h4.fr hf (fun ad e => hD _ (h5 ad e)), h5⟩
def shedP (SV : List (IdK × RvL Mm.Iv)) : Mm.Sc := SV.map fun e => (e.1.1, e.2.2)
def shedJ (JV : List (Int × RvL Int)) : Mm.Jn := JV.map fun e => (e.1, e.2.2)
theorem mget_shedP (SV : List (IdK × RvL Mm.Iv)) (x : IdK) : mget (shedP SV) x.1 = (mget SV x).map (·.2) := by
  induction SV with
  | nil => rfl
  | cons e r ih =>
    by_cases he : e.1 = x
    · have a1 : mget (e :: r) x = some e.2 := by simp [mget, he]
      have a2 : mget (shedP (e :: r)) x.1 = some e.2.2 := by simp [mget, shedP, he]
      rw [a1, a2]
      rfl
    · have he' : e.1.1 ≠ x.1 := fun h => he (Subtype.ext h)
      have a1 : mget (e :: r) x = mget r x := by simp [mget, he]
      have a2 : mget (shedP (e :: r)) x.1 = mget (shedP r) x.1 := by simp [mget, shedP, he']
      rw [a1, a2, ih]
theorem mget_shedJ (JV : List (Int × RvL Int)) (x : Int) : mget (shedJ JV) x = (mget JV x).map (·.2) := by
  induction JV with
  | nil => rfl
  | cons e r ih =>
    by_cases he : e.1 = x
    · have a1 : mget (e :: r) x = some e.2 := by simp [mget, he]
      have a2 : mget (shedJ (e :: r)) x = some e.2.2 := by simp [mget, shedJ, he]
      rw [a1, a2]
      rfl
    · have a1 : mget (e :: r) x = mget r x := by simp [mget, he]
      have a2 : mget (shedJ (e :: r)) x = mget (shedJ r) x := by simp [mget, shedJ, he]
      rw [a1, a2, ih]
/-- The lists at block bl, in blocks of D. -/
structure LsIn (w : World) (bl ms mj : Nat) (SV : List (IdK × RvL Mm.Iv)) (JV : List (Int × RvL Int)) (M : Mm.Ix) (D : List Nat) : Prop where
  blk : Blk w bl 137 #[.map (some ms), .map (some mj)]
  scans : VMap Tryz.prog 141 klPl (fun u : RvL Mm.Iv => u.1) w ms SV
  joins : VMap Tryz.prog 3 (Lit.int .i64) (fun u : RvL Int => u.1) w mj JV
  rowS : ∀ e ∈ SV, RowD Mm.Iv.cells 4 w D e.2
  rowJ : ∀ e ∈ JV, RowD encJ 1 w D e.2
  lists : Mm.Lists M (shedP SV) (shedJ JV)
  mem : bl ∈ D ∧ ms ∈ D ∧ mj ∈ D
def LsAt (w : World) (bl : Nat) (M : Mm.Ix) (D : List Nat) : Prop := ∃ ms mj SV JV, LsIn w bl ms mj SV JV M D
section
variable {w w' : World} {bl ms mj b m : Nat} {SV : List (IdK × RvL Mm.Iv)} {JV : List (Int × RvL Int)} {M : Mm.Ix} {D D' S : List Nat}
theorem LsIn.fr (h : LsIn w bl ms mj SV JV M D) (hf : Fr S w w') (hD : ∀ x ∈ D, x ∉ S) : LsIn w' bl ms mj SV JV M D :=
  ⟨h.blk.fr hf (hD _ h.mem.1), h.scans.fr hf (hD _ h.mem.2.1), h.joins.fr hf (hD _ h.mem.2.2), fun e he => (h.rowS e he).fr hf hD, fun e he => (h.rowJ e he).fr hf hD, h.lists, h.mem⟩
theorem LsAt.fr (h : LsAt w bl M D) (hf : Fr S w w') (hD : ∀ x ∈ D, x ∉ S) : LsAt w' bl M D := by
  obtain ⟨ms, mj, SV, JV, h⟩ := h
  exact ⟨ms, mj, SV, JV, h.fr hf hD⟩
theorem RowD.more {X : Type} {enc : X → List Value} {size : Nat} {u : RvL X} (h : RowD enc size w D u) (hd : ∀ x ∈ D, x ∈ D') : RowD enc size w D' u := by
  obtain ⟨A, cap, h1, h2, h3, h4, h5⟩ := h
  exact ⟨A, cap, h1, h2, h3, h4, fun ad e => hd _ (h5 ad e)⟩
theorem LsIn.more (h : LsIn w bl ms mj SV JV M D) (hd : ∀ x ∈ D, x ∈ D') : LsIn w bl ms mj SV JV M D' :=
  ⟨h.blk, h.scans, h.joins, fun e he => (h.rowS e he).more hd, fun e he => (h.rowJ e he).more hd, h.lists, hd _ h.mem.1, hd _ h.mem.2.1, hd _ h.mem.2.2⟩
/-- An index at block b, its queries' map at block m; all that it leans on lies in blocks of D. -/
structure IxAt (w : World) (b m : Nat) (M : Mm.Ix) (D : List Nat) : Prop where
  map : VMap Tryz.prog 3 (Lit.int .i64) Qry.val w m M
  ok : Mm.Ok M
  blk : ∃ lp, Blk w b 82 #[.map (some m), .pointer lp] ∧ (lp = none ∨ ∃ bl, lp = some ⟨bl, 0, none⟩ ∧ LsAt w bl M D)
  mem : b ∈ D ∧ m ∈ D
theorem IxAt.fr (h : IxAt w b m M D) (hf : Fr S w w') (hD : ∀ x ∈ D, x ∉ S) : IxAt w' b m M D := by
  obtain ⟨lp, h1, h2⟩ := h.blk
  refine ⟨h.map.fr hf (hD _ h.mem.2), h.ok, ⟨lp, h1.fr hf (hD _ h.mem.1), ?_⟩, h.mem⟩
  rcases h2 with h2 | ⟨bl, e, h2⟩
  · exact .inl h2
  · exact .inr ⟨bl, e, h2.fr hf hD⟩
theorem IxAt.fr0 (h : IxAt w b m M D) (hf : Fr [] w w') : IxAt w' b m M D := h.fr hf (by simp)
theorem IxAt.ne (h : IxAt w b m M D) : m ≠ b := by
  obtain ⟨lp, h1, -⟩ := h.blk
  exact h.map.ne h1
theorem IxAt.lt (h : IxAt w b m M D) : b < w.heap.size ∧ m < w.heap.size := by
  obtain ⟨lp, h1, -⟩ := h.blk
  exact ⟨h1.lt, h.map.lt⟩
theorem IxAt.more (h : IxAt w b m M D) (hd : ∀ x ∈ D, x ∈ D') : IxAt w b m M D' := by
  obtain ⟨lp, h1, h2⟩ := h.blk
  refine ⟨h.map, h.ok, ⟨lp, h1, ?_⟩, hd _ h.mem.1, hd _ h.mem.2⟩
  rcases h2 with h2 | ⟨bl, e, ms, mj, SV, JV, h2⟩
  · exact .inl h2
  · exact .inr ⟨bl, e, ms, mj, SV, JV, h2.more hd⟩
/-- The queries alone: what lies in memory where the lists are not known to be right. -/
theorem IxAt.bare (h : VMap Tryz.prog 3 (Lit.int .i64) Qry.val w m M) (ho : Mm.Ok M) (hb : Blk w b 82 #[.map (some m), .pointer none]) (hD : b ∈ D ∧ m ∈ D) : IxAt w b m M D := ⟨h, ho, ⟨none, hb, .inl rfl⟩, hD⟩
end
end Go.Proofs.YtciaallekkdnhaaGreat
namespace Go.Proofs.YtciaallekkdnhaaGreat
open Go.RowKit

theorem room_none {F : Fence} (hd : F.depth = none) (k : Nat) : F.room k := fun d h => by rw [hd] at h; cases h
theorem YieldAt.deep {F : Fence} (hd : F.depth = none) {m : Nat} (m' : Nat) {P : Program} {l : Nat} {args : Array Value} {W : World} {R : Ending → World → Prop} (h : YieldAt F m P l args W R) : YieldAt F m' P l args W R := by
  obtain ⟨fn, tmps, assign, body, hy, hR⟩ := h
  exact ⟨fn, tmps, assign, body, hy, hR.1, fun c cs _ => hR.2 c cs (room_none hd _)⟩
/-- THE CONTRACT where a round may say 'no more'. -/
def SeqX {α : Type} (F : Fence) (n : Nat) (P : Program) (g : Nat) (lb : Array Value) (encs : α → Array Value) (S : List Nat) (xs : List α) (w : World) : Prop :=
  ∀ (l : Nat) (J Jx : List α → World → Prop) (W : World), Fr [] w W → Low W.heap.size J → Low W.heap.size Jx → (∀ p A, J p A → W.heap.size ≤ A.heap.size) → (∀ p A, Jx p A → W.heap.size ≤ A.heap.size) →
    (∀ pre x W1, (∃ r, pre ++ x :: r = xs) → J pre W1 → YieldAt F (n - 1) P l (encs x) W1 fun e W' => (e = .returned (.bool true) ∧ J (pre ++ [x]) W' ∧ Fr S W1 W') ∨ (e = .returned (.bool false) ∧ Jx (pre ++ [x]) W')) →
    J [] W → CallsIn F n P g (#[.func (.yield l) #[] #[]] ++ lb) W fun e W' => (∃ v, e = .returned v) ∧ (J xs W' ∨ ∃ pre x, (∃ r, pre ++ x :: r = xs) ∧ Jx (pre ++ [x]) W')
/-- How a round's body is left: it goes on, or it returns. -/
def roundEndX (J Jx : World → Prop) (B : Nat) (S : List Nat) (W : World) : Exit → Act → World → Prop
  | .normal, _, W' => FrO B S W W' ∧ J W'
  | .ret, _, W' => FrO B S W W' ∧ Jx W'
  | _, _, _ => False

section
variable {F : Fence} {n : Nat} {P : Program} {α : Type}
theorem round_ofX {l : Nat} {rec : Loop} {encs : α → Array Value} {S : List Nat} {fn : FuncId} {B0 : Nat} {I Ix : List α → World → Prop} {pre : List α} {x : α} {W : World} (hfn : F.fn fn) (hf : rec.fn = fn) (hst : rec.state = .ready) (hpe : rec.pending = none)
    (hps : (encs x).size = rec.params.size) (hI : Low B0 I) (hIx : Low B0 Ix) (hl0 : B0 ≤ l) (hL : W.heap[l]? = some (.loop rec)) (hB : B0 ≤ W.heap.size) (hS : l ∉ S) (hi : I pre W)
    (h : rec.assign.wpIn (F.inRound l) (n - 1) P (Exit.then (fun a' W1 => Fr [] W W1 ∧ ∀ W2, Fr [l] W1 W2 → (∃ r, W2.heap[l]? = some (.loop r)) → I pre W2 → rec.body.wpIn (F.inRound l) (n - 1) P (roundEndX (I (pre ++ [x])) (Ix (pre ++ [x])) W.heap.size S W2) a' W2) (fun _ _ _ => False))
      { tmps := (rec.params.zip (encs x)).foldl (fun t (p, v) => t.setIfInBounds p v) rec.tmps, defers := [] } W) :
    YieldAt F (n - 1) P l (encs x) W fun e W' => (e = .returned (.bool true) ∧ (I (pre ++ [x]) W' ∧ W'.heap[l]? = some (.loop rec)) ∧ Fr S W W') ∨
      (e = .returned (.bool false) ∧ Ix (pre ++ [x]) W' ∧ W'.heap[l]? = some (.loop { rec with state := .done, pending := some .ret }) ∧ Fr (l :: S) W W') := by
  have hy := run_yield (P := P) (args := encs x) hL hps
  refine ⟨_, _, _, _, hy, ?_⟩
  refine roundIn_of_wpIn (by rw [hf]; exact hfn) ?_
  refine wpIn_mono h ?_
  intro e a1 W1 he
  cases e with
  | normal =>
    obtain ⟨f1, hbody⟩ := he
    have hlW := (Array.getElem?_eq_some_iff.1 hL).1
    have hL1 : W1.heap[l]? = some (.loop rec) := (f1.block _ hlW (by simp)).trans hL
    have hlW1 := (Array.getElem?_eq_some_iff.1 hL1).1
    refine ⟨_, run_beginRound hL1 hst, ?_⟩
    have f2 : Fr [l] W1 (W1.putObj l (.loop { rec with state := .busy })) := putObj_own _
    have hL2 : (W1.putObj l (.loop { rec with state := .busy })).heap[l]? = some (.loop { rec with state := .busy }) := World.putObj_heap_same hlW1
    have hi2 : I pre (W1.putObj l (.loop { rec with state := .busy })) := hI _ _ _ (hI _ _ _ hi (f1.toBelow hB (by simp))) (f2.toBelow (Nat.le_trans hB f1.size) (by simpa using hl0))
    refine wpIn_mono (hbody _ f2 ⟨_, hL2⟩ hi2) ?_
    generalize W1.putObj l (.loop { rec with state := .busy }) = W2 at *
    have key : ∀ W3 o, FrO W.heap.size S W2 W3 → W3.heap[l]? = some (.loop { rec with state := .busy }) → Fr (l :: S) W (W3.putObj l o) := fun W3 o f3 hL3 => by
      refine ⟨(f3.os.trans f2.os).trans f1.os, (f3.tape.trans f2.tape).trans f1.tape, (f3.output.trans f2.output).trans f1.output, ?_, fun j hj hs => ?_⟩
      · have := f3.size
        have := f2.size
        have := f1.size
        simp
        omega
      · have e : j ≠ l := fun e => hs (by simp [e])
        have hs' : j ∉ S := fun hm => hs (List.mem_cons_of_mem _ hm)
        rw [World.putObj_heap_other e, f3.block j hj hs', f2.block j (Nat.lt_of_lt_of_le hj f1.size) (by simpa using e), f1.block j hj (by simp)]
    intro e a2 W3 he
    cases e with
    | normal =>
      obtain ⟨f3, hJ⟩ := he
      have hL3 : W3.heap[l]? = some (.loop { rec with state := .busy }) := (f3.block l hlW hS).trans hL2
      have hend := run_endRound (P := P) none hL3
      have hrec : ({ ({ rec with state := .busy } : Loop) with state := if (none : Option Code).isNone = true then .ready else .done, pending := none } : Loop) = rec := by
        cases rec
        simp only at hst hpe
        subst hst hpe
        rfl
      rw [hrec] at hend
      have hlW3 := (Array.getElem?_eq_some_iff.1 hL3).1
      have k1 := key W3 (.loop rec) f3 hL3
      refine ⟨_, _, hend, .inl ⟨rfl, ⟨hI _ _ _ hJ ((putObj_own _).toBelow (by have := f3.size; have := f2.size; have := f1.size; omega) (by simpa using hl0)), World.putObj_heap_same hlW3⟩, k1.os, k1.tape, k1.output, k1.size, fun j hj hs => ?_⟩⟩
      by_cases e : j = l
      · subst e
        rw [World.putObj_heap_same hlW3]
        exact hL.symm
      · exact k1.block j hj (by simp [e, hs])
    | ret =>
      obtain ⟨f3, hJ⟩ := he
      have hL3 : W3.heap[l]? = some (.loop { rec with state := .busy }) := (f3.block l hlW hS).trans hL2
      have hend := run_endRound (P := P) (some .ret) hL3
      have hlW3 := (Array.getElem?_eq_some_iff.1 hL3).1
      exact ⟨_, _, hend, .inr ⟨rfl, hIx _ _ _ hJ ((putObj_own _).toBelow (by have := f3.size; have := f2.size; have := f1.size; omega) (by simpa using hl0)), World.putObj_heap_same hlW3, key W3 _ f3 hL3⟩⟩
    | _ => exact he.elim
  | _ => exact he.elim

/-- THE LOOP, OUTERMOST, whose body may return. -/
theorem wpIn_rangeX {g : Operand} {ps : Array Tmp} {assign body : Code} {Q : Exit → Act → World → Prop} {a : Act} {w : World} (hro : F.round = none) (h1 : 1 ≤ n) {gf : Nat} {lb : Array Value}
    (hg : a.eval g = .func (.func gf) #[] lb) (hF : F.fn gf) (eg : ∀ args w, (callFunc gf args).run P w = .ok (.enter gf args) w)
    {encs : α → Array Value} {S : List Nat} {xs : List α} {w0 : World} (hseq : SeqX F (n - 1) P gf lb encs S xs w0) (hb0 : Fr [] w0 w) (hps : ∀ x, (encs x).size = ps.size) (hS : ∀ s ∈ S, s < w.heap.size)
    (I Ix : List α → World → Prop) (hI : Low w.heap.size I) (hIx : Low w.heap.size Ix) (h0 : I [] w)
    (hround : ∀ l pre x W, (∃ r, pre ++ x :: r = xs) → w.heap.size ≤ l → l < W.heap.size → I pre W →
      assign.wpIn (F.inRound l) (n - 1 - 1) P (Exit.then (fun a' W1 => Fr [] W W1 ∧ ∀ W2, Fr [l] W1 W2 → (∃ r, W2.heap[l]? = some (.loop r)) → I pre W2 → body.wpIn (F.inRound l) (n - 1 - 1) P (roundEndX (I (pre ++ [x])) (Ix (pre ++ [x])) W.heap.size S W2) a' W2) (fun _ _ _ => False))
        { tmps := (ps.zip (encs x)).foldl (fun t (p, v) => t.setIfInBounds p v) a.tmps, defers := [] } W)
    (hdone : ∀ D W, w.heap.size ≤ D → I xs W → W.heap[D]? = some (.deferred (some [])) → Q .normal { a with defers := { target := .collected D, args := #[] } :: a.defers } W)
    (hstop : ∀ D pre x W, w.heap.size ≤ D → (∃ r, pre ++ x :: r = xs) → Ix (pre ++ [x]) W → W.heap[D]? = some (.deferred (some [])) → Q .ret { a with defers := { target := .collected D, args := #[] } :: a.defers } W) :
    (Code.rangeFunc g ps assign body).wpIn F n P Q a w := by
  refine wpIn_rangeFunc ?_
  intro fn hfn
  rw [hro]
  obtain ⟨rec, hrec⟩ : ∃ rec : Loop, rec = { state := .ready, pending := none, fn, tmps := a.tmps, params := ps, assign, body, defers := w.heap.size } := ⟨_, rfl⟩
  have hent := run_enterLoop_outer (P := P) (w := w) fn a.tmps ps assign body
  have F1 : Fr [] w ((w.alloc (.deferred (some []))).alloc (.loop rec)) := ((Fr.refl _ _).alloc _).alloc _
  have hL1 : ((w.alloc (.deferred (some []))).alloc (.loop rec)).heap[w.heap.size + 1]? = some (.loop rec) := by
    have := World.alloc_heap_new (w.alloc (.deferred (some []))) (.loop rec); rwa [World.size_alloc] at this
  have hK1 : ((w.alloc (.deferred (some []))).alloc (.loop rec)).heap[w.heap.size]? = some (.deferred (some [])) := (Below.heap_alloc _ _ _ (by simp)).trans (World.alloc_heap_new w _)
  have hz1 : ((w.alloc (.deferred (some []))).alloc (.loop rec)).heap.size = w.heap.size + 2 := by simp
  rw [← hrec] at hent
  generalize (w.alloc (.deferred (some []))).alloc (.loop rec) = W1 at *
  refine ⟨w.heap.size + 1, [{ target := .collected w.heap.size, args := #[] }], W1, { target := .fn (.func gf) lb, args := #[.func (.yield (w.heap.size + 1)) #[] #[]] }, W1, gf,
    #[.func (.yield (w.heap.size + 1)) #[] #[]] ++ lb, W1, hent, ?_, ?_, ?_, fun _ => h1, ?_⟩
  · simp only [resolve, hg]
    simp [go_sem]
  · intro f' hf'; simp [Target.leads] at hf'; subst hf'; exact hF
  · simp [invoke, go_sem, eg]
  · have hlow : ∀ (K : List α → World → Prop) r, Low w.heap.size K → Low W1.heap.size (fun (pre : List α) W => K pre W ∧ W.heap[w.heap.size + 1]? = some (.loop r) ∧ W.heap[w.heap.size]? = some (.deferred (some [])) ∧ W1.heap.size ≤ W.heap.size) := by
      rintro K r hK s A C ⟨k1, k2, k3, k4⟩ hb
      exact ⟨hK _ _ _ k1 (hb.mono (by omega)), (hb.block _ (by omega)).trans k2, (hb.block _ (by omega)).trans k3, Nat.le_trans k4 hb.size⟩
    refine (hseq (w.heap.size + 1) _ _ W1 (hb0.trans F1) (hlow I rec hI) (hlow Ix { rec with state := .done, pending := some .ret } hIx) (fun p A h => h.2.2.2) (fun p A h => h.2.2.2) ?_ ⟨hI _ _ _ h0 (F1.toBelow (Nat.le_refl _) (by simp)), hL1, hK1, Nat.le_refl _⟩).mono ?_
    · rintro pre x W hx ⟨k1, k2, k3, k4⟩
      have hk := round_ofX (n := n - 1) (rec := rec) (encs := encs) (S := S) (B0 := w.heap.size) (I := I) (Ix := Ix) hfn (by rw [hrec]) (by rw [hrec]) (by rw [hrec]) (by rw [hrec]; exact hps x) hI hIx (Nat.le_succ _) k2 (by omega) (fun hm => by have := hS _ hm; omega) k1
        (by rw [congrArg Loop.assign hrec, congrArg Loop.body hrec, congrArg Loop.tmps hrec, congrArg Loop.params hrec]; exact hround (w.heap.size + 1) pre x W hx (Nat.le_succ _) (by omega) k1)
      refine hk.mono ?_
      rintro e W' (⟨he, ⟨j1, j2⟩, j3⟩ | ⟨he, j1, j2, j3⟩)
      · exact .inl ⟨he, ⟨j1, j2, (j3.block _ (by omega) (fun hm => by have := hS _ hm; omega)).trans k3, Nat.le_trans k4 j3.size⟩, j3⟩
      · exact .inr ⟨he, j1, j2, (j3.block _ (by omega) (fun hm => by
          rcases List.mem_cons.1 hm with hm | hm
          · omega
          · have := hS _ hm; omega)).trans k3, Nat.le_trans k4 j3.size⟩
    · rintro e W' ⟨⟨v, rfl⟩, ⟨k1, k2, k3, k4⟩ | ⟨pre, x, hx, k1, k2, k3, k4⟩⟩
      · have hend := run_endLoop (P := P) k2 (by rw [hrec]; simp)
        refine ⟨none, W'.putObj (w.heap.size + 1) (.loop { rec with state := .exhausted }), by rw [hend, congrArg Loop.pending hrec], ?_⟩
        have f4 := putObj_own (w := W') (l := w.heap.size + 1) (.loop { rec with state := .exhausted })
        exact hdone w.heap.size _ (Nat.le_refl _) (hI _ _ _ k1 (f4.toBelow (by omega) (by simp))) ((World.putObj_heap_other (by omega)).trans k3)
      · have hend := run_endLoop (P := P) k2 (by simp)
        refine ⟨some .ret, _, hend, ?_⟩
        have f4 := putObj_own (w := W') (l := w.heap.size + 1) (.loop { ({ rec with state := .done, pending := some .ret } : Loop) with state := .exhausted })
        exact wpIn_ret (hstop w.heap.size pre x _ (Nat.le_refl _) hx (hIx _ _ _ k1 (f4.toBelow (by omega) (by simp))) ((World.putObj_heap_other (by omega)).trans k3))
end
end Go.Proofs.YtciaallekkdnhaaGreat
namespace Go.Proofs.YtciaallekkdnhaaGreat
open Go.RowKit Go.Shelf
attribute [local go_sem] Oper.semAt_some

namespace Mm
@[reducible] def Iv.val (x : Iv) : Value := .agg #[.int .i64 x.low, .int .i64 x.high, .int .i64 x.reach, .int .i64 x.id]
/-- The first i elements, the last one first, each with its index. -/
def backs (L : List Iv) : Nat → List (Nat × Iv)
  | 0 => []
  | i + 1 => match L[i]? with
    | some x => (i, x) :: backs L i
    | none => backs L i
theorem backs_succ (L : List Iv) {i : Nat} (h : i < L.length) : backs L (i + 1) = (i, L[i]) :: backs L i := by
  show (match L[i]? with
    | some x => (i, x) :: backs L i
    | none => backs L i) = _
  rw [List.getElem?_eq_getElem h]
theorem backs_map (L : List Iv) : ∀ i, i ≤ L.length → (backs L i).map (·.2) = (L.take i).reverse
  | 0, _ => by simp [backs]
  | i + 1, h => by
    rw [backs_succ L (by omega), List.map_cons, backs_map L i (by omega), List.take_succ_eq_append_getElem (by omega), List.reverse_append]
    rfl
end Mm
def encB (x : Nat × Mm.Iv) : Array Value := #[.int .i64 x.1, x.2.val]
theorem AtL.iv {w : World} {A : Option Addr} {L : List Mm.Iv} (h : AtL Mm.Iv.cells 4 w A L) {i : Nat} (hi : i < L.length) : ∃ b off, A = some ⟨b, off, none⟩ ∧ b < w.heap.size ∧
    w.cell? ⟨b, off + i * 4, none⟩ = some (.int .i64 L[i].low) ∧ w.cell? ⟨b, off + i * 4 + 1, none⟩ = some (.int .i64 L[i].high) ∧ w.cell? ⟨b, off + i * 4 + 2, none⟩ = some (.int .i64 L[i].reach) ∧ w.cell? ⟨b, off + i * 4 + 3, none⟩ = some (.int .i64 L[i].id) := by
  obtain ⟨b, off, e, hlt, hc⟩ := h (by omega)
  refine ⟨b, off, e, hlt, ?_, ?_, ?_, ?_⟩
  · exact (hc i hi 0 (by decide)).trans rfl
  · exact (hc i hi 1 (by decide)).trans rfl
  · exact (hc i hi 2 (by decide)).trans rfl
  · exact (hc i hi 3 (by decide)).trans rfl

set_option maxRecDepth 100000 in
set_option maxHeartbeats 2000000 in
theorem back_seq (F : Fence) (n : Nat) (hn1 : 1 ≤ n) (hf : F.fn 135) (hro : F.round = none) (Bn : Nat) (A : Option Addr) (cap N : Nat) (L : List Mm.Iv) (S : List Nat) (w : World) (hN : N = L.length) (hlen : L.length ≤ 500)
    (hc : w.cell? ⟨Bn, 0, none⟩ = some (.slice A N cap)) (hL : AtL Mm.Iv.cells 4 w A L) (hB : Bn ∉ S) (hA : ∀ ad, A = some ad → ad.block ∉ S) :
    SeqX F n Tryz.prog 135 #[.pointer (some ⟨Bn, 0, none⟩)] encB S (Mm.backs L L.length) w := by
  intro l J Jx W hW hJ hJx hs hsx hY h0
  have hBl := World.block_lt_of_cell? w _ hc
  have hcW : ∀ wr, Fr S W wr → wr.cell? ⟨Bn, 0, none⟩ = some (.slice A N cap) := fun wr hf => ((hf.cell (by have := hW.size; exact Nat.lt_of_lt_of_le hBl this) hB).trans ((hW.rules.1 Bn 0 hBl).trans hc))
  have hLW : ∀ wr, Fr S W wr → AtL Mm.Iv.cells 4 wr A L := fun wr hf => (hL.fr0 hW).fr hf hA
  have HC := Lib.hid hcW
  have HL := Lib.hid hLW
  have HY := Lib.hid hY
  have HN := Lib.hid hN
  have hn500 : N ≤ 500 := by omega
  have c0 := HC.out W (Fr.refl _ _)
  clear hcW hLW hY hc hL hN hlen
  refine callsIn_of_wp Tryz.func135 rfl hf ?_ hro
  simp only [Tryz.ntmps135, List.size_toArray, List.length_cons, List.length_nil, Nat.reduceAdd, Nat.reduceSub, Array.replicate_succ, Array.replicate_zero, List.push_toArray, List.append_toArray, List.nil_append, List.cons_append]
  gi_wp2
  gi_loopw [3] (fun p wr => ∃ (i : Nat) (pre : List (Nat × Mm.Iv)), p = .int .i64 ((i : Int) - 1) ∧ i ≤ N ∧ Hid (pre ++ Mm.backs L i = Mm.backs L L.length) ∧ Hid (J pre wr) ∧ Hid (Fr S W wr)) (fun p _ => (intOf p + 1).toNat)
  case atStart => exact ⟨N, [], by go_num, Nat.le_refl _, Lib.hid (by rw [HN.out]; rfl), Lib.hid h0, Lib.hid (Fr.refl _ _)⟩
  case round =>
    clear h0 c0
    obtain ⟨i, pre, rfl, hi, HP, HJ, HF⟩ := hrel
    rcases Nat.eq_zero_or_pos i with e0 | e0
    · subst e0
      rw [show ((0 : Nat) : Int) - 1 = -1 from rfl]
      gi_wp2
      go_end0
      have hp := HP.out
      simp only [Mm.backs, List.append_nil] at hp
      exact ⟨⟨_, rfl⟩, .inl (hp ▸ HJ.out)⟩
    · obtain ⟨i', rfl⟩ : ∃ i', i = i' + 1 := ⟨i - 1, by omega⟩
      rw [show ((i' + 1 : Nat) : Int) - 1 = (i' : Int) by omega]
      have hil : i' < L.length := by rw [← HN.out]; omega
      obtain ⟨b, off, hA', hbl, d0, d1, d2, d3⟩ := (HL.out wr HF.out).iv hil
      subst hA'
      have c0 := HC.out wr HF.out
      have hpre : pre ++ (i', L[i']) :: Mm.backs L i' = Mm.backs L L.length := by rw [← Mm.backs_succ L hil]; exact HP.out
      obtain ⟨fn, tmps, assign, body, hy, hR⟩ := HY.out pre (i', L[i']) wr ⟨_, hpre⟩ HJ.out
      have HPRE := Lib.hid hpre
      simp only [encB] at hy
      clear hpre
      generalize L[i'] = x at *
      obtain ⟨xl, xh, xr, xi⟩ := x
      dsimp only [Mm.Iv.val] at hy d0 d1 d2 d3
      gi_wp2
      refine hR.mono ?_
      rintro e W3 (⟨rfl, hJ3, hk3⟩ | ⟨rfl, hJx3⟩)
      · have HJ3 := Lib.hid hJ3
        have HF3 := Lib.hid (HF.out.trans hk3)
        clear hJ3 hk3 c0 d0 d1 d2 d3 hy hR
        gi_wp2
        go_roundw
        case rel => exact ⟨i', pre ++ [(i', ⟨xl, xh, xr, xi⟩)], by go_num, by omega, Lib.hid (by rw [List.append_assoc]; exact HPRE.out), HJ3, HF3⟩
        case measure => simp [intOf]
      · have HX3 := Lib.hid hJx3
        clear hJx3 c0 d0 d1 d2 d3 hy hR
        gi_wp2
        refine bodyPost_ret (results_none rfl _ _ _) rfl ?_
        exact ⟨⟨_, rfl⟩, .inr ⟨pre, (i', ⟨xl, xh, xr, xi⟩), ⟨_, HPRE.out⟩, HX3.out⟩⟩
end Go.Proofs.YtciaallekkdnhaaGreat
namespace Go.Proofs.YtciaallekkdnhaaGreat
open Go.RowKit

namespace Mm
def bnd (x : Int) : Prop := -1000000000 ≤ x ∧ x ≤ 1000000000
/-- One more at the end of a key's row. -/
def putR {K X : Type} [DecidableEq K] (RV : List (K × List X)) (k : K) (x : X) : List (K × List X) := mput RV k ((mget RV k).getD [] ++ [x])
theorem mget_putR_same {K X : Type} [DecidableEq K] {RV : List (K × List X)} {k : K} {x : X} : mget (putR RV k x) k = some ((mget RV k).getD [] ++ [x]) := mget_put_same
theorem mget_putR_other {K X : Type} [DecidableEq K] {RV : List (K × List X)} {k k' : K} {x : X} (h : k' ≠ k) : mget (putR RV k x) k' = mget RV k' := mget_put_other h
/-- What lies in the maps while the queries are gone through. -/
structure Raw (done : List (Int × Qry)) (RV : Sc) (JN : Jn) : Prop where
  scan : ∀ e ∈ done, ∃ L, mget RV (e.2.table, e.2.column) = some L ∧ ∃ x ∈ L, x.low = e.2.low ∧ x.high = e.2.high ∧ x.id = e.1
  join : ∀ e ∈ done, e.2.kind = 7 → ∃ L, mget JN e.2.other = some L ∧ e.1 ∈ L
  ok : ∀ k L, mget RV k = some L → L.length ≤ done.length ∧ ∀ x ∈ L, bnd x.low ∧ bnd x.high ∧ okI x.id
  okJ : ∀ k L, mget JN k = some L → L.length ≤ done.length ∧ ∀ x ∈ L, okI x
theorem Raw.nil : Raw [] [] [] := ⟨by simp, by simp, fun k L h => by simp [mget] at h, fun k L h => by simp [mget] at h⟩
theorem getD_mem {K X : Type} [DecidableEq K] {RV : List (K × List X)} {k : K} {p : X → Prop} {n : Nat} (h : ∀ L, mget RV k = some L → L.length ≤ n ∧ ∀ x ∈ L, p x) : ((mget RV k).getD []).length ≤ n ∧ ∀ x ∈ (mget RV k).getD [], p x := by
  cases e : mget RV k with
  | none => simp
  | some L => exact h L e
theorem Raw.step {done : List (Int × Qry)} {RV : Sc} {JN : Jn} (h : Raw done RV JN) {e : Int × Qry} (hv : Em.valid e.2 = true) (hi : okI e.1) (r : Int) :
    Raw (done ++ [e]) (putR RV (e.2.table, e.2.column) ⟨e.2.low, e.2.high, r, e.1⟩) (if e.2.kind = 7 then putR JN e.2.other e.1 else JN) := by
  obtain ⟨-, -, b3⟩ := bounds_of hv
  refine ⟨fun e' he' => ?_, fun e' he' h7 => ?_, fun k L hL => ?_, fun k L hL => ?_⟩
  · by_cases hk : (e'.2.table, e'.2.column) = (e.2.table, e.2.column)
    · rw [hk, mget_putR_same]
      refine ⟨_, rfl, ?_⟩
      rcases List.mem_append.1 he' with h1 | h1
      · obtain ⟨L, hL, x, hx, hxx⟩ := h.scan e' h1
        rw [hk] at hL
        rw [hL]
        exact ⟨x, List.mem_append.2 (.inl hx), hxx⟩
      · obtain rfl : e' = e := by simpa using h1
        exact ⟨_, List.mem_append.2 (.inr (List.mem_singleton.2 rfl)), rfl, rfl, rfl⟩
    · rw [mget_putR_other hk]
      rcases List.mem_append.1 he' with h1 | h1
      · exact h.scan e' h1
      · obtain rfl : e' = e := by simpa using h1
        exact absurd rfl hk
  · by_cases e7 : e.2.kind = 7
    · rw [if_pos e7]
      by_cases hk : e'.2.other = e.2.other
      · rw [hk, mget_putR_same]
        refine ⟨_, rfl, ?_⟩
        rcases List.mem_append.1 he' with h1 | h1
        · obtain ⟨L, hL, hm⟩ := h.join e' h1 h7
          rw [hk] at hL
          rw [hL]
          exact List.mem_append.2 (.inl hm)
        · obtain rfl : e' = e := by simpa using h1
          exact List.mem_append.2 (.inr (List.mem_singleton.2 rfl))
      · rw [mget_putR_other hk]
        rcases List.mem_append.1 he' with h1 | h1
        · exact h.join e' h1 h7
        · obtain rfl : e' = e := by simpa using h1
          exact absurd rfl hk
    · rw [if_neg e7]
      rcases List.mem_append.1 he' with h1 | h1
      · exact h.join e' h1 h7
      · obtain rfl : e' = e := by simpa using h1
        exact absurd h7 e7
  · rw [List.length_append, List.length_singleton]
    by_cases hk : k = (e.2.table, e.2.column)
    · rw [hk, mget_putR_same] at hL
      injection hL with hL
      subst hL
      obtain ⟨l1, l2⟩ := getD_mem (h.ok (e.2.table, e.2.column))
      refine ⟨by rw [List.length_append, List.length_singleton]; omega, fun x hx => ?_⟩
      rcases List.mem_append.1 hx with hx | hx
      · exact l2 x hx
      · obtain rfl := List.mem_singleton.1 hx
        exact ⟨⟨by dsimp only; omega, by dsimp only; omega⟩, ⟨by dsimp only; omega, by dsimp only; omega⟩, hi⟩
    · rw [mget_putR_other hk] at hL
      obtain ⟨l1, l2⟩ := h.ok k L hL
      exact ⟨by omega, l2⟩
  · rw [List.length_append, List.length_singleton]
    by_cases e7 : e.2.kind = 7
    · rw [if_pos e7] at hL
      by_cases hk : k = e.2.other
      · rw [hk, mget_putR_same] at hL
        injection hL with hL
        subst hL
        obtain ⟨l1, l2⟩ := getD_mem (h.okJ e.2.other)
        refine ⟨by rw [List.length_append, List.length_singleton]; omega, fun x hx => ?_⟩
        rcases List.mem_append.1 hx with hx | hx
        · exact l2 x hx
        · obtain rfl := List.mem_singleton.1 hx
          exact hi
      · rw [mget_putR_other hk] at hL
        obtain ⟨l1, l2⟩ := h.okJ k L hL
        exact ⟨by omega, l2⟩
    · rw [if_neg e7] at hL
      obtain ⟨l1, l2⟩ := h.okJ k L hL
      exact ⟨by omega, l2⟩
/-- Two intervals that differ in their reaches alone. -/
def Same (x y : Iv) : Prop := x.low = y.low ∧ x.high = y.high ∧ x.id = y.id
/-- A list sorted, its reaches told. -/
structure Fixed (L L' : List Iv) : Prop where
  sor : Sor L'
  len : L'.length = L.length
  goes : ∀ x ∈ L, ∃ y ∈ L', Same y x
  of : ∀ y ∈ L', (∃ x ∈ L, Same y x) ∧ ∃ x ∈ L, y.reach = x.high
/-- While the reaches are told: the first i are. -/
structure Fx (L0 : List Iv) (i : Nat) (R : List Iv) : Prop where
  len : R.length = L0.length
  same : ∀ j (h : j < R.length) (h' : j < L0.length), Same R[j] L0[j]
  up : ∀ j j' (h : j < R.length) (h' : j' < R.length), j ≤ j' → j' < i → R[j].high ≤ R[j'].reach
  of : ∀ j' (h' : j' < R.length), j' < i → ∃ x ∈ L0, R[j'].reach = x.high
theorem Fx.zero (L0 : List Iv) : Fx L0 0 L0 := ⟨rfl, fun _ _ _ => ⟨rfl, rfl, rfl⟩, fun _ _ _ _ _ h => absurd h (by omega), fun _ _ h => absurd h (by omega)⟩
theorem Fx.step {L0 R : List Iv} {i : Nat} (h : Fx L0 i R) (hi : i < R.length) {v : Int} (h1 : R[i].high ≤ v) (h2 : ∀ j (hj : j < R.length), j + 1 = i → R[j].reach ≤ v) (h3 : v = R[i].high ∨ ∃ j, ∃ hj : j < R.length, j + 1 = i ∧ v = R[j].reach) :
    Fx L0 (i + 1) (R.set i ⟨R[i].low, R[i].high, v, R[i].id⟩) := by
  have hl : (R.set i ⟨R[i].low, R[i].high, v, R[i].id⟩).length = R.length := List.length_set
  have hget : ∀ j (hj : j < (R.set i ⟨R[i].low, R[i].high, v, R[i].id⟩).length), (R.set i ⟨R[i].low, R[i].high, v, R[i].id⟩)[j] = if i = j then ⟨R[i].low, R[i].high, v, R[i].id⟩ else R[j]'(hl ▸ hj) := fun j hj => List.getElem_set _
  refine ⟨hl.trans h.len, fun j hj hj' => ?_, fun j j' hj hj' hjj hi' => ?_, fun j' hj' hi' => ?_⟩
  · rw [hget]
    split
    · rename_i e
      subst e
      exact h.same i hi hj'
    · exact h.same j (hl ▸ hj) hj'
  · rw [hget, hget]
    have hjR : j < R.length := hl ▸ hj
    have hjR' : j' < R.length := hl ▸ hj'
    by_cases e' : i = j'
    · subst e'
      rw [if_pos rfl]
      by_cases e : i = j
      · subst e
        rw [if_pos rfl]
        exact h1
      · rw [if_neg e]
        show R[j].high ≤ v
        have hj1 : i - 1 < R.length := by omega
        have a1 := h.up j (i - 1) hjR hj1 (by omega) (by omega)
        have a2 := h2 (i - 1) hj1 (by omega)
        omega
    · rw [if_neg e', if_neg (by omega)]
      exact h.up j j' hjR hjR' hjj (by omega)
  · rw [hget]
    by_cases e' : i = j'
    · subst e'
      rw [if_pos rfl]
      show ∃ x ∈ L0, v = x.high
      rcases h3 with h3 | ⟨j, hj, e, h3⟩
      · have hi0 : i < L0.length := by rw [← h.len]; exact hi
        exact ⟨L0[i], List.getElem_mem _, by rw [h3]; exact (h.same i hi hi0).2.1⟩
      · obtain ⟨x, hx, e2⟩ := h.of j hj (by omega)
        exact ⟨x, hx, by rw [h3, e2]⟩
    · rw [if_neg e']
      exact h.of j' (hl ▸ hj') (by omega)
theorem Fx.fixed {L L0 R : List Iv} (h : Fx L0 R.length R) (hp : L0.Perm L) (hs : L0.Pairwise fun x y => x.low ≤ y.low) : Fixed L R := by
  refine ⟨⟨?_, ?_, fun x hx => ?_⟩, ?_, fun x hx => ?_, fun y hy => ⟨?_, ?_⟩⟩
  · rw [List.pairwise_iff_getElem] at hs ⊢
    intro i j hi hj hij
    have hi0 : i < L0.length := by rw [← h.len]; exact hi
    have hj0 : j < L0.length := by rw [← h.len]; exact hj
    rw [(h.same i hi hi0).1, (h.same j hj hj0).1]
    exact hs i j hi0 hj0 hij
  · rw [List.pairwise_iff_getElem]
    intro i j hi hj hij
    exact h.up i j hi hj (by omega) hj
  · obtain ⟨i, hi, rfl⟩ := List.getElem_of_mem hx
    exact h.up i i hi hi (Nat.le_refl _) hi
  · rw [h.len, hp.length_eq]
  · obtain ⟨i, hi, rfl⟩ := List.getElem_of_mem (hp.mem_iff.2 hx)
    have hi' : i < R.length := by rw [h.len]; exact hi
    exact ⟨R[i], List.getElem_mem _, h.same i hi' hi⟩
  · obtain ⟨i, hi, rfl⟩ := List.getElem_of_mem hy
    have hi0 : i < L0.length := by rw [← h.len]; exact hi
    exact ⟨L0[i], hp.mem_iff.1 (List.getElem_mem _), h.same i hi hi0⟩
  · obtain ⟨i, hi, rfl⟩ := List.getElem_of_mem hy
    obtain ⟨x, hx, e⟩ := h.of i hi hi
    exact ⟨x, hp.mem_iff.1 hx, e⟩
/-- While the rows are sorted, one after the other. -/
structure Scd (done : Sc) (SC : Sc) : Prop where
  at_ : ∀ p ∈ done, ∃ L', mget SC p.1 = some L' ∧ Fixed p.2 L'
  of_ : ∀ k L', mget SC k = some L' → ∃ p ∈ done, p.1 = k ∧ Fixed p.2 L'
theorem Scd.nil : Scd [] [] := ⟨by simp, fun k L h => by simp [mget] at h⟩
theorem Scd.step {done SC : Sc} (h : Scd done SC) {k : Int × Int} {L L' : List Iv} (hk : ∀ p ∈ done, p.1 ≠ k) (hf : Fixed L L') : Scd (done ++ [(k, L)]) (mput SC k L') := by
  refine ⟨fun p hp => ?_, fun k' L2 hL => ?_⟩
  · rcases List.mem_append.1 hp with h1 | h1
    · rw [mget_put_other (hk p h1)]
      exact h.at_ p h1
    · obtain rfl := List.mem_singleton.1 h1
      exact ⟨L', mget_put_same, hf⟩
  · by_cases e : k' = k
    · subst e
      rw [mget_put_same] at hL
      injection hL with hL
      subst hL
      exact ⟨(k', L), List.mem_append.2 (.inr (List.mem_singleton.2 rfl)), rfl, hf⟩
    · rw [mget_put_other e] at hL
      obtain ⟨p, hp, hpp⟩ := h.of_ k' L2 hL
      exact ⟨p, List.mem_append.2 (.inl hp), hpp⟩
theorem Lists.of {M : Ix} {done0 : List (Int × Qry)} {RV SC : Sc} {JN : Jn} {done : Sc} (ho : Ok M) (hr : Raw done0 RV JN) (hp : done0.Perm M) (hs : Scd done SC) (hd : ∀ k L, mget RV k = some L ↔ (k, L) ∈ done) (nS : Nd SC) (nJ : Nd JN) : Lists M SC JN := by
  have hlen : done0.length ≤ 500 := by rw [hp.length_eq]; exact ho.len
  refine ⟨fun e he => ?_, fun p hp' => ?_, fun e he h7 => hr.join e (hp.mem_iff.2 he) h7, fun p hp' => ?_, fun p hp' => ?_⟩
  · obtain ⟨L, hL, x, hx, x1, x2, x3⟩ := hr.scan e (hp.mem_iff.2 he)
    obtain ⟨L', hL', hf⟩ := hs.at_ _ ((hd _ _).1 hL)
    obtain ⟨y, hy, y1, y2, y3⟩ := hf.goes x hx
    exact ⟨L', hL', y, hy, by omega, by omega, by omega⟩
  · obtain ⟨k, L'⟩ := p
    obtain ⟨q, -, -, hf⟩ := hs.of_ k L' ((mget_iff nS).2 hp')
    exact hf.sor
  · obtain ⟨k, L'⟩ := p
    obtain ⟨⟨k', L⟩, hq, e, hf⟩ := hs.of_ k L' ((mget_iff nS).2 hp')
    have hL := (hd _ _).2 hq
    obtain ⟨l1, l2⟩ := hr.ok _ _ hL
    refine ⟨by have := hf.len; dsimp only at this ⊢; omega, fun y hy => ?_⟩
    obtain ⟨⟨x, hx, x1, x2, x3⟩, z, hz, z1⟩ := hf.of y hy
    obtain ⟨c1, c2, c3⟩ := l2 x hx
    obtain ⟨-, d2, -⟩ := l2 z hz
    unfold bnd at c1 c2 d2
    exact ⟨by omega, by omega, by omega, by rw [x3]; exact c3⟩
  · obtain ⟨k, L⟩ := p
    obtain ⟨l1, l2⟩ := hr.okJ k L ((mget_iff nJ).2 hp')
    exact ⟨by dsimp only; omega, l2⟩
end Mm
end Go.Proofs.YtciaallekkdnhaaGreat
namespace Go.Proofs.YtciaallekkdnhaaGreat
open Go.RowKit

namespace Mm
theorem Hit.of_check {M : Ix} {cs : List Chg} {zs : List Int} (hn : Nd M) (h1 : zs.Pairwise (· < ·)) (h2 : ∀ e ∈ M, cs.any (Pm.touches e.2) = decide (e.1 ∈ zs)) (h3 : ∀ z ∈ zs, z ∈ M.map (·.1)) : Hit M cs zs := by
  refine ⟨h1, fun id => ⟨fun hm => ?_, fun ⟨q, hq, ht⟩ => ?_⟩⟩
  · obtain ⟨e, he, rfl⟩ := List.mem_map.1 (h3 id hm)
    exact ⟨e.2, (mget_iff hn).2 he, by rw [h2 e he]; simpa using hm⟩
  · have he := (mget_iff hn).1 hq
    have h := h2 _ he
    rw [ht] at h
    simpa using h.symm
theorem Hit.nil (cs : List Chg) : Hit [] cs [] := ⟨.nil, fun id => by simp [mget]⟩
theorem Hit.none (M : Ix) : Hit M [] [] := ⟨.nil, fun id => by simp⟩
/-- The examples' queries. -/
def sq1 : Qry := ⟨1, 0, 0, 5, 5, 0, 0⟩
def sq2 : Qry := ⟨3, 0, 1, 10, 19, 0, 0⟩
def sq3 : Qry := ⟨4, 0, 1, 10, 19, 2, 0⟩
def sq4 : Qry := ⟨7, 0, 1, 10, 19, 2, 1⟩
def sM : Ix := add (add (add (add [] 1 sq1) 2 sq2) 3 sq3) 4 sq4
theorem sM_eq : sM = [(4, sq4), (3, sq3), (2, sq2), (1, sq1)] := by
  unfold sM
  have e1 : add [] 1 sq1 = [(1, sq1)] := by decide
  rw [e1]
  have e2 : add [(1, sq1)] 2 sq2 = [(2, sq2), (1, sq1)] := by decide
  rw [e2]
  have e3 : add [(2, sq2), (1, sq1)] 3 sq3 = [(3, sq3), (2, sq2), (1, sq1)] := by decide
  rw [e3]
  decide
theorem sM_nd : Nd ([(4, sq4), (3, sq3), (2, sq2), (1, sq1)] : Ix) := by unfold Nd; simp
theorem sane_one : Hit [(4, sq4), (3, sq3), (2, sq2), (1, sq1)] [⟨0, 5, false, 0, 0, 0, true, 12, 7, 0⟩] [1, 2, 3, 4] := Hit.of_check sM_nd (by decide) (by decide) (by decide)
theorem sane_two : Hit [(4, sq4), (3, sq3), (2, sq2), (1, sq1)] [⟨0, 6, true, 12, 0, 0, true, 13, 0, 0⟩] [4] := Hit.of_check sM_nd (by decide) (by decide) (by decide)
theorem sane_three : Hit [(4, sq4), (3, sq3), (2, sq2), (1, sq1)] [⟨0, 6, true, 12, 1, 0, true, 25, 1, 0⟩] [2, 3, 4] := Hit.of_check sM_nd (by decide) (by decide) (by decide)
theorem sane_four : Hit [(4, sq4), (3, sq3), (2, sq2), (1, sq1)] [⟨0, 6, true, 25, 1, 0, false, 0, 0, 0⟩] [] := Hit.of_check sM_nd (by decide) (by decide) (by decide)
end Mm
end Go.Proofs.YtciaallekkdnhaaGreat
namespace Go.Proofs.YtciaallekkdnhaaGreat
open Go.RowKit

theorem okI_zero : okI 0 := okI_mk (by decide) (by decide)
theorem value_okI (r : RowV) (h0 : okI r.k) (h1 : okI r.x) (h2 : okI r.y) (h3 : okI r.z) (k : Int) : okI (r.value k) := by
  unfold RowV.value
  repeat' split
  all_goals first | exact h0 | exact h1 | exact h2 | exact h3 | exact okI_zero
theorem rows_okI {c : Chg} (hk : okI c.k) (a0 : okI c.o0) (a1 : okI c.o1) (a2 : okI c.o2) (b0 : okI c.n0) (b1 : okI c.n1) (b2 : okI c.n2) : ∀ r ∈ Mm.rows c, ∀ k, okI (r.value k) := by
  intro r hr k
  unfold Mm.rows at hr
  rcases List.mem_append.1 hr with hr | hr
  · unfold Pm.bef at hr
    split at hr
    · obtain rfl : r = _ := by simpa using hr
      exact value_okI _ hk a0 a1 a2 k
    · simp at hr
  · unfold Pm.aft at hr
    split at hr
    · obtain rfl : r = _ := by simpa using hr
      exact value_okI _ hk b0 b1 b2 k
    · simp at hr
end Go.Proofs.YtciaallekkdnhaaGreat
namespace Go.Proofs.YtciaallekkdnhaaGreat
open Go.RowKit

namespace Mm
/-- The queries qs have the numbers 0, 1, 2 .. -/
structure Ixq (M : Ix) (qs : List Qry) : Prop where
  get : ∀ k : Nat, mget M (k : Int) = qs[k]?
  neg : ∀ id : Int, id < 0 → mget M id = none
  len : M.length = qs.length
  valid : ∀ q ∈ qs, Em.valid q = true
theorem Ixq.nil : Ixq [] [] := ⟨fun k => by simp [mget], fun id _ => rfl, rfl, by simp⟩
theorem Ixq.snoc {M : Ix} {qs : List Qry} {q : Qry} (h : Ixq M qs) (hn : Nd M) (hl : qs.length < 500) (hv : Em.valid q = true) : code M (qs.length : Int) q = 0 ∧ Ixq (add M (qs.length : Int) q) (qs ++ [q]) := by
  have hg : mget M (qs.length : Int) = none := by rw [h.get]; simp
  have hc : code M (qs.length : Int) q = 0 := code_zero.2 ⟨hg, hv, by rw [h.len]; exact hl⟩
  refine ⟨hc, ?_⟩
  unfold add
  rw [if_pos hc]
  refine ⟨fun k => ?_, fun id hid => ?_, ?_, fun x hx => ?_⟩
  · by_cases e : k = qs.length
    · subst e
      rw [mget_put_same]
      simp
    · rw [mget_put_other (by omega), h.get]
      by_cases hk : k < qs.length
      · rw [List.getElem?_append_left hk]
      · rw [List.getElem?_eq_none (by omega), List.getElem?_eq_none (by simp; omega)]
  · rw [mget_put_other (by omega)]
    exact h.neg id hid
  · rw [length_mput hn, hg, h.len]
    simp
  · rcases List.mem_append.1 hx with hx | hx
    · exact h.valid x hx
    · obtain rfl : x = q := by simpa using hx
      exact hv
/-- The touched ones of the first k. -/
def hits (qs : List Qry) (cs : List Chg) : Nat → List Int
  | 0 => []
  | k + 1 => hits qs cs k ++ (match qs[k]? with | some q => if cs.any (Pm.touches q) = true then [(k : Int)] else [] | none => [])
theorem hits_pos {qs : List Qry} {cs : List Chg} {k : Nat} (hk : k < qs.length) (ht : cs.any (Pm.touches qs[k]) = true) : hits qs cs (k + 1) = hits qs cs k ++ [(k : Int)] := by
  rw [hits, List.getElem?_eq_getElem hk]
  dsimp only
  rw [if_pos ht]
theorem hits_neg {qs : List Qry} {cs : List Chg} {k : Nat} (hk : k < qs.length) (ht : cs.any (Pm.touches qs[k]) = false) : hits qs cs (k + 1) = hits qs cs k := by
  rw [hits, List.getElem?_eq_getElem hk]
  dsimp only
  rw [if_neg (by rw [ht]; decide), List.append_nil]
theorem hits_mem {qs : List Qry} {cs : List Chg} {id : Int} : ∀ {n : Nat}, n ≤ qs.length → (id ∈ hits qs cs n ↔ ∃ (k : Nat) (h : k < qs.length), k < n ∧ id = k ∧ cs.any (Pm.touches qs[k]) = true)
  | 0, _ => by simp [hits]
  | n + 1, hn => by
    have ih := hits_mem (qs := qs) (cs := cs) (id := id) (n := n) (by omega)
    have hnl : n < qs.length := by omega
    cases ht : cs.any (Pm.touches qs[n]) with
    | true =>
      rw [hits_pos hnl ht, List.mem_append, ih, List.mem_singleton]
      refine ⟨?_, fun ⟨k, h, h1, h2, h3⟩ => ?_⟩
      · rintro (⟨k, h, h1, h2, h3⟩ | h)
        · exact ⟨k, h, by omega, h2, h3⟩
        · exact ⟨n, hnl, by omega, h, ht⟩
      · by_cases e : k = n
        · subst e
          exact .inr h2
        · exact .inl ⟨k, h, by omega, h2, h3⟩
    | false =>
      rw [hits_neg hnl ht, ih]
      refine ⟨fun ⟨k, h, h1, h2, h3⟩ => ⟨k, h, by omega, h2, h3⟩, fun ⟨k, h, h1, h2, h3⟩ => ⟨k, h, ?_, h2, h3⟩⟩
      by_cases e : k = n
      · subst e
        rw [ht] at h3
        cases h3
      · omega
theorem hits_asc {qs : List Qry} {cs : List Chg} : ∀ {n : Nat}, n ≤ qs.length → (hits qs cs n).Pairwise (· < ·)
  | 0, _ => List.Pairwise.nil
  | n + 1, hn => by
    have ih := hits_asc (qs := qs) (cs := cs) (n := n) (by omega)
    have hnl : n < qs.length := by omega
    cases ht : cs.any (Pm.touches qs[n]) with
    | true =>
      rw [hits_pos hnl ht]
      refine List.pairwise_append.2 ⟨ih, by simp, fun x hx y hy => ?_⟩
      obtain ⟨k, -, h1, h2, -⟩ := (hits_mem (by omega)).1 hx
      obtain rfl : y = n := by simpa using hy
      omega
    | false =>
      rw [hits_neg hnl ht]
      exact ih
theorem Hit.eq {M : Ix} {qs : List Qry} {cs : List Chg} {zs : List Int} (h : Ixq M qs) (hz : Hit M cs zs) : zs = hits qs cs qs.length := by
  refine asc_uniq hz.asc (hits_asc (Nat.le_refl _)) (fun id => ?_)
  rw [hz.mem, hits_mem (Nat.le_refl _)]
  refine ⟨fun ⟨q, h1, h2⟩ => ?_, fun ⟨k, hk, _, h2, h3⟩ => ⟨qs[k], by rw [h2, h.get, List.getElem?_eq_getElem hk], h3⟩⟩
  rcases Int.lt_or_le id 0 with h0 | h0
  · rw [h.neg id h0] at h1
    cases h1
  · obtain ⟨k, rfl⟩ := Int.eq_ofNat_of_zero_le h0
    rw [h.get] at h1
    obtain ⟨hk, h4⟩ := List.getElem?_eq_some_iff.1 h1
    exact ⟨k, hk, hk, rfl, by rw [h4]; exact h2⟩
theorem hits_pre {qs : List Qry} {cs : List Chg} {k : Nat} : ∀ {n : Nat}, k ≤ n → ∃ t, hits qs cs n = hits qs cs k ++ t
  | 0, h => by
    obtain rfl : k = 0 := Nat.le_zero.1 h
    exact ⟨[], rfl⟩
  | n + 1, h => by
    by_cases e : k = n + 1
    · subst e
      exact ⟨[], by simp⟩
    · obtain ⟨t, ht⟩ := hits_pre (qs := qs) (cs := cs) (k := k) (n := n) (by omega)
      rw [hits, ht]
      exact ⟨_, List.append_assoc _ _ _⟩
/-- The next of the match, where the query is touched. -/
theorem next_hit {qs : List Qry} {cs : List Chg} {zs : List Int} (hz : zs = hits qs cs qs.length) {k : Nat} (hk : k < qs.length) (ht : cs.any (Pm.touches qs[k]) = true) : ∃ h : (hits qs cs k).length < zs.length, zs[(hits qs cs k).length] = (k : Int) ∧ (hits qs cs (k + 1)).length = (hits qs cs k).length + 1 := by
  obtain ⟨t, e⟩ := hits_pre (qs := qs) (cs := cs) (k := k + 1) (n := qs.length) hk
  rw [hits_pos hk ht] at e
  subst hz
  have hl : (hits qs cs k).length < (hits qs cs qs.length).length := by
    rw [e, List.length_append, List.length_append, List.length_singleton]
    omega
  refine ⟨hl, ?_, by rw [hits_pos hk ht, List.length_append]; rfl⟩
  have h1 : (hits qs cs qs.length)[(hits qs cs k).length]? = some (k : Int) := by
    rw [e, List.append_assoc, List.getElem?_append_right (Nat.le_refl _)]
    simp
  exact (List.getElem?_eq_some_iff.1 h1).2
/-- And where it is not. -/
theorem next_miss {qs : List Qry} {cs : List Chg} {zs : List Int} (hz : zs = hits qs cs qs.length) {k : Nat} (hk : k < qs.length) (ht : cs.any (Pm.touches qs[k]) = false) : (hits qs cs (k + 1)).length = (hits qs cs k).length ∧ ∀ i (h : i < zs.length), zs[i] ≠ (k : Int) := by
  refine ⟨by rw [hits_neg hk ht], fun i h e => ?_⟩
  subst hz
  have h1 := List.getElem_mem h
  rw [e] at h1
  obtain ⟨k', hk', -, h2, h3⟩ := (hits_mem (Nat.le_refl _)).1 h1
  obtain rfl : k = k' := by omega
  rw [ht] at h3
  cases h3
theorem hits_le {qs : List Qry} {cs : List Chg} {zs : List Int} (hz : zs = hits qs cs qs.length) {k : Nat} (hk : k ≤ qs.length) : (hits qs cs k).length ≤ zs.length := by
  obtain ⟨t, e⟩ := hits_pre (qs := qs) (cs := cs) (k := k) (n := qs.length) hk
  subst hz
  rw [e]
  simp
theorem hits_len {qs : List Qry} {cs : List Chg} : ∀ k : Nat, (hits qs cs k).length ≤ k
  | 0 => Nat.le_refl _
  | k + 1 => by
    have := hits_len (qs := qs) (cs := cs) k
    rw [hits, List.length_append]
    split
    · split <;> simp <;> omega
    · simp; omega
/-- Every number of a match is one of the queries'. -/
theorem hits_range {qs : List Qry} {cs : List Chg} {zs : List Int} (hz : zs = hits qs cs qs.length) {x : Int} (hx : x ∈ zs) : ∃ (k : Nat) (h : k < qs.length), x = k ∧ cs.any (Pm.touches qs[k]) = true := by
  subst hz
  obtain ⟨k, h, -, h2, h3⟩ := (hits_mem (Nat.le_refl _)).1 hx
  exact ⟨k, h, h2, h3⟩
end Mm
end Go.Proofs.YtciaallekkdnhaaGreat

/-
  'append' onto a slice that has no room: the result is a row of the call's own.
-/
import Derived.Test.YthiaaminkfkjpaaGreatGab
import Derived.Test.YthiaaminkfkjpaaGreatGaa
import Derived.Deep.AppendSrc
namespace Go.Proofs.YthiaaminkfkjpaaGreat

/-- A row. -/
structure RowV where
  t : Int
  k : Int
  x : Int
  y : Int
  z : Int
  deriving DecidableEq
@[reducible] def RowV.val (r : RowV) : Value := .agg #[.int .i64 r.t, .int .i64 r.k, .int .i64 r.x, .int .i64 r.y, .int .i64 r.z]
/-- What identifies a row: integers that fit. -/
abbrev IdK := { x : Int × Int // okI x.1 ∧ okI x.2 }
@[reducible] def IdK.val (x : IdK) : Value := .agg #[.int .i64 x.1.1, .int .i64 x.1.2]

instance (x : Int) : Decidable (okI x) := inferInstanceAs (Decidable ((Lit.int .i64 x).wf = true))
/-- The key that a change is about. -/
def idOf (t k : Int) : IdK := if h : okI t ∧ okI k then ⟨(t, k), h⟩ else ⟨(0, 0), okI_mk (by decide) (by decide), okI_mk (by decide) (by decide)⟩
theorem idOf_val {t k : Int} (h1 : okI t) (h2 : okI k) : (idOf t k).1 = (t, k) := by
  unfold idOf
  rw [dif_pos ⟨h1, h2⟩]

namespace Sm
structure Sta where
  M : List (IdK × RowV)
  pos : Int

def new : Sta := ⟨[], 0⟩
/-- Whether a change meets what is there. -/
def meets (M : List (IdK × RowV)) (c : Chg) : Bool := match mget M (idOf c.t c.k) with
  | some r => c.had && decide (r.x = c.o0 ∧ r.y = c.o1 ∧ r.z = c.o2)
  | none => !c.had
def grow (n : Int) (c : Chg) : Int := (if c.had = true then n - 1 else n) + (if c.has = true then 1 else 0)
def after (c : Chg) : RowV := ⟨c.t, c.k, c.n0, c.n1, c.n2⟩
def put1 (M : List (IdK × RowV)) (c : Chg) : List (IdK × RowV) := if c.has = true then mput M (idOf c.t c.k) (after c) else mdel M (idOf c.t c.k)
/-- The changes' part of 'fits', from a size on. -/
def fitsGo (M : List (IdK × RowV)) (n : Int) : List Chg → Bool
  | [] => decide (n ≤ 2000)
  | c :: cs => meets M c && fitsGo M (grow n c) cs
def fits (s : Sta) (r : Rec) : Bool := Rw.valid r && decide (r.p = s.pos + 1) && fitsGo s.M s.M.length r.cs
def apply (s : Sta) (r : Rec) : Sta := if fits s r = true then ⟨r.cs.foldl put1 s.M, r.p⟩ else s
def code (s : Sta) (r : Rec) : Int := if fits s r = true then 0 else 40
/-- What a state keeps to. -/
structure Ok (s : Sta) : Prop where
  p0 : 0 ≤ s.pos
  p1 : s.pos ≤ 10000
  nd : Nd s.M
  key : ∀ e ∈ s.M, e.1.1 = (e.2.t, e.2.k)
  len : s.M.length ≤ 2000
end Sm
end Go.Proofs.YthiaaminkfkjpaaGreat
namespace Go.Proofs.YthiaaminkfkjpaaGreat
open Go.RowKit

section
variable {P : Program} (w : World)
theorem run_append_full (t ty e : TypeId) (i : TypeInfo) (z : Value) (size bytes : Nat) (ht : P.underlying t = some (.slice e)) (hi : P.info? e = some i) (hz : i.zero = some z)
    (hsize : i.size = size) (hby : i.bytes = bytes) (hzs : z.cells.size = size)
    (B0 : Nat) (A0 : Option Addr) (n m sc : Nat) (xs : List Value) (h0 : Reads w B0 size A0 n xs) (hm : 0 < m) (hscn : sc ≤ n)
    (B : Nat) (A : Option Addr) (c : Nat) (news : List Value) (hr : Reads w B size A m news) (h1 : ∀ u ∈ news, u.oneCell' = true) (h63 : n + m ≤ maxLen) (hbytes : (n + m) * bytes ≤ 140737488355328) :
    ∃ v' w', (Builtin.append_ #[t, t] ty #[.slice A0 n sc, .slice A m c]).run P w = .ok v' w' ∧ w'.ownsRow 0 e size v' (n + m) (xs ++ news) ∧ w.grownBy w' none ∧ v'.ownBlock = some w.heap.size := by
  subst hsize
  subst hby

  obtain ⟨ad, rfl, hab, hac⟩ := hr.2 hm
  have hs : Src P i.size t (.slice (some ad) m c) m news w := Src.ofSlice w ht ad m c news hr.1 hac h1
  have hold : (Builtin.firstCells i.size n (.slice A0 n sc)).run P w.drew = .ok xs.toArray w.drew := by
    rcases A0 with _ | b
    · have hn : n = 0 := by
        rcases Nat.eq_zero_or_pos n with h2 | h2
        · exact h2
        · obtain ⟨ad', h, _⟩ := h0.2 h2
          cases h
      subst hn
      have hx : xs = [] := List.eq_nil_of_length_eq_zero (by simpa using h0.1)
      subst hx
      exact run_firstCells_none w.drew i.size 0 0 sc
    · refine run_firstCells_some w.drew i.size n b n sc xs h0.1 (fun j u hu => ?_)
      rcases Nat.eq_zero_or_pos n with h2 | h2
      · subst h2
        have hx : xs = [] := List.eq_nil_of_length_eq_zero (by simpa using h0.1)
        subst hx
        simp at hu
      · obtain ⟨b', e1, _, e2⟩ := h0.2 h2
        cases e1
        exact e2 j u hu
  have hrun := run_append_grow_src (P := P) w t t ty e i z ht hi hz A0 n sc xs hold _ m news hs (by omega) (by simp only [maxLen] at h63; omega) (growslice_fits (by omega) hbytes)
  refine ⟨_, _, hrun, ⟨by rw [List.length_append, h0.1, hr.1, Nat.add_mul], .inr ⟨w.heap.size, _, _, rfl, Nat.zero_le _, heap_alloc_new w.drew _, grownCap_ge w (n + m) sc e, grownCap_le_maxLen w (n + m) sc e h63, ?_, ?_⟩⟩, ⟨rfl, rfl, rfl, by simp, fun k hk _ => (Below.heap_alloc w.drew _ k hk)⟩, rfl⟩
  · have hge := grownCap_ge w (n + m) sc e
    simp only [Array.size_append, List.size_toArray, List.length_append, size_zeroCells, hzs, h0.1, hr.1, ← Nat.add_mul]
    congr 1
    omega
  · simp only [Array.toList_append]
    have hlen : (xs ++ news).length = (n + m) * i.size := by rw [List.length_append, h0.1, hr.1, Nat.add_mul]
    rw [← hlen]
    exact List.take_left
end

section
variable {X : Type} {P : Program} {t e size bytes : Nat} {i0 : TypeInfo} {z : Value} {enc : X → List Value} {w w' : World} {L : List X}
theorem wp_append_fullL {o : Oper} {a : Act} {K : Act → World → Prop} {Q : Exit → Act → World → Prop} (s x : Operand)
    (ho : o.op = .call { callee := .builtin .append, args := #[s, x], argTypes := #[t, t] }) (T : ET P t e size bytes i0 z) (h1 : ∀ x, ∀ u ∈ enc x, u.oneCell' = true)
    (B0 : Nat) (A0 : Option Addr) (n sc : Nat) (hs : a.eval s = .slice A0 n sc) (hn : n = L.length) (h0 : Reads w B0 size A0 n (L.flatMap enc)) (hscn : sc ≤ n)
    (B : Nat) (A : Option Addr) (m c : Nat) (N : List X) (hx : a.eval x = .slice A m c) (hm : m = N.length) (hpos : 0 < m) (hr : Reads w B size A m (N.flatMap enc))
    (h63 : L.length + N.length ≤ maxLen) (hbytes : (L.length + N.length) * bytes ≤ 140737488355328)
    (h : ∀ v' w', OwnL e size enc w' v' (L ++ N) → w.grownBy w' none → v'.ownBlock = some w.heap.size → K (a.put o.dst v') w') : o.wp P a w K Q := by
  subst hm
  subst hn
  obtain ⟨v', w', hrun, h2, h3, h4⟩ := run_append_full (P := P) w t o.type e i0 z size bytes T.ht T.hi T.hz T.hs T.hb T.hzs B0 A0 L.length N.length sc (L.flatMap enc) h0 hpos hscn B A c (N.flatMap enc) hr (fun u hu => by
    obtain ⟨y, hy, hu'⟩ := List.mem_flatMap.1 hu
    exact h1 y u hu') h63 hbytes
  unfold Oper.wp execOp
  simp only [ho, resolve, invoke, builtin, Sem.run_bind, Sem.run_pure, Result.andThen_ok, List.map_toArray, List.map_cons, List.map_nil, hs, hx, hrun]
  refine h v' w' ?_ h3 h4
  unfold OwnL
  rw [List.length_append, List.flatMap_append]
  exact h2
theorem wpList_append_fullL {ops : Array Oper} {rest : List Oper} {o : Oper} {a : Act} {Q : Exit → Act → World → Prop} (hgd : o.guard = none) (s x : Operand)
    (ho : o.op = .call { callee := .builtin .append, args := #[s, x], argTypes := #[t, t] }) (T : ET P t e size bytes i0 z) (h1 : ∀ x, ∀ u ∈ enc x, u.oneCell' = true)
    (B0 : Nat) (A0 : Option Addr) (n sc : Nat) (hs : a.eval s = .slice A0 n sc) (hn : n = L.length) (h0 : Reads w B0 size A0 n (L.flatMap enc)) (hscn : sc ≤ n)
    (B : Nat) (A : Option Addr) (m c : Nat) (N : List X) (hx : a.eval x = .slice A m c) (hm : m = N.length) (hpos : 0 < m) (hr : Reads w B size A m (N.flatMap enc))
    (h63 : L.length + N.length ≤ maxLen) (hbytes : (L.length + N.length) * bytes ≤ 140737488355328)
    (h : ∀ v' w', OwnL e size enc w' v' (L ++ N) → w.grownBy w' none → v'.ownBlock = some w.heap.size → wpList P ops Q rest (a.put o.dst v') w') : wpList P ops Q (o :: rest) a w :=
  wpList_plain hgd fun _ hK => wp_append_fullL s x ho T h1 B0 A0 n sc hs hn h0 hscn B A m c N hx hm hpos hr h63 hbytes fun v' w' h2 h3 h4 => hK _ _ (h v' w' h2 h3 h4)
theorem step_append_fullL {ops : Array Oper} {o : Oper} {a : Act} {K : Act → World → Prop} {Q : Exit → Act → World → Prop} {E : Prop} (hgd : o.guard = none) (s x : Operand)
    (ho : o.op = .call { callee := .builtin .append, args := #[s, x], argTypes := #[t, t] }) (T : ET P t e size bytes i0 z) (h1 : ∀ x, ∀ u ∈ enc x, u.oneCell' = true)
    (B0 : Nat) (A0 : Option Addr) (n sc : Nat) (hs : a.eval s = .slice A0 n sc) (hn : n = L.length) (h0 : Reads w B0 size A0 n (L.flatMap enc)) (hscn : sc ≤ n)
    (B : Nat) (A : Option Addr) (m c : Nat) (N : List X) (hx : a.eval x = .slice A m c) (hm : m = N.length) (hpos : 0 < m) (hr : Reads w B size A m (N.flatMap enc))
    (h63 : L.length + N.length ≤ maxLen) (hbytes : (L.length + N.length) * bytes ≤ 140737488355328)
    (h : ∀ v' w', OwnL e size enc w' v' (L ++ N) → w.grownBy w' none → v'.ownBlock = some w.heap.size → K (a.put o.dst v') w') : if Region.wanted o (yielded ops a.tmps) = true then Oper.wp P o a w K Q else E := by
  rw [if_pos (by simp [Region.wanted, hgd])]
  exact wp_append_fullL s x ho T h1 B0 A0 n sc hs hn h0 hscn B A m c N hx hm hpos hr h63 hbytes h
/-- A block of one element, just laid, as a row of its own. -/
theorem own_new (w : World) (x : X) (henc : ∀ x, (enc x).length = size) : OwnL e size enc (w.alloc (.cells (enc x).toArray e)) (.slice (some ⟨w.heap.size, 0, none⟩) 1 1) [x] := by
  refine ⟨by simp [henc], .inr ⟨w.heap.size, 1, (enc x).toArray, rfl, Nat.zero_le _, heap_alloc_new w _, Nat.le_refl _, by decide, by simp [henc], ?_⟩⟩
  simp only [List.flatMap_cons, List.flatMap_nil, List.append_nil]
  exact List.take_of_length_le (by simp [henc])
end
theorem own_cap2 {X : Type} {e size : Nat} {enc : X → List Value} {w : World} {A : Option Addr} {cap : Nat} {L : List X} (h : OwnL e size enc w (.slice A L.length cap) L) : L.length ≤ cap := by
  rcases h.2 with ⟨hv, h0⟩ | ⟨g, c, cur, hv, _, _, hnc, _⟩
  · omega
  · cases hv
    exact hnc
theorem own_open {X : Type} {e size : Nat} {enc : X → List Value} {w : World} {v : Value} {L : List X} (h : OwnL e size enc w v L) (h0 : 0 < L.length) : ∃ A n cap, v = .slice A n cap ∧ n = L.length ∧ Reads w w.heap.size size A n (L.flatMap enc) ∧ 0 < n := by
  obtain ⟨A, cap, hv⟩ := h.val
  exact ⟨A, L.length, cap, hv, rfl, h.reads hv, h0⟩
end Go.Proofs.YthiaaminkfkjpaaGreat

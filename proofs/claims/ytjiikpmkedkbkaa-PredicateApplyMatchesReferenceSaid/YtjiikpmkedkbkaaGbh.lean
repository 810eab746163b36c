/-
  A result in memory, and Apply on it (for the seat without a store).
-/
import Derived.Test.YtjiikpmkedkbkaaGbg
namespace Go.Proofs.Ytjiikpmkedkbkaa
open Go.RowKit
/-- A result in memory. -/
structure RvAt (wr : World) (g : Nat) (A : Option Addr) (n c : Nat) (r : Res) : Prop where
  blk : R7At wr g (.slice A n c) r.value r.found
  rows : AtL RowV.cells 5 wr A r.rows
  len : n = r.rows.length
theorem RvAt.fr0 {w w' : World} {g : Nat} {A : Option Addr} {n c : Nat} {r : Res} (h : RvAt w g A n c r) (hf : Fr [] w w') : RvAt w' g A n c r :=
  ⟨h.blk.fr hf (by simp), h.rows.fr0 hf, h.len⟩
/-- What Apply gives. -/
def AOut (J : Option (Res × Bool)) (r : Res) (t k : Bool) : Prop := (k = true ∧ J = some (r, t)) ∨ (k = false ∧ J = none ∧ t = true ∧ r = ⟨[], 0, false⟩)
/-- A result that Apply has laid. -/
structure ApAt (w w' : World) (J : Option (Res × Bool)) (A : Option Addr) (n : Nat) (r : Res) (t k : Bool) (b : Nat) : Prop where
  out : AOut J r t k
  rows : AtL RowV.cells 5 w' A r.rows
  len : n = r.rows.length
  le : n ≤ b
  fr : Fr [] w w'
theorem RvAt.ofA {w0 wr : World} {J : Option (Res × Bool)} {A : Option Addr} {n c b : Nat} {r : Res} {t k : Bool} (h : ApAt w0 wr J A n r t k b) : RvAt (wr.alloc (.cells #[.slice A n c, .int .i64 r.value, .bool r.found] 27)) wr.heap.size A n c r :=
  ⟨R7At.new wr _ _ _, h.rows.fr0 ((Fr.refl [] wr).alloc _), h.len⟩
/-- The box was laid ahead of the call. -/
theorem RvAt.ofB {w0 wz : World} {J : Option (Res × Bool)} {A : Option Addr} {n c b g : Nat} {r : Res} {t k : Bool} {v : Value} {m : Int} {f : Bool} (h : ApAt w0 wz J A n r t k b) (hb : Blk wz g 27 #[v, .int .i64 m, .bool f]) :
    RvAt (((wz.setCell ⟨g, 0, none⟩ (.slice A n c)).setCell ⟨g, 1, none⟩ (.int .i64 r.value)).setCell ⟨g, 2, none⟩ (.bool r.found)) g A n c r ∧ Fr [g] wz (((wz.setCell ⟨g, 0, none⟩ (.slice A n c)).setCell ⟨g, 1, none⟩ (.int .i64 r.value)).setCell ⟨g, 2, none⟩ (.bool r.found)) := by
  obtain ⟨h1, h2⟩ := set3 (v' := .slice A n c) (m' := r.value) (f' := r.found) hb
  exact ⟨⟨h1, h.rows.ne_small hb (by simp) h2, h.len⟩, h2⟩
theorem apply_rv {w : World} {g : Nat} {A : Option Addr} {n c : Nat} {r : Res} {q : Qry} (hok : okI q.kind) (h : RvAt w g A n c r) (hl : r.rows.length ≤ 5000) (hb : -1000000000000000000 ≤ r.value ∧ r.value ≤ 1000000000000000000) {Ak : Option Addr} {nk ck : Nat} {p : Int} {cs : List Chg} (hc : ChgsAt w Ak cs) (hk : nk ≤ 8) (hn : nk = cs.length) :
    Calls Try.prog 18 #[q.val, .agg #[.slice A n c, .int .i64 r.value, .bool r.found], .agg #[.int .i64 p, .slice Ak nk ck]] w fun e w' => ∃ (r' : Res) (A' : Option Addr) (n' c' : Nat) (t k : Bool), e = .returned (.tuple #[.agg #[.slice A' n' c', .int .i64 r'.value, .bool r'.found], .bool t, .bool k]) ∧ ApAt w w' (Pm.apply q r cs) A' n' r' t k (n + 2 * nk) := by
  refine (apply_any q hok A n c r.value r.found r.rows p Ak nk ck cs w h.rows h.len (by rw [h.len]; omega) (by omega) (by omega) hc hn).mono ?_
  rintro e w' ⟨A', n', c', m', f', t, k, he, h1, h2, h3⟩
  cases k with
  | true =>
    obtain ⟨L', e1, e2, e3, e4⟩ := h1 rfl
    exact ⟨⟨L', m', f'⟩, A', n', c', t, true, he, .inl ⟨rfl, e1⟩, e2, e3, e4, h3⟩
  | false =>
    obtain ⟨e1, e2, e3, e4, e5, e6⟩ := h2 rfl
    subst e2 e3 e4 e5 e6
    exact ⟨⟨[], 0, false⟩, none, 0, c', true, false, he, .inr ⟨rfl, e1, rfl, rfl⟩, fun h => absurd h (by simp), rfl, Nat.zero_le _, h3⟩
namespace Pm
theorem go_any {q : Qry} : ∀ (cs : List Chg) (r : Res) (t : Bool) (x : Res × Bool), go q cs r t = some x → x.2 = (t || cs.any (touches q))
  | [], r, t, x, h => by
    injection h with h
    subst h
    simp
  | c :: cs, r, t, x, h => by
    have e : go q (c :: cs) r t = match patch q r c with
      | none => none
      | some r' => go q cs r' (t || touches q c) := rfl
    rw [e] at h
    cases hp : patch q r c with
    | none => rw [hp] at h; cases h
    | some r' =>
      rw [hp] at h
      rw [go_any cs r' _ x h, List.any_cons, Bool.or_assoc]
theorem go_none' {q : Qry} : ∀ (cs : List Chg) (r : Res) (t : Bool), go q cs r t = none → cs.any (touches q) = true
  | [], _, _, h => by cases h
  | c :: cs, r, t, h => by
    unfold go at h
    rw [List.any_cons]
    cases hp : patch q r c with
    | none =>
      unfold patch at hp
      split at hp
      · rename_i ht
        rw [ht]
        rfl
      · cases hp
    | some r' =>
      rw [hp] at h
      rw [go_none' cs _ _ h, Bool.or_true]
theorem any_drop {X : Type} (p : X → Bool) {l : List X} {i : Nat} (h : i < l.length) : (l.drop i).any p = ((l.drop (i + 1)).any p || p l[i]) := by
  rw [List.drop_eq_getElem_cons h, List.any_cons, Bool.or_comm]
end Pm
theorem AOut.touched {q : Qry} {R : Res} {cs : List Chg} {r : Res} {t k : Bool} (h : AOut (Pm.apply q R cs) r t k) : t = cs.any (Pm.touches q) ∧ (t = false → k = true) := by
  unfold Pm.apply at h
  rcases h with ⟨rfl, e⟩ | ⟨rfl, e, rfl, -⟩
  · have h1 := Pm.go_any _ _ _ _ e
    exact ⟨by simpa using h1, fun _ => rfl⟩
  · exact ⟨(Pm.go_none' _ _ _ e).symm, fun h => (by cases h)⟩
end Go.Proofs.Ytjiikpmkedkbkaa

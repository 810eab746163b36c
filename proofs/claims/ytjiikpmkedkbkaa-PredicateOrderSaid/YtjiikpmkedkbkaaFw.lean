/-
  A result in memory, and Apply on it (for the seat without a store).
-/
import Derived.Test.YtjiikpmkedkbkaaFl
import Derived.Test.YtjiikpmkedkbkaaFs
import Derived.Test.YtjiikpmkedkbkaaFq
import Derived.Test.YtjiikpmkedkbkaaFc
import Derived.Test.YtjiikpmkedkbkaaFe
import Derived.Test.YtjiikpmkedkbkaaFn
namespace Go.Proofs.Ytjiikpmkedkbkaa
open Go.RowKit

/-- Records at an address. -/
def RecsAt (w : World) (A : Option Addr) (l : List Rec) : Prop := ∃ us : List WRec, AtL WRec.cells 2 w A us ∧ us.map (·.r) = l ∧ ∀ u ∈ us, HoldsC w u.A u.r.cs ∧ u.r.cs.length ≤ 8
theorem OwnR.recs {w : World} {A : Option Addr} {n cap : Nat} {out : List Rec} (h : OwnR w (.slice A n cap) out) : RecsAt w A out ∧ n = out.length := by
  obtain ⟨us, h1, h2, h3⟩ := h
  obtain ⟨h4, h5⟩ := h1.at1 WRec.len
  exact ⟨⟨us, h4, h2, h3⟩, by rw [← h2, List.length_map]; exact h5⟩
/-- None of the blocks in S holds records. -/
def NoR (w : World) (S : List Nat) : Prop := ∀ s ∈ S, ∀ arr fz, w.heap[s]? ≠ some (.cells arr 38 fz)

end Go.Proofs.Ytjiikpmkedkbkaa
namespace Go.Proofs.Ytjiikpmkedkbkaa
namespace Lg

theorem run_ok (l : List Rec) : Sm.Ok (run l) := by
  have key : ∀ (l : List Rec) (s : Sm.Sta), Sm.Ok s → Sm.Ok (l.foldl Sm.apply s) := by
    intro l
    induction l with
    | nil => exact fun s h => h
    | cons r l ih => exact fun s h => ih _ (h.applied r)
  exact key l _ Sm.ok_new
theorem run_succ (l : List Rec) {i : Nat} (hi : i < l.length) : run (l.take (i + 1)) = Sm.apply (run (l.take i)) l[i] := by
  rw [List.take_succ_eq_append_getElem hi, run_snoc]
theorem fits_pos {s : Sm.Sta} {r : Rec} (h : Sm.fits s r = true) : r.p = s.pos + 1 ∧ Sm.apply s r = ⟨r.cs.foldl Sm.put1 s.M, r.p⟩ := by
  refine ⟨?_, by unfold Sm.apply; rw [if_pos h]⟩
  simp only [Sm.fits, Bool.and_eq_true, decide_eq_true_eq] at h
  exact h.1.2
theorem Ok.pos {l : List Rec} (h : Ok l) : ∀ i, i ≤ l.length → (run (l.take i)).pos = i
  | 0, _ => rfl
  | i + 1, hi => by
    have hf := h.fits i (by omega)
    obtain ⟨h1, h2⟩ := fits_pos hf
    rw [run_succ l (by omega), h2]
    dsimp only
    rw [h1, h.pos i (by omega)]
    omega
theorem Ok.at_ {l : List Rec} (h : Ok l) {i : Nat} (hi : i < l.length) : l[i].p = i + 1 := by
  rw [(fits_pos (h.fits i hi)).1, h.pos i (by omega)]
theorem Ok.valid {l : List Rec} (h : Ok l) {i : Nat} (hi : i < l.length) : Rw.valid l[i] = true := by
  have hf := h.fits i hi
  simp only [Sm.fits, Bool.and_eq_true, decide_eq_true_eq] at hf
  exact hf.1.1
theorem run_all (l : List Rec) : run (l.take l.length) = run l := by rw [List.take_length]
end Lg
theorem OwnR.cap {w : World} {A : Option Addr} {cap : Nat} {out : List Rec} (h : OwnR w (.slice A out.length cap) out) : out.length ≤ cap := by
  obtain ⟨us, h1, h2, _⟩ := h
  have hl : out.length = us.length := by rw [← h2, List.length_map]
  rw [hl] at h1 ⊢
  exact own_cap2 h1
theorem RecsAt.open_ {w : World} {A : Option Addr} {l : List Rec} (h : RecsAt w A l) {k : Nat} (hk : k < l.length) :
    ∃ bb off Ak ck, A = some ⟨bb, off, none⟩ ∧ bb < w.heap.size ∧ w.cell? ⟨bb, off + k * 2, none⟩ = some (.int .i64 l[k].p) ∧ w.cell? ⟨bb, off + k * 2 + 1, none⟩ = some (.slice Ak l[k].cs.length ck) ∧ HoldsC w Ak l[k].cs ∧ l[k].cs.length ≤ 8 := by
  obtain ⟨us, hat, hus, hhc⟩ := h
  subst hus
  have hku : k < us.length := by simpa using hk
  obtain ⟨bb, off, e, hbb, hc⟩ := hat (by omega)
  obtain ⟨h1, h2⟩ := hhc us[k] (List.getElem_mem hku)
  have e1 : (us.map (·.r))[k]'hk = us[k].r := by simp
  rw [e1]
  exact ⟨bb, off, us[k].A, us[k].cap, e, hbb, hc k hku 0 (by decide), hc k hku 1 (by decide), h1, h2⟩
end Go.Proofs.Ytjiikpmkedkbkaa
namespace Go.Proofs.Ytjiikpmkedkbkaa
open Go.RowKit
/-- A result in memory. -/
structure RvAt (wr : World) (g : Nat) (A : Option Addr) (n c : Nat) (r : Res) : Prop where
  blk : R7At wr g (.slice A n c) r.value r.found
  rows : AtL RowV.cells 5 wr A r.rows
  len : n = r.rows.length
theorem RvAt.fr0 {w w' : World} {g : Nat} {A : Option Addr} {n c : Nat} {r : Res} (h : RvAt w g A n c r) (hf : Fr [] w w') : RvAt w' g A n c r :=
  ⟨h.blk.fr hf (by simp), h.rows.fr0 hf, h.len⟩
/-- What Apply gives. -/
def AOut (J : Option (Res × Bool)) (r : Res) (t k : Bool) : Prop := (k = true ∧ J = some (r, t)) ∨ (k = false ∧ J = none ∧ t = true ∧ r = ⟨[], 0, false⟩)
/-- A result that Apply has laid. -/
structure ApAt (w w' : World) (J : Option (Res × Bool)) (A : Option Addr) (n : Nat) (r : Res) (t k : Bool) (b : Nat) : Prop where
  out : AOut J r t k
  rows : AtL RowV.cells 5 w' A r.rows
  len : n = r.rows.length
  le : n ≤ b
  fr : Fr [] w w'
theorem RvAt.ofA {w0 wr : World} {J : Option (Res × Bool)} {A : Option Addr} {n c b : Nat} {r : Res} {t k : Bool} (h : ApAt w0 wr J A n r t k b) : RvAt (wr.alloc (.cells #[.slice A n c, .int .i64 r.value, .bool r.found] 27)) wr.heap.size A n c r :=
  ⟨R7At.new wr _ _ _, h.rows.fr0 ((Fr.refl [] wr).alloc _), h.len⟩
/-- The box was laid ahead of the call. -/
theorem RvAt.ofB {w0 wz : World} {J : Option (Res × Bool)} {A : Option Addr} {n c b g : Nat} {r : Res} {t k : Bool} {v : Value} {m : Int} {f : Bool} (h : ApAt w0 wz J A n r t k b) (hb : Blk wz g 27 #[v, .int .i64 m, .bool f]) :
    RvAt (((wz.setCell ⟨g, 0, none⟩ (.slice A n c)).setCell ⟨g, 1, none⟩ (.int .i64 r.value)).setCell ⟨g, 2, none⟩ (.bool r.found)) g A n c r ∧ Fr [g] wz (((wz.setCell ⟨g, 0, none⟩ (.slice A n c)).setCell ⟨g, 1, none⟩ (.int .i64 r.value)).setCell ⟨g, 2, none⟩ (.bool r.found)) := by
  obtain ⟨h1, h2⟩ := set3 (v' := .slice A n c) (m' := r.value) (f' := r.found) hb
  exact ⟨⟨h1, h.rows.ne_small hb (by simp) h2, h.len⟩, h2⟩
theorem apply_rv {w : World} {g : Nat} {A : Option Addr} {n c : Nat} {r : Res} {q : Qry} (hok : okI q.kind) (h : RvAt w g A n c r) (hl : r.rows.length ≤ 5000) (hb : -1000000000000000000 ≤ r.value ∧ r.value ≤ 1000000000000000000) {Ak : Option Addr} {nk ck : Nat} {p : Int} {cs : List Chg} (hc : ChgsAt w Ak cs) (hk : nk ≤ 8) (hn : nk = cs.length) :
    Calls Try.prog 18 #[q.val, .agg #[.slice A n c, .int .i64 r.value, .bool r.found], .agg #[.int .i64 p, .slice Ak nk ck]] w fun e w' => ∃ (r' : Res) (A' : Option Addr) (n' c' : Nat) (t k : Bool), e = .returned (.tuple #[.agg #[.slice A' n' c', .int .i64 r'.value, .bool r'.found], .bool t, .bool k]) ∧ ApAt w w' (Pm.apply q r cs) A' n' r' t k (n + 2 * nk) := by
  refine (apply_any q hok A n c r.value r.found r.rows p Ak nk ck cs w h.rows h.len (by rw [h.len]; omega) (by omega) (by omega) hc hn).mono ?_
  rintro e w' ⟨A', n', c', m', f', t, k, he, h1, h2, h3⟩
  cases k with
  | true =>
    obtain ⟨L', e1, e2, e3, e4⟩ := h1 rfl
    exact ⟨⟨L', m', f'⟩, A', n', c', t, true, he, .inl ⟨rfl, e1⟩, e2, e3, e4, h3⟩
  | false =>
    obtain ⟨e1, e2, e3, e4, e5, e6⟩ := h2 rfl
    subst e2 e3 e4 e5 e6
    exact ⟨⟨[], 0, false⟩, none, 0, c', true, false, he, .inr ⟨rfl, e1, rfl, rfl⟩, fun h => absurd h (by simp), rfl, Nat.zero_le _, h3⟩
namespace Pm
theorem go_any {q : Qry} : ∀ (cs : List Chg) (r : Res) (t : Bool) (x : Res × Bool), go q cs r t = some x → x.2 = (t || cs.any (touches q))
  | [], r, t, x, h => by
    injection h with h
    subst h
    simp
  | c :: cs, r, t, x, h => by
    have e : go q (c :: cs) r t = match patch q r c with
      | none => none
      | some r' => go q cs r' (t || touches q c) := rfl
    rw [e] at h
    cases hp : patch q r c with
    | none => rw [hp] at h; cases h
    | some r' =>
      rw [hp] at h
      rw [go_any cs r' _ x h, List.any_cons, Bool.or_assoc]
theorem go_none' {q : Qry} : ∀ (cs : List Chg) (r : Res) (t : Bool), go q cs r t = none → cs.any (touches q) = true
  | [], _, _, h => by cases h
  | c :: cs, r, t, h => by
    unfold go at h
    rw [List.any_cons]
    cases hp : patch q r c with
    | none =>
      unfold patch at hp
      split at hp
      · rename_i ht
        rw [ht]
        rfl
      · cases hp
    | some r' =>
      rw [hp] at h
      rw [go_none' cs _ _ h, Bool.or_true]
theorem any_drop {X : Type} (p : X → Bool) {l : List X} {i : Nat} (h : i < l.length) : (l.drop i).any p = ((l.drop (i + 1)).any p || p l[i]) := by
  rw [List.drop_eq_getElem_cons h, List.any_cons, Bool.or_comm]
end Pm
theorem AOut.touched {q : Qry} {R : Res} {cs : List Chg} {r : Res} {t k : Bool} (h : AOut (Pm.apply q R cs) r t k) : t = cs.any (Pm.touches q) ∧ (t = false → k = true) := by
  unfold Pm.apply at h
  rcases h with ⟨rfl, e⟩ | ⟨rfl, e, rfl, -⟩
  · have h1 := Pm.go_any _ _ _ _ e
    exact ⟨by simpa using h1, fun _ => rfl⟩
  · exact ⟨(Pm.go_none' _ _ _ e).symm, fun h => (by cases h)⟩
end Go.Proofs.Ytjiikpmkedkbkaa

/-
  eval.joined.
-/
import Derived.Test.YtjiikpmkedkbkaaHd
import Derived.Deep.DeepCutAuto
import Derived.Test.YtjiikpmkedkbkaaGak
import Derived.OwnWalk
import Derived.WalkSpells
import Derived.Deep.RegionLaw
namespace Go.Proofs.Ytjiikpmkedkbkaa
open Go.RowKit

/-- A result in memory. -/
def RsAt (w : World) (g : Nat) (v : Value) (n : Int) (f : Bool) : Prop := Blk w g 27 #[v, .int .i64 n, .bool f]
section
variable {w w' : World} {g : Nat} {v : Value} {n : Int} {f : Bool}
theorem RsAt.c0 (h : RsAt w g v n f) : w.cell? ⟨g, 0, none⟩ = some v := Blk.cell h 0
theorem RsAt.c1 (h : RsAt w g v n f) : w.cell? ⟨g, 1, none⟩ = some (.int .i64 n) := Blk.cell h 1
theorem RsAt.c2 (h : RsAt w g v n f) : w.cell? ⟨g, 2, none⟩ = some (.bool f) := Blk.cell h 2
theorem RsAt.z (h : RsAt w g v n f) (k : Nat) : w.frozen? ⟨g, k, none⟩ = false := Blk.frozen h k
theorem RsAt.new (w : World) (v : Value) (n : Int) (f : Bool) : RsAt (w.alloc (.cells #[v, .int .i64 n, .bool f] 27)) w.heap.size v n f := Blk.new _ _ _
theorem RsAt.fr {S : List Nat} (h : RsAt w g v n f) (hf : Fr S w w') (hs : g ∉ S) : RsAt w' g v n f := Blk.fr h hf hs
theorem RsAt.fill (h : RsAt w g v n f) (v2 : Value) (n2 : Int) (f2 : Bool) :
    ∃ w3, ((w.setCell ⟨g, 0, none⟩ v2).setCell ⟨g, 1, none⟩ (.int .i64 n2)).setCell ⟨g, 2, none⟩ (.bool f2) = w3 ∧ RsAt w3 g v2 n2 f2 ∧ Fr [g] w w3 :=
  ⟨_, rfl, ((Blk.set_ h 0 v2).set_ 1 (.int .i64 n2)).set_ 2 (.bool f2), (((Fr.refl [g] w).setCell (.inl (by simp)) _).setCell (.inl (by simp)) _).setCell (.inl (by simp)) _⟩
end
end Go.Proofs.Ytjiikpmkedkbkaa
namespace Go.Proofs.Ytjiikpmkedkbkaa
open Go.RowKit

/-- Between two rounds of measures. -/
structure MeRel (w wr : World) (q : Qry) (v : Value) (l : List Int) : Prop where
  box : QAt wr w.heap.size q
  own : OwnL 3 1 encI wr v l
  fr : Fr [] w wr
  new : ∀ g, v.ownBlock = some g → w.heap.size < g
theorem MeRel.fr0 {w wr w' : World} {q : Qry} {v : Value} {l : List Int} (h : MeRel w wr q v l) (hf : Fr [] wr w') : MeRel w w' q v l := ⟨h.box.fr hf (by simp), h.own.fr hf (by simp), h.fr.trans hf, h.new⟩
theorem MeRel.grown {w wr w' : World} {q : Qry} {v v' : Value} {l : List Int} {x : Int} (h : MeRel w wr q v l) (ho : OwnL 3 1 encI w' v' (l ++ [x])) (hg : wr.grownBy w' v.ownBlock) (hat : v'.ownBlock = v.ownBlock ∨ v'.ownBlock = some wr.heap.size) : MeRel w w' q v' (l ++ [x]) := by
  have hf : Fr v.ownBlock.toList wr w' := (Fr.refl _ _).grown hg (fun g hg => .inl (Option.mem_toList.2 hg))
  have hlt := Blk.lt h.box
  refine ⟨h.box.fr hf (fun hm => ?_), ho, h.fr.trans' hf (fun g hm => .inr (Nat.le_of_lt (h.new g (Option.mem_toList.1 hm)))), fun g hgg => ?_⟩
  · have := h.new _ (Option.mem_toList.1 hm)
    omega
  · rcases hat with e | e
    · exact h.new g (e ▸ hgg)
    · rw [hgg] at e
      injection e with e
      omega
end Go.Proofs.Ytjiikpmkedkbkaa
namespace Go.Proofs.Ytjiikpmkedkbkaa
open Go.RowKit

theorem reads_of_rows {w : World} {A : Option Addr} {l : List RowV} (h : RowsAt w A l) : Reads w w.heap.size 5 A l.length (l.flatMap RowV.cells) := by
  refine ⟨flat_len RowV.cells_len l, fun hl => ?_⟩
  obtain ⟨b, off, e, hb, hc⟩ := h hl
  refine ⟨_, e, hb, fun q u hu => ?_⟩
  have hq : q < l.length * 5 := by
    rw [← flat_len RowV.cells_len l]
    exact (List.getElem?_eq_some_iff.1 hu).1
  have h1 := hc (q / 5) (by omega) (q % 5) (by omega)
  have h2 := flat_get RowV.cells_len l (q / 5) (by omega) (q % 5) (by omega)
  rw [show q / 5 * 5 + q % 5 = q by omega] at h2
  have hadd : (⟨b, off, none⟩ : Addr).add q = ⟨b, off + q, none⟩ := by unfold Addr.add; split <;> simp_all
  rw [hadd, show off + q = off + q / 5 * 5 + q % 5 by omega, h1, ← h2, hu]
set_option maxRecDepth 100000 in
theorem rclone_any (A : Option Addr) (n cap : Nat) (rows : List RowV) (w : World) (hx : RowsAt w A rows) (hn : n = rows.length) (hl : n ≤ 4000) :
    Calls Try.prog 28 #[.slice A n cap] w fun e w' => ∃ v, e = .returned v ∧ RowsOwn w' v rows ∧ Fr [] w w' ∧ ∀ g, v.ownBlock = some g → w.heap.size ≤ g := by
  obtain ⟨i0, TR⟩ := etRow
  have hu := TR.ht
  have hnil := Lib.run_eql_slice_nil (P := Try.prog)
  cases A with
  | none =>
    have h0 : rows = [] := by
      rcases Nat.eq_zero_or_pos rows.length with h | h
      · exact List.eq_nil_of_length_eq_zero h
      · obtain ⟨b, off, e, _⟩ := hx h
        cases e
    subst h0
    go_enter Try.func28, Try.ntmps28
    go_wp2
    go_ret
    exact ⟨_, rfl, OwnL.nil, Fr.refl _ _, by simp [Value.ownBlock]⟩
  | some ad =>
    have hE : OwnL 57 5 RowV.cells (w.alloc (.cells #[] 57)) (.slice (some ⟨w.heap.size, 0, none⟩) 0 0) ([] : List RowV) := ⟨rfl, .inr ⟨w.heap.size, 0, #[], rfl, Nat.zero_le _, Blk.new w 57 #[], Nat.le_refl _, by simp [maxLen], rfl, rfl⟩⟩
    have HE := Lib.hid hE
    have hR := reads_of_rows (hx.fr ((Fr.refl [] w).alloc (.cells #[] 57)) (by simp))
    rw [← hn] at hR
    have HR := Lib.hid hR
    have HL : Hid (rows.length ≤ 4000) := Lib.hid (by omega)
    have HN := Lib.hid hn
    clear hE hR hx hn
    go_enter Try.func28, Try.ntmps28
    go_wp2_with (at_builtin; refine wpList_appendL rfl _ _ rfl TR RowV.cells_len RowV.cells_one rfl HE.out _ _ _ _ rows rfl HN.out HR.out (by have := HL.out; simp only [maxLen, List.length_nil]; omega) (by have := HL.out; simp only [List.length_nil]; omega) ?_; intro v5 w1 hown5 hg5 hat5; have HG5 := Lib.hid hg5; have HO5 := Lib.hid hown5; have HA5 := Lib.hid hat5; clear hg5 hown5 hat5)
    go_ret
    have hg : (w.alloc (.cells #[] 57)).grownBy w1 (some w.heap.size) := HG5.out
    have ha : v5.ownBlock = some w.heap.size ∨ v5.ownBlock = some (w.alloc (.cells #[] 57)).heap.size := HA5.out
    refine ⟨v5, rfl, by simpa using HO5.out, ((Fr.refl [] w).alloc _).grown hg (fun g h => .inr (by injection h with h; omega)), fun g h => ?_⟩
    rcases ha with e | e
    · rw [h] at e
      injection e with e
      omega
    · rw [h] at e
      injection e with e
      rw [World.size_alloc] at e
      omega
end Go.Proofs.Ytjiikpmkedkbkaa
namespace Go.Proofs.Ytjiikpmkedkbkaa
open Go.RowKit

namespace Em
def pstep (t : Int) (M : List (Int × RowV)) (x : RowV) : List (Int × RowV) := if x.t = t ∧ mget M x.k = none then mput M x.k x else M
def pmap (t : Int) (l : List RowV) : List (Int × RowV) := l.foldl (pstep t) []
theorem pstep_get (t : Int) (M : List (Int × RowV)) (x : RowV) (k : Int) : mget (pstep t M x) k = (mget M k).or (if (decide (x.t = t) && decide (x.k = k)) = true then some x else none) := by
  unfold pstep
  by_cases h1 : x.t = t
  · cases h2 : mget M x.k with
    | none =>
      rw [if_pos ⟨h1, rfl⟩]
      by_cases h3 : x.k = k
      · subst h3
        rw [mget_put_same, h2]
        simp [h1]
      · rw [mget_put_other (fun e => h3 e.symm)]
        simp [h3]
    | some r =>
      rw [if_neg (by simp)]
      by_cases h3 : x.k = k
      · subst h3
        rw [h2]
        rfl
      · simp [h3]
  · rw [if_neg (fun h => h1 h.1)]
    simp [h1]
theorem pmap_from (t k : Int) : ∀ (l : List RowV) (M : List (Int × RowV)), mget (l.foldl (pstep t) M) k = (mget M k).or (partner l t k)
  | [], M => by simp [partner]
  | x :: l, M => by
    rw [List.foldl_cons, pmap_from t k l, pstep_get]
    unfold partner
    rw [List.find?_cons]
    cases (decide (x.t = t) && decide (x.k = k)) <;> cases mget M k <;> simp
theorem pmap_get (t k : Int) (l : List RowV) : mget (pmap t l) k = partner l t k := by
  unfold pmap
  rw [pmap_from]
  simp [mget]
theorem pstep_len (t : Int) (M : List (Int × RowV)) (x : RowV) : (pstep t M x).length ≤ M.length + 1 := by
  unfold pstep
  split
  · show (mput M x.k x).length ≤ _
    unfold mput mdel
    rw [List.length_cons]
    exact Nat.succ_le_succ (List.length_filter_le _ _)
  · omega
theorem pmap_len (t : Int) (l : List RowV) : (pmap t l).length ≤ l.length := by
  have key : ∀ (l : List RowV) (M : List (Int × RowV)), (l.foldl (pstep t) M).length ≤ M.length + l.length := by
    intro l
    induction l with
    | nil => intro M; simp
    | cons x l ih =>
      intro M
      have h1 := ih (pstep t M x)
      have h2 := pstep_len t M x
      rw [List.foldl_cons, List.length_cons]
      omega
  have := key l []
  simpa [pmap] using this
theorem pmap_take (t : Int) (l : List RowV) {k : Nat} (hk : k < l.length) : pmap t (l.take (k + 1)) = pstep t (pmap t (l.take k)) l[k] := by
  unfold pmap
  rw [List.take_succ_eq_append_getElem hk, List.foldl_append]
  rfl
end Em
end Go.Proofs.Ytjiikpmkedkbkaa
namespace Go.Proofs.Ytjiikpmkedkbkaa
open Go.RowKit

/-- Between two rounds of the first loop. -/
structure JoA (w wr : World) (q : Qry) (M : List (Int × RowV)) : Prop where
  box : QAt wr w.heap.size q
  map : VMap Try.prog 3 (Lit.int .i64) RowV.val wr (w.heap.size + 1) M
  fr : Fr [] w wr
theorem JoA.fr0 {w wr w' : World} {q : Qry} {M : List (Int × RowV)} (h : JoA w wr q M) (hf : Fr [] wr w') : JoA w w' q M := ⟨h.box.fr hf (by simp), h.map.fr hf (by simp), h.fr.trans hf⟩
theorem JoA.turned {w wr w' : World} {q : Qry} {M M' : List (Int × RowV)} (h : JoA w wr q M) (hm : VMap Try.prog 3 (Lit.int .i64) RowV.val w' (w.heap.size + 1) M') (ht : wr.mapTurned w' (w.heap.size + 1)) : JoA w w' q M' := by
  have hf : Fr [w.heap.size + 1] wr w' := turned_fr ht (by simp)
  exact ⟨h.box.fr hf (by simp), hm, h.fr.trans' hf (fun x hx => .inr (by simp only [List.mem_singleton] at hx; omega))⟩
theorem Em.joined_len (q : Qry) (others : List RowV) : ∀ rows : List RowV, (Em.joined q rows others).length ≤ 2 * rows.length
  | [] => by simp [Em.joined]
  | r :: l => by
    have h := Em.joined_len q others l
    unfold Em.joined at *
    rw [List.flatMap_cons, List.length_append, List.length_cons]
    have : (Em.pair q others r).length ≤ 2 := by unfold Em.pair; split <;> simp
    omega
/-- Between two rounds of the second one. -/
structure JoB (w2 wr : World) (v : Value) (l : List RowV) : Prop where
  own : RowsOwn wr v l
  fr : Fr [] w2 wr
  new : ∀ g, v.ownBlock = some g → w2.heap.size ≤ g
theorem JoB.fr0 {w2 wr w' : World} {v : Value} {l : List RowV} (h : JoB w2 wr v l) (hf : Fr [] wr w') : JoB w2 w' v l := ⟨h.own.fr hf (by simp), h.fr.trans hf, h.new⟩
theorem JoB.grown {w2 wr w' : World} {v v' : Value} {l l' : List RowV} (h : JoB w2 wr v l) (ho : RowsOwn w' v' l') (hg : wr.grownBy w' v.ownBlock) (hat : v'.ownBlock = v.ownBlock ∨ v'.ownBlock = some wr.heap.size) : JoB w2 w' v' l' := by
  refine ⟨ho, h.fr.grown hg (fun g e => .inr (h.new g e)), fun g hgg => ?_⟩
  rcases hat with e | e
  · exact h.new g (e ▸ hgg)
  · rw [hgg] at e
    injection e with e
    have := h.fr.size
    omega
end Go.Proofs.Ytjiikpmkedkbkaa

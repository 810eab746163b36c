/-
  Law 07's sane: the fixed examples, in plain Lean.
-/
import Derived.Test.YtjiikpmkedkbkaaGreatMbo
import Derived.Test.YtjiikpmkedkbkaaGreatMan
namespace Go.Proofs.YtjiikpmkedkbkaaGreat
open Go.RowKit

/-- A result in a block of its own. -/
def R7At (w : World) (g : Nat) (v : Value) (n : Int) (f : Bool) : Prop := Blk w g 34 #[v, .int .i64 n, .bool f]
section
variable {w w' : World} {g : Nat} {v : Value} {n : Int} {f : Bool}
theorem R7At.c0 (h : R7At w g v n f) : w.cell? ⟨g, 0, none⟩ = some v := Blk.cell h 0
theorem R7At.c1 (h : R7At w g v n f) : w.cell? ⟨g, 1, none⟩ = some (.int .i64 n) := Blk.cell h 1
theorem R7At.c2 (h : R7At w g v n f) : w.cell? ⟨g, 2, none⟩ = some (.bool f) := Blk.cell h 2
theorem R7At.z (h : R7At w g v n f) (k : Nat) : w.frozen? ⟨g, k, none⟩ = false := Blk.frozen h k
theorem R7At.new (w : World) (v : Value) (n : Int) (f : Bool) : R7At (w.alloc (.cells #[v, .int .i64 n, .bool f] 34)) w.heap.size v n f := Blk.new _ _ _
theorem R7At.fr {S : List Nat} (h : R7At w g v n f) (hf : Fr S w w') (hs : g ∉ S) : R7At w' g v n f := Blk.fr h hf hs
end

set_option maxRecDepth 100000 in
set_option maxHeartbeats 4000000 in
theorem same7_big (A : Option Addr) (n ca : Nat) (x : Int) (f : Bool) (l1 : List RowV) (B : Option Addr) (m cb : Nat) (y : Int) (g : Bool) (l2 : List RowV) (w : World) (ha : RowsAt w A l1) (hn : n = l1.length) (hb : RowsAt w B l2) (hm : m = l2.length) (la : n ≤ 9000) (_lb : m ≤ 9000) :
    Calls Tryz.prog 15 #[.agg #[.slice A n ca, .int .i64 x, .bool f], .agg #[.slice B m cb, .int .i64 y, .bool g]] w fun e w' => e = .returned (.bool (decide ((⟨l1, x, f⟩ : Res) = ⟨l2, y, g⟩))) ∧ Fr [] w w' := by
  have ra := (R7At.new w (.slice A n ca) x f).fr ((Fr.refl [] _).alloc (.cells #[.slice B m cb, .int .i64 y, .bool g] 34)) (by simp)
  have rb := R7At.new (w.alloc (.cells #[.slice A n ca, .int .i64 x, .bool f] 34)) (.slice B m cb) y g
  rw [World.size_alloc] at rb
  have F0 := Lib.hid (((Fr.refl [] w).alloc (.cells #[.slice A n ca, .int .i64 x, .bool f] 34)).alloc (.cells #[.slice B m cb, .int .i64 y, .bool g] 34))
  have HE := Lib.hid (sameRows_big l1 l2 A B ca cb ((w.alloc (.cells #[.slice A n ca, .int .i64 x, .bool f] 34)).alloc (.cells #[.slice B m cb, .int .i64 y, .bool g] 34)) (ha.fr F0.out (by simp)) (hb.fr F0.out (by simp)) (by omega) (by omega))
  rw [← hn, ← hm] at HE
  obtain ⟨p, HP⟩ : ∃ p, Hid (decide (l1 = l2) = p) := ⟨_, Lib.hid rfl⟩
  rw [HP.out] at HE
  obtain ⟨r, HR⟩ : ∃ r, Hid (decide ((⟨l1, x, f⟩ : Res) = ⟨l2, y, g⟩) = r) := ⟨_, Lib.hid rfl⟩
  rw [HR.out]
  have HPR : Hid (∀ v, (decide (x = y) && decide (f = g) && p) = v → r = v) := Lib.hid (fun v hv => by rw [← hv, ← HR.out, ← HP.out]; simp only [Res.mk.injEq, Bool.decide_and]; cases decide (l1 = l2) <;> cases decide (x = y) <;> cases decide (f = g) <;> rfl)
  clear ha hb hn hm la _lb
  go_enter Tryz.func15, Tryz.ntmps15
  go_upto_region 1 with (fail)
  generalize (w.alloc (.cells #[.slice A n ca, .int .i64 x, .bool f] 34)).alloc (.cells #[.slice B m cb, .int .i64 y, .bool g] 34) = w2 at *
  have a0 := ra.c0
  have a1 := ra.c1
  have a2 := ra.c2
  have b0 := rb.c0
  have b1 := rb.c1
  have b2 := rb.c2
  have HA := Lib.hid ra
  have HB := Lib.hid rb
  clear ra rb
  by_cases hxy : x = y
  · have HXY := Lib.hid hxy
    have e1 : (x == y) = true := by simpa using hxy
    clear hxy
    cases hf : f <;> cases hg : g <;> subst hf <;> subst hg
    all_goals
      go_wp2_with (go_at_call 36; refine HE.out.mono ?_; rintro e w3 ⟨rfl, f3⟩; have A3 := HA.out.fr f3 (by simp); have B3 := HB.out.fr f3 (by simp); have a1 := A3.c1; have a2 := A3.c2; have b1 := B3.c1; have b2 := B3.c2; have G3 := Lib.hid (F0.out.trans f3); clear f3 A3 B3)
      go_ret
      exact ⟨by rw [HPR.out _ rfl]; simp [HXY.out] <;> rfl, by first | exact G3.out | exact F0.out⟩
  · have HXY := Lib.hid hxy
    have e1 : (x == y) = false := by simpa using hxy
    clear hxy
    go_wp2_with (go_at_call 36; refine HE.out.mono ?_; rintro e w3 ⟨rfl, f3⟩; have A3 := HA.out.fr f3 (by simp); have B3 := HB.out.fr f3 (by simp); have a1 := A3.c1; have a2 := A3.c2; have b1 := B3.c1; have b2 := B3.c2; have G3 := Lib.hid (F0.out.trans f3); clear f3 A3 B3)
    go_ret
    exact ⟨by rw [HPR.out false (by simp [HXY.out])]; rfl, F0.out⟩
theorem same7_any (A : Option Addr) (n ca : Nat) (x : Int) (f : Bool) (l1 : List RowV) (B : Option Addr) (m cb : Nat) (y : Int) (g : Bool) (l2 : List RowV) (w : World) (ha : RowsAt w A l1) (hn : n = l1.length) (hb : RowsAt w B l2) (hm : m = l2.length) (la : n ≤ 4000) (_lb : m ≤ 4000) :
    Calls Tryz.prog 15 #[.agg #[.slice A n ca, .int .i64 x, .bool f], .agg #[.slice B m cb, .int .i64 y, .bool g]] w fun e w' => e = .returned (.bool (decide ((⟨l1, x, f⟩ : Res) = ⟨l2, y, g⟩))) ∧ Fr [] w w' :=
  same7_big A n ca x f l1 B m cb y g l2 w ha hn hb hm (Nat.le_trans la (by decide)) (Nat.le_trans _lb (by decide))
end Go.Proofs.YtjiikpmkedkbkaaGreat
namespace Go.Proofs.YtjiikpmkedkbkaaGreat
open Go.RowKit

/-- near's two blocks. -/
structure NearAt (w wn : World) (v : Value) (x : Int) (f : Bool) : Prop where
  r : R7At wn w.heap.size v x f
  z : R7At wn (w.heap.size + 1) (.slice none 0 0) 0 false
  fr : Fr [] w wn

theorem NearAt.row {w wn : World} {v : Value} {x : Int} {f : Bool} (h : NearAt w wn v x f) (v' : Value) : NearAt w (wn.setCell ⟨w.heap.size, 0, none⟩ v') v' x f :=
  ⟨Blk.set_ h.r 0 v', h.z.fr ((Fr.refl [w.heap.size] wn).setCell (.inl (by simp)) _) (by simp), h.fr.trans' ((Fr.refl [w.heap.size] wn).setCell (.inl (by simp)) _) (fun i hi => .inr (by rw [List.mem_singleton] at hi; omega))⟩
theorem NearAt.val {w wn : World} {v : Value} {x : Int} {f : Bool} (h : NearAt w wn v x f) (x' : Int) : NearAt w (wn.setCell ⟨w.heap.size, 1, none⟩ (.int .i64 x')) v x' f :=
  ⟨Blk.set_ h.r 1 (.int .i64 x'), h.z.fr ((Fr.refl [w.heap.size] wn).setCell (.inl (by simp)) _) (by simp), h.fr.trans' ((Fr.refl [w.heap.size] wn).setCell (.inl (by simp)) _) (fun i hi => .inr (by rw [List.mem_singleton] at hi; omega))⟩

end Go.Proofs.YtjiikpmkedkbkaaGreat
namespace Go.Proofs.YtjiikpmkedkbkaaGreat
open Go.RowKit

namespace Sane7
def q : Qry := ⟨5, 0, 1, 10, 19, 2, 0⟩
def qc : Qry := ⟨3, 0, 1, 10, 19, 0, 0⟩
def qr : Qry := ⟨1, 0, 0, 5, 5, 0, 0⟩
def add : Chg := ⟨0, 5, false, 0, 0, 0, true, 12, 3, 0⟩
def far : Chg := ⟨0, 5, false, 0, 0, 0, true, 25, 3, 0⟩
def gone : Chg := ⟨0, 6, true, 12, 7, 0, false, 0, 0, 0⟩
def less : Chg := ⟨0, 6, true, 12, 7, 0, true, 12, 5, 0⟩
def moved : Chg := ⟨0, 6, true, 12, 9, 1, true, 13, 9, 1⟩
theorem one : (Pm.patch q ⟨[], 7, true⟩ add).map (fun r => r.value) = some 3 := by decide
theorem two : (Pm.patch q ⟨[], 7, true⟩ far).map (fun r => r.value) = some 7 := by decide
theorem three : Pm.patch q ⟨[], 7, true⟩ gone = none := by decide
theorem four : (Pm.patch q ⟨[], 7, true⟩ less).map (fun r => r.value) = some 5 := by decide
theorem five : (Pm.apply qc ⟨[], 4, false⟩ [add, gone]).map (fun x => (x.1.value, x.2)) = some (4, true) := by decide
theorem six : (Pm.apply qr ⟨[], 0, false⟩ [add]).map (fun x => (x.1.rows, x.2)) = some ([⟨0, 5, 12, 3, 0⟩], true) := by decide
theorem t1 : Pm.touches q add = true := by decide
theorem t2 : Pm.touches q far = false := by decide
theorem t3 : Pm.touches q gone = true := by decide
theorem t4 : Pm.touches q moved = false := by decide
end Sane7
end Go.Proofs.YtjiikpmkedkbkaaGreat

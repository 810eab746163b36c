/-
  Contracts of package gap: the small methods.
-/
import Derived.Test.YtfbhdmppddledaaRecs
import Derived.Test.YtfbhdmppddledaaGapM
namespace Go.Proofs.Ytfbhdmppddledaa
open Go.RowKit

theorem tyIR : MT Try.prog 66 3 34 (Value.int .i64) (Lit.int .i64) WRec.val okI (.agg #[.int .i64 0, .slice none 0 0]) where
  keyed := Maps.int_keyed Try.underlying3
  ht := Try.underlying66
  key := fun x hx => Maps.keyOf_int_mk Try.underlying3 hx
  inj := fun x y h => by injection h
  zero := fun w => by kernel_rfl

def rcvCells (c : Gm.Rcv) (m : Nat) : Array Value := #[.int .i64 c.pos, .int .i64 c.high, .map (some m)]
def shed (M : List (Int × WRec)) : List (Int × Rec) := M.map fun e => (e.1, e.2.r)
/-- At block b lies the receiver c, whose map lies at block m. -/
structure RcvAt (w : World) (b m : Nat) (c : Gm.Rcv) : Prop where
  blk : Blk w b 68 (rcvCells c m)
  map : ∃ M : List (Int × WRec), VMap Try.prog 3 (Lit.int .i64) WRec.val w m M ∧ shed M = c.L ∧ ∀ e ∈ M, HoldsC w e.2.A e.2.r.cs ∧ e.2.r.cs.length ≤ 8
  ok : Gm.Ok c
theorem RcvAt.ne {w : World} {b m : Nat} {c : Gm.Rcv} (h : RcvAt w b m c) : m ≠ b := by
  obtain ⟨M, hm, _⟩ := h.map
  exact hm.ne h.blk
theorem RcvAt.noC {w : World} {b m : Nat} {c : Gm.Rcv} (h : RcvAt w b m c) : NoC w [b, m] := by
  obtain ⟨M, hm, _⟩ := h.map
  exact NoC.cons (noC_blk h.blk (by decide)) (NoC.cons (noC_map hm) NoC.nil)
theorem RcvAt.lt {w : World} {b m : Nat} {c : Gm.Rcv} (h : RcvAt w b m c) : b < w.heap.size ∧ m < w.heap.size := by
  obtain ⟨M, hm, _⟩ := h.map
  exact ⟨h.blk.lt, hm.lt⟩
theorem RcvAt.fr {w w' : World} {b m : Nat} {c : Gm.Rcv} {S : List Nat} (h : RcvAt w b m c) (hf : Fr S w w') (hb : b ∉ S) (hm : m ∉ S) (hs : NoC w S) : RcvAt w' b m c := by
  obtain ⟨M, h1, h2, h3⟩ := h.map
  exact ⟨h.blk.fr hf hb, ⟨M, h1.fr hf hm, h2, fun e he => ⟨(h3 e he).1.fr hf hs, (h3 e he).2⟩⟩, h.ok⟩
theorem RcvAt.fr0 {w w' : World} {b m : Nat} {c : Gm.Rcv} (h : RcvAt w b m c) (hf : Fr [] w w') : RcvAt w' b m c := h.fr hf (by simp) (by simp) NoC.nil

theorem mget_shed {M : List (Int × WRec)} {x : Int} : mget (shed M) x = (mget M x).map (·.r) := by
  induction M with
  | nil => rfl
  | cons e M ih =>
    by_cases h : e.1 = x
    · simp [shed, mget, h]
    · have h1 : mget (e :: M) x = mget M x := by unfold mget; rw [List.find?_cons_of_neg (by simpa using h)]
      have h2 : mget (shed (e :: M)) x = mget (shed M) x := by
        show mget ((e.1, e.2.r) :: shed M) x = _
        unfold mget
        rw [List.find?_cons_of_neg (by simpa using h)]
      rw [h1, h2, ih]
theorem mdel_shed {M : List (Int × WRec)} {x : Int} : mdel (shed M) x = shed (mdel M x) := by
  unfold mdel shed
  rw [List.filter_map]
  rfl
theorem mput_shed {M : List (Int × WRec)} {x : Int} {u : WRec} : mput (shed M) x u.r = shed (mput M x u) := by
  unfold mput
  rw [mdel_shed]
  rfl

theorem gnew_bad (p : Int) (w : World) (hp : ¬ (0 ≤ p ∧ p ≤ 10000)) : Calls Try.prog 6 #[.int .i64 p] w fun e w' => e = .returned (.pointer none) ∧ w = w' := by
  by_cases h : p < 0
  · go_enter Try.func6, Try.ntmps6
    go_wp2
    go_ret
    exact ⟨rfl, rfl⟩
  · have h1 : 10000 < p := by omega
    go_enter Try.func6, Try.ntmps6
    go_wp2
    go_ret
    exact ⟨rfl, rfl⟩
theorem gok_new {p : Int} (h0 : 0 ≤ p) (h1 : p ≤ 10000) : Gm.Ok (Gm.new p) := ⟨h0, Int.le_refl _, h1, by simp [Gm.new], nd_nil⟩
theorem gnew_any (p : Int) (w : World) (h0 : 0 ≤ p) (h1 : p ≤ 10000) : Calls Try.prog 6 #[.int .i64 p] w fun e w' => e = .returned (.pointer (some ⟨w.heap.size + 1, 0, none⟩)) ∧ RcvAt w' (w.heap.size + 1) w.heap.size (Gm.new p) ∧ Fr [] w w' := by
  have hmm := @run_makeMap Try.prog
  go_enter Try.func6, Try.ntmps6
  go_wp2
  go_ret
  refine ⟨by simp, ⟨?_, ⟨[], (VMap.made _ _ w).alloc _, rfl, by simp⟩, gok_new h0 h1⟩, ((Fr.refl _ _).alloc _).alloc _⟩
  have := Blk.new (w.alloc (.map #[] 0)) 68 (rcvCells (Gm.new p) w.heap.size)
  simpa [rcvCells, Gm.new] using this

theorem position_nil (w : World) : Calls Try.prog 19 #[.pointer none] w fun e w' => e = .returned (.int .i64 0) ∧ w = w' := by
  go_enter Try.func19, Try.ntmps19
  go_wp2
  go_ret
  exact ⟨rfl, rfl⟩
theorem position_any (b m : Nat) (c : Gm.Rcv) (w : World) (h : RcvAt w b m c) : Calls Try.prog 19 #[.pointer (some ⟨b, 0, none⟩)] w fun e w' => e = .returned (.int .i64 c.pos) ∧ w = w' := by
  have h1 : w.cell? ⟨b, 0, none⟩ = some (.int .i64 c.pos) := h.blk.cell 0
  go_enter Try.func19, Try.ntmps19
  go_wp2
  go_ret
  exact ⟨rfl, rfl⟩
theorem Gm.mx_le {a b n : Int} (h1 : a ≤ n) (h2 : b ≤ n) : Gm.mx a b ≤ n := by unfold Gm.mx; split <;> omega
theorem Gm.le_mx (a b : Int) : a ≤ Gm.mx a b := by unfold Gm.mx; split <;> omega
theorem Gm.le_mx2 (a b : Int) : b ≤ Gm.mx a b := by unfold Gm.mx; split <;> omega
theorem Gm.Ok.announce {c : Gm.Rcv} (h : Gm.Ok c) (p : Int) : Gm.Ok (Gm.announce c p) := by
  unfold Gm.announce
  split
  · have h1 := Gm.le_mx c.high p
    refine ⟨h.p0, by have := h.ph; show c.pos ≤ Gm.mx c.high p; omega, Gm.mx_le h.hi ‹_›, fun e he => ?_, h.nd⟩
    obtain ⟨k1, k2, k3, k4⟩ := h.key e he
    exact ⟨k1, k2, by show e.1 ≤ Gm.mx c.high p; omega, k4⟩
  · exact h
theorem rcv_setHigh {w : World} {b m : Nat} {c : Gm.Rcv} (h : RcvAt w b m c) (x : Int) (hok : Gm.Ok { c with high := x }) : RcvAt (w.setCell ⟨b, 1, none⟩ (.int .i64 x)) b m { c with high := x } := by
  obtain ⟨M, h1, h2, h3⟩ := h.map
  have hf : Fr [b] w (w.setCell ⟨b, 1, none⟩ (.int .i64 x)) := (Fr.refl _ _).setCell (.inl (by simp)) _
  refine ⟨?_, ⟨M, h1.setCell h.ne _, h2, fun e he => ⟨(h3 e he).1.fr hf (NoC.cons (noC_blk h.blk (by decide)) NoC.nil), (h3 e he).2⟩⟩, hok⟩
  have := h.blk.set_ 1 (.int .i64 x)
  simpa [rcvCells] using this
end Go.Proofs.Ytfbhdmppddledaa

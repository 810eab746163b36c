/-
  MatchMissesNothing, MatchViews: an index, a log and a state in memory.
-/
import Derived.Test.YtciaallekkdnhaaGreatMuB
import Derived.Test.YtciaallekkdnhaaGreatKd
import Derived.Test.YtciaallekkdnhaaGreatKc
import Derived.Test.YtciaallekkdnhaaGreatJu
namespace Go.Proofs.YtciaallekkdnhaaGreat
open Go.RowKit

theorem Pm.untouched8 {s : Sm.Sta} {q : Qry} {r : Rec} (hv : Em.valid q = true) (ho : Sm.Ok s) (hf : Sm.fits s r = true) (h : r.cs.any (Pm.touches q) = false) : Em.of s q = Em.of (Sm.apply s r) q :=
  (Pm.apply_of hv ho hf (Pm.go_still r.cs (Em.of s q) false h)).1
theorem of8_any {wr : World} {bs ms : Nat} {s : Sm.Sta} {q : Qry} (h : StaAt wr bs ms s) (hs : Sm.Sound s) (hv : Em.valid q = true) :
    Calls Tryz.prog 31 #[.pointer (some ⟨bs, 0, none⟩), q.val] wr fun e w' => ∃ A n c, e = .returned (.tuple #[.agg #[.slice A n c, .int .i64 (Em.of s q).value, .bool (Em.of s q).found], .int .i64 0]) ∧ RwAt wr w' A n (Em.of s q) := by
  refine (eof_any bs ms s q wr h hs).mono ?_
  rintro e w' ⟨v, rfl, hr⟩
  have hc : Em.code q = 0 := by unfold Em.code; rw [hv]; rfl
  obtain ⟨A, n, c, hv5⟩ : ∃ A n c, v = .slice A n c := (match hr.own.val with | ⟨_, _, hv⟩ => ⟨_, _, _, hv⟩)
  subst hv5
  have h1 := OwnL.rowsAt hr.own
  exact ⟨A, n, c, by rw [hc], h1.1, h1.2, hr.fr, fun ad e => by
    subst e
    exact hr.new ad.block rfl⟩
structure MnAt (w wr : World) (b m : Nat) (M : Mm.Ix) (D : List Nat) (v : Value) (qs : List Qry) (A2 : Option Addr) (n2 c2 : Nat) (l : List Rec) (bs ms : Nat) (s : Sm.Sta) : Prop where
  mg : MgAt w wr b m M D v qs A2 n2 c2 l
  sta : StaAt wr bs ms s
  nd : bs ∉ D ∧ ms ∉ D
  new : w.heap.size ≤ bs ∧ w.heap.size ≤ ms
section
variable {w wr w' : World} {b m : Nat} {M : Mm.Ix} {D : List Nat} {v : Value} {qs : List Qry} {A2 : Option Addr} {n2 c2 : Nat} {l : List Rec} {bs ms : Nat} {s : Sm.Sta}
theorem MnAt.fr0 (h : MnAt w wr b m M D v qs A2 n2 c2 l bs ms s) (hf : Fr [] wr w') : MnAt w w' b m M D v qs A2 n2 c2 l bs ms s := ⟨h.mg.fr0 hf, h.sta.fr0 hf, h.nd, h.new⟩
theorem MnAt.match_ (h : MnAt w wr b m M D v qs A2 n2 c2 l bs ms s) (at_ : Int) (A : Option Addr) (N cap : Nat) (cs : List Chg) (hc : HoldsC wr A cs) (hN : N = cs.length) (hn8 : N ≤ 1000) (hcs : ∀ c ∈ cs, okI c.t ∧ ∀ r ∈ Mm.rows c, ∀ k, okI (r.value k)) :
    Calls Tryz.prog 22 #[.pointer (some ⟨b, 0, none⟩), .agg #[.int .i64 at_, .slice A N cap]] wr fun e w' => ∃ A' n' c' L, e = .returned (.slice A' n' c') ∧ OwnL 3 1 encJ w' (.slice A' n' c') L ∧ n' = L.length ∧ L = Mm.hits qs cs qs.length ∧ Fr [b] wr w' ∧ ∃ D', MnAt w w' b m M D' v qs A2 n2 c2 l bs ms s := by
  refine (h.mg.match_ at_ A N cap cs hc hN hn8 hcs).mono ?_
  rintro e w' ⟨A', n', c', L, rfl, h1, h2, h3, hf, D', h5, h6⟩
  obtain ⟨lp, hb, -⟩ := h.mg.ix.blk
  have e1 : bs ≠ b := Blk.ne h.sta.blk hb (by decide)
  have e2 : ms ≠ b := h.sta.map.ne hb
  have l1 := h.sta.lt
  refine ⟨A', n', c', L, rfl, h1, h2, h3, hf, D', h5, h.sta.fr hf (by simp [e1]) (by simp [e2]), ⟨fun hx => ?_, fun hx => ?_⟩, h.new⟩
  · rcases h6 _ hx with h7 | h7
    · exact h.nd.1 h7
    · omega
  · rcases h6 _ hx with h7 | h7
    · exact h.nd.2 h7
    · omega
theorem MnAt.apply (h : MnAt w wr b m M D v qs A2 n2 c2 l bs ms s) {r : Rec} {A : Option Addr} {n cap : Nat} {p : Int} (hc : HoldsC wr A r.cs) (hlen : r.cs.length ≤ 8) (hn : n = r.cs.length) (hp : p = r.p) (hf : Sm.fits s r = true) :
    Calls Tryz.prog 30 #[.pointer (some ⟨bs, 0, none⟩), .agg #[.int .i64 p, .slice A n cap]] wr fun e w' => e = .returned (.int .i64 0) ∧ MnAt w w' b m M D v qs A2 n2 c2 l bs ms (Sm.apply s r) ∧ Fr [bs, ms] wr w' := by
  refine (sapply_n bs ms s r A n cap p wr h.sta hc hlen hn hp).mono ?_
  rintro e w' ⟨he, h1, h2⟩
  rw [Lg.code_zero.2 hf] at he
  refine ⟨he, ⟨⟨h.mg.ix.fr h2 (fun x hx hm => ?_), fun x hx => ⟨(h.mg.dl x hx).1, Nat.lt_of_lt_of_le (h.mg.dl x hx).2 h2.size⟩, h.mg.is, h.mg.ok, h.mg.row.fr h2 (fun g hg => ?_), h.mg.log.keepS h.sta h2, h.mg.fr.trans' h2 (fun x hx => .inr ?_)⟩, h1, h.nd, h.new⟩, h2⟩
  · simp only [List.mem_cons, List.not_mem_nil, or_false] at hm
    rcases hm with rfl | rfl
    · exact h.nd.1 hx
    · exact h.nd.2 hx
  · have e1 := h.mg.row.ne h.sta.blk (by decide) hg
    have e2 := h.mg.row.ne_map h.sta.map hg
    simp [e1, e2]
  · have := h.new
    simp only [List.mem_cons, List.not_mem_nil, or_false] at hx
    rcases hx with rfl | rfl <;> omega
end
end Go.Proofs.YtciaallekkdnhaaGreat

/-
  'append' onto a row of the call's own, inside a fence; a turned object.
-/
import Derived.Test.YtfbhdmppddledaaRow
import Derived.RangeFuncRecord
import Derived.RangeFuncSeq
import Derived.RangeFuncLeaves
import Derived.OwnWalkIn
import Derived.Shelf.Abstract
namespace Go.Proofs.Ytfbhdmppddledaa
open Go.RowKit
attribute [local go_sem] Oper.semAt_some

section
variable {X : Type} {P : Program} {t e size bytes : Nat} {i0 : TypeInfo} {z : Value} {enc : X → List Value} {w : World} {v : Value} {L : List X}
/-- 'append' onto a row of the call's own, inside a fence. -/
theorem wpListIn_appendL {F : Fence} {n : Nat} {ops : Array Oper} {rest : List Oper} {o : Oper} {a : Act} {Q : Exit → Act → World → Prop} (hgd : o.guard = none) (s x : Operand)
    (ho : o.op = .call { callee := .builtin .append, args := #[s, x], argTypes := #[t, t] }) (T : ET P t e size bytes i0 z) (henc : ∀ x, (enc x).length = size) (h1 : ∀ x, ∀ u ∈ enc x, u.oneCell' = true)
    (hs : a.eval s = v) (hown : OwnL e size enc w v L) (B : Nat) (A : Option Addr) (m c : Nat) (N : List X) (hx : a.eval x = .slice A m c) (hm : m = N.length) (hr : Reads w B size A m (N.flatMap enc))
    (h63 : L.length + N.length ≤ maxLen) (hbytes : (L.length + N.length) * bytes ≤ 140737488355328)
    (h : ∀ v' w', OwnL e size enc w' v' (L ++ N) → w.grownBy w' v.ownBlock → (v'.ownBlock = v.ownBlock ∨ v'.ownBlock = some w.heap.size) → wpListIn F n P ops Q rest (a.put o.dst v') w') : wpListIn F n P ops Q (o :: rest) a w := by
  subst hm
  refine wpListIn_plain hgd fun K hK' => ?_
  obtain ⟨v', w', hrun, r1, r2, r3⟩ := run_append_any (P := P) w 0 t o.type e i0 z size bytes T.ht T.hi T.hz T.hs T.hb T.hzs T.pos v L.length (L.flatMap enc) hown B A N.length c (N.flatMap enc) hr (fun u hu => by
    obtain ⟨y, hy, hu'⟩ := List.mem_flatMap.1 hu
    exact h1 y u hu') h63 hbytes (Nat.zero_le _)
  have r1' : OwnL e size enc w' v' (L ++ N) := by
    unfold OwnL
    rw [List.length_append, List.flatMap_append]
    exact r1
  unfold Oper.wpIn
  refine ⟨?_, ?_⟩
  · simp [Oper.about, ho, resolve, Target.leads, Sem.run_pure]
  · rw [Oper.semAt_plain F _ _ (by rw [ho]; intro c hc'; cases hc')]
    simp [execOp, ho, resolve, invoke, builtin, hs, hx, hrun, Result.andThen]
    exact hK' _ _ (h v' w' r1' r2 r3)
end

theorem putObj_fr {S : List Nat} {a w : World} (h : Fr S a w) {r : Nat} (hr : r ∈ S ∨ a.heap.size ≤ r) (o : Obj) : Fr S a (w.putObj r o) :=
  h.trans' (S' := [r]) ⟨rfl, rfl, rfl, by simp, fun k _ hn => World.putObj_heap_other (by simpa using hn)⟩ (by simpa using hr)
end Go.Proofs.Ytfbhdmppddledaa

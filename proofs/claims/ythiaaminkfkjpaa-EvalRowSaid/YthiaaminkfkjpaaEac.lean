/-
  A REGION THAT DRAWS ITS ORDER: a head that reads and calls, walked once in a class of worlds, and a tail that waits for the head, walked as it stands.
-/
import Derived.Test.YthiaaminkfkjpaaEaa
import Derived.RegionTactic
import Derived.StillTail
import Derived.Deep.QuietTactic
import Derived.Sort.Grow
import Derived.Shelf.SlSortCmp.QuietGrown
namespace Go.Proofs.Ythiaaminkfkjpaa
open Go.RowKit Go.ChangeMaps
section
variable {K V : Type} {P : Program} {t k e : TypeId} {ek : K → Value} {kl : K → Lit} {ev : V → Value} {ok : K → Prop} {z : Value} {o : Oper} {a : Act} {C : Act → World → Prop} {Q : Exit → Act → World → Prop} {ops : Array Oper} {rest : List Oper} {E : Prop}

theorem step_of_wp {w : World} (hg : o.guard = none) (h : Oper.wp P o a w C Q) : if Region.wanted o (yielded ops a.tmps) = true then Oper.wp P o a w C Q else E := by
  rw [if_pos (by simp [Region.wanted, hg])]
  exact h
theorem wp_vlook [DecidableEq K] (w : World) (m x : Operand) (c : Bool) (hop : o.op = Op.lookup t m x c) (T : MT P t k e ek kl ev ok z) (b : Nat) (M : List (K × V)) (hm : a.eval m = .map (some b)) (h : VMap P k kl ev w b M) (x0 : K) (hx : a.eval x = ek x0) (hok : ok x0) (hK : C (a.put o.dst (if c then .tuple #[((mget M x0).map ev).getD z, .bool (mget M x0).isSome] else ((mget M x0).map ev).getD z)) w) : Oper.wp P o a w C Q := by
  have hrun := h.look T x0 hok c
  unfold Oper.wp
  simp [execOp, hop, hm, hx, hrun, Result.andThen]
  exact hK
theorem wpList_vlook [DecidableEq K] (w : World) (hg : o.guard = none) (m x : Operand) (c : Bool) (hop : o.op = Op.lookup t m x c) (T : MT P t k e ek kl ev ok z) (b : Nat) (M : List (K × V)) (hm : a.eval m = .map (some b)) (h : VMap P k kl ev w b M) (x0 : K) (hx : a.eval x = ek x0) (hok : ok x0) (hK : wpList P ops Q rest (a.put o.dst (if c then .tuple #[((mget M x0).map ev).getD z, .bool (mget M x0).isSome] else ((mget M x0).map ev).getD z)) w) : wpList P ops Q (o :: rest) a w :=
  wpList_plain hg fun _ hC => wp_vlook w m x c hop T b M hm h x0 hx hok (hC _ _ (hK))
theorem step_vlook [DecidableEq K] (w : World) (hg : o.guard = none) (m x : Operand) (c : Bool) (hop : o.op = Op.lookup t m x c) (T : MT P t k e ek kl ev ok z) (b : Nat) (M : List (K × V)) (hm : a.eval m = .map (some b)) (h : VMap P k kl ev w b M) (x0 : K) (hx : a.eval x = ek x0) (hok : ok x0) (hK : C (a.put o.dst (if c then .tuple #[((mget M x0).map ev).getD z, .bool (mget M x0).isSome] else ((mget M x0).map ev).getD z)) w) : if Region.wanted o (yielded ops a.tmps) = true then Oper.wp P o a w C Q else E :=
  step_of_wp hg (wp_vlook w m x c hop T b M hm h x0 hx hok hK)
theorem wp_vstore [DecidableEq K] (w : World) (m x v : Operand) (hop : o.op = Op.mapUpdate t m x v) (T : MT P t k e ek kl ev ok z) (b : Nat) (M : List (K × V)) (hm : a.eval m = .map (some b)) (h : VMap P k kl ev w b M) (x0 : K) (u0 : V) (hx : a.eval x = ek x0) (hv : a.eval v = ev u0) (hok : ok x0) (hn : M.length < maxLen) (hK : ∀ w', VMap P k kl ev w' b (mput M x0 u0) → w.mapTurned w' b → C (a.put o.dst undef) w') : Oper.wp P o a w C Q := by
  obtain ⟨w', hrun, r1, r2⟩ := h.store T x0 hok u0 hn
  unfold Oper.wp
  simp [execOp, hop, hm, hx, hv, hrun, Result.andThen]
  exact hK w' r1 r2
theorem wpList_vstore [DecidableEq K] (w : World) (hg : o.guard = none) (m x v : Operand) (hop : o.op = Op.mapUpdate t m x v) (T : MT P t k e ek kl ev ok z) (b : Nat) (M : List (K × V)) (hm : a.eval m = .map (some b)) (h : VMap P k kl ev w b M) (x0 : K) (u0 : V) (hx : a.eval x = ek x0) (hv : a.eval v = ev u0) (hok : ok x0) (hn : M.length < maxLen) (hK : ∀ w', VMap P k kl ev w' b (mput M x0 u0) → w.mapTurned w' b → wpList P ops Q rest (a.put o.dst undef) w') : wpList P ops Q (o :: rest) a w :=
  wpList_plain hg fun _ hC => wp_vstore w m x v hop T b M hm h x0 u0 hx hv hok hn (fun w' h1 h2 => hC _ _ (hK w' h1 h2))
theorem step_vstore [DecidableEq K] (w : World) (hg : o.guard = none) (m x v : Operand) (hop : o.op = Op.mapUpdate t m x v) (T : MT P t k e ek kl ev ok z) (b : Nat) (M : List (K × V)) (hm : a.eval m = .map (some b)) (h : VMap P k kl ev w b M) (x0 : K) (u0 : V) (hx : a.eval x = ek x0) (hv : a.eval v = ev u0) (hok : ok x0) (hn : M.length < maxLen) (hK : ∀ w', VMap P k kl ev w' b (mput M x0 u0) → w.mapTurned w' b → C (a.put o.dst undef) w') : if Region.wanted o (yielded ops a.tmps) = true then Oper.wp P o a w C Q else E :=
  step_of_wp hg (wp_vstore w m x v hop T b M hm h x0 u0 hx hv hok hn hK)
theorem wp_vdel [DecidableEq K] (w : World) (m x : Operand) (hop : o.op = Op.call { callee := Callee.builtin Builtin.delete, args := #[m, x], argTypes := #[t, k] }) (T : MT P t k e ek kl ev ok z) (b : Nat) (M : List (K × V)) (hm : a.eval m = .map (some b)) (h : VMap P k kl ev w b M) (x0 : K) (hx : a.eval x = ek x0) (hok : ok x0) (hK : ∀ w', VMap P k kl ev w' b (mdel M x0) → w.mapTurned w' b → C (a.put o.dst (.tuple #[])) w') : Oper.wp P o a w C Q := by
  obtain ⟨w', hrun, r1, r2⟩ := h.drop T x0 hok o.type
  unfold Oper.wp
  simp [execOp, hop, resolve, invoke, builtin, hm, hx, hrun, Result.andThen]
  exact hK w' r1 r2
theorem wpList_vdel [DecidableEq K] (w : World) (hg : o.guard = none) (m x : Operand) (hop : o.op = Op.call { callee := Callee.builtin Builtin.delete, args := #[m, x], argTypes := #[t, k] }) (T : MT P t k e ek kl ev ok z) (b : Nat) (M : List (K × V)) (hm : a.eval m = .map (some b)) (h : VMap P k kl ev w b M) (x0 : K) (hx : a.eval x = ek x0) (hok : ok x0) (hK : ∀ w', VMap P k kl ev w' b (mdel M x0) → w.mapTurned w' b → wpList P ops Q rest (a.put o.dst (.tuple #[])) w') : wpList P ops Q (o :: rest) a w :=
  wpList_plain hg fun _ hC => wp_vdel w m x hop T b M hm h x0 hx hok (fun w' h1 h2 => hC _ _ (hK w' h1 h2))
theorem step_vdel [DecidableEq K] (w : World) (hg : o.guard = none) (m x : Operand) (hop : o.op = Op.call { callee := Callee.builtin Builtin.delete, args := #[m, x], argTypes := #[t, k] }) (T : MT P t k e ek kl ev ok z) (b : Nat) (M : List (K × V)) (hm : a.eval m = .map (some b)) (h : VMap P k kl ev w b M) (x0 : K) (hx : a.eval x = ek x0) (hok : ok x0) (hK : ∀ w', VMap P k kl ev w' b (mdel M x0) → w.mapTurned w' b → C (a.put o.dst (.tuple #[])) w') : if Region.wanted o (yielded ops a.tmps) = true then Oper.wp P o a w C Q else E :=
  step_of_wp hg (wp_vdel w m x hop T b M hm h x0 hx hok hK)
theorem wp_vlen (w : World) (m : Operand) (hop : o.op = Op.call { callee := Callee.builtin Builtin.len, args := #[m], argTypes := #[t] }) (ht : P.underlying t = some (.map k e)) (b : Nat) (M : List (K × V)) (hm : a.eval m = .map (some b)) (h : VMap P k kl ev w b M) (hK : C (a.put o.dst (.int .i64 M.length)) w) : Oper.wp P o a w C Q := by
  have hrun := h.len ht o.type
  unfold Oper.wp
  simp [execOp, hop, resolve, invoke, builtin, hm, hrun, Result.andThen]
  exact hK
theorem wpList_vlen (w : World) (hg : o.guard = none) (m : Operand) (hop : o.op = Op.call { callee := Callee.builtin Builtin.len, args := #[m], argTypes := #[t] }) (ht : P.underlying t = some (.map k e)) (b : Nat) (M : List (K × V)) (hm : a.eval m = .map (some b)) (h : VMap P k kl ev w b M) (hK : wpList P ops Q rest (a.put o.dst (.int .i64 M.length)) w) : wpList P ops Q (o :: rest) a w :=
  wpList_plain hg fun _ hC => wp_vlen w m hop ht b M hm h (hC _ _ (hK))
theorem step_vlen (w : World) (hg : o.guard = none) (m : Operand) (hop : o.op = Op.call { callee := Callee.builtin Builtin.len, args := #[m], argTypes := #[t] }) (ht : P.underlying t = some (.map k e)) (b : Nat) (M : List (K × V)) (hm : a.eval m = .map (some b)) (h : VMap P k kl ev w b M) (hK : C (a.put o.dst (.int .i64 M.length)) w) : if Region.wanted o (yielded ops a.tmps) = true then Oper.wp P o a w C Q else E :=
  step_of_wp hg (wp_vlen w m hop ht b M hm h hK)
theorem wp_vrange (w : World) (m : Operand) (hop : o.op = Op.range t m) (T : MT P t k e ek kl ev ok z) (b : Nat) (M : List (K × V)) (hm : a.eval m = .map (some b)) (h : VMap P k kl ev w b M) (hK : ∀ w', Iter P k kl ev w' b w.heap.size M M → Fr [] w w' → w'.heap.size = w.heap.size + 1 → C (a.put o.dst (.pointer (some ⟨w.heap.size, 0, none⟩))) w') : Oper.wp P o a w C Q := by
  obtain ⟨w', hrun, r1, r2, r3⟩ := h.range T
  unfold Oper.wp
  simp [execOp, hop, hm, hrun, Result.andThen]
  exact hK w' r1 r2 r3
theorem wpList_vrange (w : World) (hg : o.guard = none) (m : Operand) (hop : o.op = Op.range t m) (T : MT P t k e ek kl ev ok z) (b : Nat) (M : List (K × V)) (hm : a.eval m = .map (some b)) (h : VMap P k kl ev w b M) (hK : ∀ w', Iter P k kl ev w' b w.heap.size M M → Fr [] w w' → w'.heap.size = w.heap.size + 1 → wpList P ops Q rest (a.put o.dst (.pointer (some ⟨w.heap.size, 0, none⟩))) w') : wpList P ops Q (o :: rest) a w :=
  wpList_plain hg fun _ hC => wp_vrange w m hop T b M hm h (fun w' h1 h2 h3 => hC _ _ (hK w' h1 h2 h3))
theorem step_vrange (w : World) (hg : o.guard = none) (m : Operand) (hop : o.op = Op.range t m) (T : MT P t k e ek kl ev ok z) (b : Nat) (M : List (K × V)) (hm : a.eval m = .map (some b)) (h : VMap P k kl ev w b M) (hK : ∀ w', Iter P k kl ev w' b w.heap.size M M → Fr [] w w' → w'.heap.size = w.heap.size + 1 → C (a.put o.dst (.pointer (some ⟨w.heap.size, 0, none⟩))) w') : if Region.wanted o (yielded ops a.tmps) = true then Oper.wp P o a w C Q else E :=
  step_of_wp hg (wp_vrange w m hop T b M hm h hK)
theorem wp_vdel_iter [DecidableEq K] (w : World) (m x : Operand) (hop : o.op = Op.call { callee := Callee.builtin Builtin.delete, args := #[m, x], argTypes := #[t, k] }) (T : MT P t k e ek kl ev ok z) (b r : Nat) (M left : List (K × V)) (hm : a.eval m = .map (some b)) (h : Iter P k kl ev w b r M left) (x0 : K) (hx : a.eval x = ek x0) (hok : ok x0) (hK : ∀ w', Iter P k kl ev w' b r (mdel M x0) (mdel left x0) → w.mapTurned w' b → C (a.put o.dst (.tuple #[])) w') : Oper.wp P o a w C Q := by
  obtain ⟨w', hrun, r1, r2⟩ := h.drop T x0 hok o.type
  unfold Oper.wp
  simp [execOp, hop, resolve, invoke, builtin, hm, hx, hrun, Result.andThen]
  exact hK w' r1 r2
theorem wpList_vdel_iter [DecidableEq K] (w : World) (hg : o.guard = none) (m x : Operand) (hop : o.op = Op.call { callee := Callee.builtin Builtin.delete, args := #[m, x], argTypes := #[t, k] }) (T : MT P t k e ek kl ev ok z) (b r : Nat) (M left : List (K × V)) (hm : a.eval m = .map (some b)) (h : Iter P k kl ev w b r M left) (x0 : K) (hx : a.eval x = ek x0) (hok : ok x0) (hK : ∀ w', Iter P k kl ev w' b r (mdel M x0) (mdel left x0) → w.mapTurned w' b → wpList P ops Q rest (a.put o.dst (.tuple #[])) w') : wpList P ops Q (o :: rest) a w :=
  wpList_plain hg fun _ hC => wp_vdel_iter w m x hop T b r M left hm h x0 hx hok (fun w' h1 h2 => hC _ _ (hK w' h1 h2))
theorem step_vdel_iter [DecidableEq K] (w : World) (hg : o.guard = none) (m x : Operand) (hop : o.op = Op.call { callee := Callee.builtin Builtin.delete, args := #[m, x], argTypes := #[t, k] }) (T : MT P t k e ek kl ev ok z) (b r : Nat) (M left : List (K × V)) (hm : a.eval m = .map (some b)) (h : Iter P k kl ev w b r M left) (x0 : K) (hx : a.eval x = ek x0) (hok : ok x0) (hK : ∀ w', Iter P k kl ev w' b r (mdel M x0) (mdel left x0) → w.mapTurned w' b → C (a.put o.dst (.tuple #[])) w') : if Region.wanted o (yielded ops a.tmps) = true then Oper.wp P o a w C Q else E :=
  step_of_wp hg (wp_vdel_iter w m x hop T b r M left hm h x0 hx hok hK)
theorem wpList_vnext (w : World) (hg : o.guard = none) (it : Operand) (hop : o.op = Op.next it false) (T : MT P t k e ek kl ev ok z) (b r : Nat) (M left : List (K × V)) (hkv : ∀ q ∈ M, ok q.1)
    (hit : a.eval it = .pointer (some ⟨r, 0, none⟩)) (h : Iter P k kl ev w b r M left)
    (hDone : left = [] → wpList P ops Q rest (a.put o.dst (.tuple #[.bool false])) w)
    (hMore : ∀ (x : K) (u : V) (left' : List (K × V)) (w' : World), left.Perm ((x, u) :: left') → (x, u) ∈ M → Iter P k kl ev w' b r M left' → Fr [r] w w' → w'.heap.size = w.heap.size →
      (Instr.entry (.pointer (some ⟨r, 0, none⟩))).run P w' = .ok (.tuple #[ek x, ev u]) w' → wpList P ops Q rest (a.put o.dst (.tuple #[.bool true, ek x, ev u])) w') :
    wpList P ops Q (o :: rest) a w := by
  refine wpList_plain hg fun K' hK' => ?_
  unfold Oper.wp
  rcases h.next T hkv o.type with ⟨h0, hrun⟩ | ⟨x, u, left', w', hp, hm, hrun, hi, hf, hs, hen⟩
  · simp [execOp, hop, hit, hrun, Result.andThen]
    exact hK' _ _ (hDone h0)
  · simp [execOp, hop, hit, hrun, Result.andThen]
    exact hK' _ _ (hMore x u left' w' hp hm hi hf hs hen)
end
end Go.Proofs.Ythiaaminkfkjpaa
namespace Go.Proofs.Ythiaaminkfkjpaa
open Go.RowKit

section
variable {P : Program} {ops : Array Oper} {md : Region.Mode} {C : World → Prop}
/-- Some operations of the head are still to come: whichever may come up is one of the head. -/
def HeadQ (P : Program) (md : Region.Mode) (ops : Array Oper) (C : World → Prop) (n : Nat) (L : Array Bool → Act → Prop) : Nat → Array Bool → Act → Prop
  | 0, done, a => L done a
  | f + 1, done, a => Region.ready md ops done ≠ [] ∧ ∀ i ∈ Region.ready md ops done, i < n ∧ qOp P ops C i (HeadQ P md ops C n L f (done.setIfInBounds i true)) a

theorem HeadQ.any {n g : Nat} {L : Array Bool → Act → Prop} {Q' : Exit → Act → World → Prop} (hL : ∀ done a w, C w → L done a → wpAny P md ops Q' g done a w) :
    ∀ (f : Nat) (done : Array Bool) (a : Act) (w : World), C w → HeadQ P md ops C n L f done a → wpAny P md ops Q' (f + g) done a w := by
  intro f
  induction f with
  | zero => intro done a w hw h; rw [Nat.zero_add]; exact hL _ _ _ hw h
  | succ f ih =>
    intro done a w hw h
    rw [Nat.add_right_comm]
    exact ⟨fun h0 => absurd h0 h.1, fun i hi => wpOp_of_qOp hw (fun a' w' hw' h' => ih _ a' w' hw' h') (h.2 i hi).2⟩

theorem HeadQ.first {n i : Nat} {oi : Oper} {v : Value} {L : Array Bool → Act → Prop} (hi : ops[i]? = some oi) (hsel : ∀ (j : Nat) (o : Oper) cs b, ops[j]? = some o → o.op ≠ .select cs b)
    (hs : Region.sinkB md ops n = true) (hc : Region.chainB md ops n = true) (hn : n < ops.size) (hin : i < n) (hend : ∀ done a, L done a → ∀ j ∈ Region.ready md ops done, n ≤ j) :
    ∀ (f : Nat) (done : Array Bool) (a : Act), HeadInv md ops n done →
      (∀ j oj, ops[j]? = some oj → j ≠ i → done.getD j true = false → (∀ e ∈ oj.after, Region.binds md e = true → e.on ≠ i) → oi.apart ops oj = true) →
      i ∈ Region.ready md ops done → YieldsIn P ops C oi v a → HeadQ P md ops C n L f (done.setIfInBounds i true) (a.put oi.dst v) → HeadQ P md ops C n L (f + 1) done a := by
  intro f
  induction f with
  | zero =>
    intro done a inv _ hr hy H
    have hun := (mem_ready.1 hr).1
    refine ⟨List.ne_nil_of_mem hr, fun j hj => ?_⟩
    have hjn : j < n := Nat.lt_of_not_le fun h => tail_waits hs hc hn inv _ i rfl hin hun j h hj
    refine ⟨hjn, ?_⟩
    by_cases e : j = i
    · subst e
      exact hy.qOp hi H
    · exact absurd (hend _ _ H j (ready_mono hj e)) (by omega)
  | succ f ih =>
    intro done a inv hfree hr hy H
    have hun := (mem_ready.1 hr).1
    refine ⟨List.ne_nil_of_mem hr, fun j hj => ?_⟩
    have hjn : j < n := Nat.lt_of_not_le fun h => tail_waits hs hc hn inv _ i rfl hin hun j h hj
    refine ⟨hjn, ?_⟩
    by_cases e : j = i
    · subst e
      exact hy.qOp hi H
    · obtain ⟨hjun, oj, hoj, hall⟩ := mem_ready.1 hj
      have hnot : ∀ e ∈ oj.after, Region.binds md e = true → e.on ≠ i := by
        intro x hx hb hxi
        have h1 := hall x hx hb
        rw [hxi, getD_both hun] at h1
        cases h1
      have hsw := qOp_put hoj (hfree j oj hoj e hjun hnot) (fun cs b => hsel i oi cs b hi) (fun cs b => hsel j oj cs b hoj) hy (H.2 j (ready_mono hj e)).2
      refine qOp_mono (fun a' h3 => ?_) hsw
      refine ih (done.setIfInBounds j true) a' (inv.set hj hjn) ?_ (ready_mono hr (Ne.symm e)) h3.1 ?_
      · intro k ok hk hki hkun hkn
        refine hfree k ok hk hki ?_ hkn
        by_cases hjk : j = k
        · subst hjk
          exact hjun
        · rwa [getD_set_ne true hjk] at hkun
      · rw [Array.setIfInBounds_comm _ _ e]
        exact h3.2

theorem HeadQ.lex {n g : Nat} {L : Act → Prop} (hsel : Region.noSelect ops = true) (hs : Region.sinkB md ops n = true) (hc : Region.chainB md ops n = true) (hn : n < ops.size) :
    ∀ (l : List Oper) (k : Nat) (done : Array Bool) (a : Act), (∀ j, j < l.length → l[j]? = ops[k + j]?) → k + l.length = n → HeadInv md ops n done → Region.lexHead md ops g l.length k done = true →
      wpQuiet P ops C L l a → HeadQ P md ops C n (fun d a' => Region.seqB md ops g n d = true ∧ L a') l.length done a := by
  intro l
  induction l with
  | nil =>
    intro k done a _ hk _ hB h
    have : k = n := by simpa using hk
    subst this
    exact ⟨by simpa [Region.lexHead] using hB, h⟩
  | cons o l ih =>
    intro k done a hl hk inv hB h
    have h0 : ops[k]? = some o := by simpa using (hl 0 (by simp)).symm
    simp only [List.length_cons, Region.lexHead, Bool.and_eq_true] at hB
    obtain ⟨⟨hr, hf⟩, hB'⟩ := hB
    have hkn : k < n := by simp only [List.length_cons] at hk; omega
    have hr' : k ∈ Region.ready md ops done := by simpa using hr
    have hq : qOp P ops C k (wpQuiet P ops C L l) a := by unfold qOp; simp only [h0]; exact h
    obtain ⟨v, hy, hK⟩ := yieldsIn_of_qOp h0 hq
    refine HeadQ.first h0 (Region.noSelect_spec hsel) hs hc hn hkn (fun d a' hL => seqB_ready hL.1) l.length done a inv (Region.free_spec h0 hf) hr' hy (ih (k + 1) _ _ (fun j hj => ?_) ?_ (inv.set hr' hkn) hB' hK)
    · have := hl (j + 1) (by simp; omega)
      simpa [Nat.add_assoc, Nat.add_comm 1 j] using this
    · simp only [List.length_cons] at hk
      omega

theorem wp_region_quiet_tail {id : Nat} {Q : Exit → Act → World → Prop} {a : Act} {w : World} {l : List Oper} (n : Nat) (hm : P.follows .mixedOrders = true) (hB : Region.lexTailB .any l.toArray n = true) (hC : C { w with drawn := w.drawn + 1 })
    (h : wpQuiet P l.toArray C (fun a' => ∀ w', C w' → wpList P l.toArray Q (l.drop n) a' w') (l.take n) a) : (Code.region id l.toArray true).wp P Q a w := by
  simp only [Region.lexTailB, Bool.and_eq_true, decide_eq_true_eq] at hB
  obtain ⟨⟨⟨⟨hsel, hn⟩, hs⟩, hc⟩, hlex⟩ := hB
  have hn' : n < l.length := by simpa using hn
  have htl : (l.take n).length = n := by rw [List.length_take]; omega
  have hdl : (l.drop n).length = l.toArray.size - n := by simp
  have inv0 : HeadInv .any l.toArray n (Array.replicate l.toArray.size false) :=
    ⟨by simp, fun j oj _ hl => (by rw [getD_replicate_false] at hl; cases hl), fun t _ ht => getD_in (by simpa using ht) (getD_replicate_false _ _)⟩
  have H := HeadQ.lex (P := P) (C := C) (md := .any) (g := l.toArray.size - n) (L := fun a' => ∀ w', C w' → wpList P l.toArray Q (l.drop n) a' w') hsel hs hc hn (l.take n) 0 _ a
    (fun j hj => by rw [htl] at hj; simp [hj]) (by simpa using htl) inv0 (by rw [htl]; exact hlex) h
  refine wp_region_any hm ?_
  have H2 := HeadQ.any (Q' := Q) (g := l.toArray.size - n) (fun d a' w' hw' hL => by
    have h1 := wpAny_of_seq (md := .any) (Q' := Q) (l.drop n) n d a' w' (fun j => by simp [List.getElem?_drop]) (by rw [hdl]; exact hL.1) (hL.2 w' hw')
    rwa [hdl] at h1) _ _ _ _ hC H
  rw [htl, show n + (l.toArray.size - n) = l.toArray.size by omega] at H2
  exact H2
end
end Go.Proofs.Ythiaaminkfkjpaa

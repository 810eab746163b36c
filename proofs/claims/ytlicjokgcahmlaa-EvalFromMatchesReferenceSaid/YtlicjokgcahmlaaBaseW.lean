/-
  THE LAWS OF 'VMap' AND 'Iter' AT THE OPERATIONS, for the walk: 'wp_..' at the operation, 'wpList_..' in a plain region, 'step_..' in a region that draws its order.
-/
import Derived.Test.YtlicjokgcahmlaaBase
import Derived.RegionTactic
namespace Go.Proofs.Ytlicjokgcahmlaa
open Go.RowKit Go.ChangeMaps
section
variable {K V : Type} {P : Program} {t k e : TypeId} {ek : K → Value} {kl : K → Lit} {ev : V → Value} {ok : K → Prop} {z : Value} {o : Oper} {a : Act} {C : Act → World → Prop} {Q : Exit → Act → World → Prop} {ops : Array Oper} {rest : List Oper} {E : Prop}

theorem step_of_wp {w : World} (hg : o.guard = none) (h : Oper.wp P o a w C Q) : if Region.wanted o (yielded ops a.tmps) = true then Oper.wp P o a w C Q else E := by
  rw [if_pos (by simp [Region.wanted, hg])]
  exact h
theorem wp_vlook [DecidableEq K] (w : World) (m x : Operand) (c : Bool) (hop : o.op = Op.lookup t m x c) (T : MT P t k e ek kl ev ok z) (b : Nat) (M : List (K × V)) (hm : a.eval m = .map (some b)) (h : VMap P k kl ev w b M) (x0 : K) (hx : a.eval x = ek x0) (hok : ok x0) (hK : C (a.put o.dst (if c then .tuple #[((mget M x0).map ev).getD z, .bool (mget M x0).isSome] else ((mget M x0).map ev).getD z)) w) : Oper.wp P o a w C Q := by
  have hrun := h.look T x0 hok c
  unfold Oper.wp
  simp [execOp, hop, hm, hx, hrun, Result.andThen]
  exact hK
theorem wpList_vlook [DecidableEq K] (w : World) (hg : o.guard = none) (m x : Operand) (c : Bool) (hop : o.op = Op.lookup t m x c) (T : MT P t k e ek kl ev ok z) (b : Nat) (M : List (K × V)) (hm : a.eval m = .map (some b)) (h : VMap P k kl ev w b M) (x0 : K) (hx : a.eval x = ek x0) (hok : ok x0) (hK : wpList P ops Q rest (a.put o.dst (if c then .tuple #[((mget M x0).map ev).getD z, .bool (mget M x0).isSome] else ((mget M x0).map ev).getD z)) w) : wpList P ops Q (o :: rest) a w :=
  wpList_plain hg fun _ hC => wp_vlook w m x c hop T b M hm h x0 hx hok (hC _ _ (hK))
theorem step_vlook [DecidableEq K] (w : World) (hg : o.guard = none) (m x : Operand) (c : Bool) (hop : o.op = Op.lookup t m x c) (T : MT P t k e ek kl ev ok z) (b : Nat) (M : List (K × V)) (hm : a.eval m = .map (some b)) (h : VMap P k kl ev w b M) (x0 : K) (hx : a.eval x = ek x0) (hok : ok x0) (hK : C (a.put o.dst (if c then .tuple #[((mget M x0).map ev).getD z, .bool (mget M x0).isSome] else ((mget M x0).map ev).getD z)) w) : if Region.wanted o (yielded ops a.tmps) = true then Oper.wp P o a w C Q else E :=
  step_of_wp hg (wp_vlook w m x c hop T b M hm h x0 hx hok hK)
theorem wp_vstore [DecidableEq K] (w : World) (m x v : Operand) (hop : o.op = Op.mapUpdate t m x v) (T : MT P t k e ek kl ev ok z) (b : Nat) (M : List (K × V)) (hm : a.eval m = .map (some b)) (h : VMap P k kl ev w b M) (x0 : K) (u0 : V) (hx : a.eval x = ek x0) (hv : a.eval v = ev u0) (hok : ok x0) (hn : M.length < maxLen) (hK : ∀ w', VMap P k kl ev w' b (mput M x0 u0) → w.mapTurned w' b → C (a.put o.dst undef) w') : Oper.wp P o a w C Q := by
  obtain ⟨w', hrun, r1, r2⟩ := h.store T x0 hok u0 hn
  unfold Oper.wp
  simp [execOp, hop, hm, hx, hv, hrun, Result.andThen]
  exact hK w' r1 r2
theorem wpList_vstore [DecidableEq K] (w : World) (hg : o.guard = none) (m x v : Operand) (hop : o.op = Op.mapUpdate t m x v) (T : MT P t k e ek kl ev ok z) (b : Nat) (M : List (K × V)) (hm : a.eval m = .map (some b)) (h : VMap P k kl ev w b M) (x0 : K) (u0 : V) (hx : a.eval x = ek x0) (hv : a.eval v = ev u0) (hok : ok x0) (hn : M.length < maxLen) (hK : ∀ w', VMap P k kl ev w' b (mput M x0 u0) → w.mapTurned w' b → wpList P ops Q rest (a.put o.dst undef) w') : wpList P ops Q (o :: rest) a w :=
  wpList_plain hg fun _ hC => wp_vstore w m x v hop T b M hm h x0 u0 hx hv hok hn (fun w' h1 h2 => hC _ _ (hK w' h1 h2))
theorem step_vstore [DecidableEq K] (w : World) (hg : o.guard = none) (m x v : Operand) (hop : o.op = Op.mapUpdate t m x v) (T : MT P t k e ek kl ev ok z) (b : Nat) (M : List (K × V)) (hm : a.eval m = .map (some b)) (h : VMap P k kl ev w b M) (x0 : K) (u0 : V) (hx : a.eval x = ek x0) (hv : a.eval v = ev u0) (hok : ok x0) (hn : M.length < maxLen) (hK : ∀ w', VMap P k kl ev w' b (mput M x0 u0) → w.mapTurned w' b → C (a.put o.dst undef) w') : if Region.wanted o (yielded ops a.tmps) = true then Oper.wp P o a w C Q else E :=
  step_of_wp hg (wp_vstore w m x v hop T b M hm h x0 u0 hx hv hok hn hK)
theorem wp_vdel [DecidableEq K] (w : World) (m x : Operand) (hop : o.op = Op.call { callee := Callee.builtin Builtin.delete, args := #[m, x], argTypes := #[t, k] }) (T : MT P t k e ek kl ev ok z) (b : Nat) (M : List (K × V)) (hm : a.eval m = .map (some b)) (h : VMap P k kl ev w b M) (x0 : K) (hx : a.eval x = ek x0) (hok : ok x0) (hK : ∀ w', VMap P k kl ev w' b (mdel M x0) → w.mapTurned w' b → C (a.put o.dst (.tuple #[])) w') : Oper.wp P o a w C Q := by
  obtain ⟨w', hrun, r1, r2⟩ := h.drop T x0 hok o.type
  unfold Oper.wp
  simp [execOp, hop, resolve, invoke, builtin, hm, hx, hrun, Result.andThen]
  exact hK w' r1 r2
theorem wpList_vdel [DecidableEq K] (w : World) (hg : o.guard = none) (m x : Operand) (hop : o.op = Op.call { callee := Callee.builtin Builtin.delete, args := #[m, x], argTypes := #[t, k] }) (T : MT P t k e ek kl ev ok z) (b : Nat) (M : List (K × V)) (hm : a.eval m = .map (some b)) (h : VMap P k kl ev w b M) (x0 : K) (hx : a.eval x = ek x0) (hok : ok x0) (hK : ∀ w', VMap P k kl ev w' b (mdel M x0) → w.mapTurned w' b → wpList P ops Q rest (a.put o.dst (.tuple #[])) w') : wpList P ops Q (o :: rest) a w :=
  wpList_plain hg fun _ hC => wp_vdel w m x hop T b M hm h x0 hx hok (fun w' h1 h2 => hC _ _ (hK w' h1 h2))
theorem step_vdel [DecidableEq K] (w : World) (hg : o.guard = none) (m x : Operand) (hop : o.op = Op.call { callee := Callee.builtin Builtin.delete, args := #[m, x], argTypes := #[t, k] }) (T : MT P t k e ek kl ev ok z) (b : Nat) (M : List (K × V)) (hm : a.eval m = .map (some b)) (h : VMap P k kl ev w b M) (x0 : K) (hx : a.eval x = ek x0) (hok : ok x0) (hK : ∀ w', VMap P k kl ev w' b (mdel M x0) → w.mapTurned w' b → C (a.put o.dst (.tuple #[])) w') : if Region.wanted o (yielded ops a.tmps) = true then Oper.wp P o a w C Q else E :=
  step_of_wp hg (wp_vdel w m x hop T b M hm h x0 hx hok hK)
theorem wp_vlen (w : World) (m : Operand) (hop : o.op = Op.call { callee := Callee.builtin Builtin.len, args := #[m], argTypes := #[t] }) (ht : P.underlying t = some (.map k e)) (b : Nat) (M : List (K × V)) (hm : a.eval m = .map (some b)) (h : VMap P k kl ev w b M) (hK : C (a.put o.dst (.int .i64 M.length)) w) : Oper.wp P o a w C Q := by
  have hrun := h.len ht o.type
  unfold Oper.wp
  simp [execOp, hop, resolve, invoke, builtin, hm, hrun, Result.andThen]
  exact hK
theorem wpList_vlen (w : World) (hg : o.guard = none) (m : Operand) (hop : o.op = Op.call { callee := Callee.builtin Builtin.len, args := #[m], argTypes := #[t] }) (ht : P.underlying t = some (.map k e)) (b : Nat) (M : List (K × V)) (hm : a.eval m = .map (some b)) (h : VMap P k kl ev w b M) (hK : wpList P ops Q rest (a.put o.dst (.int .i64 M.length)) w) : wpList P ops Q (o :: rest) a w :=
  wpList_plain hg fun _ hC => wp_vlen w m hop ht b M hm h (hC _ _ (hK))
theorem step_vlen (w : World) (hg : o.guard = none) (m : Operand) (hop : o.op = Op.call { callee := Callee.builtin Builtin.len, args := #[m], argTypes := #[t] }) (ht : P.underlying t = some (.map k e)) (b : Nat) (M : List (K × V)) (hm : a.eval m = .map (some b)) (h : VMap P k kl ev w b M) (hK : C (a.put o.dst (.int .i64 M.length)) w) : if Region.wanted o (yielded ops a.tmps) = true then Oper.wp P o a w C Q else E :=
  step_of_wp hg (wp_vlen w m hop ht b M hm h hK)
theorem wp_vrange (w : World) (m : Operand) (hop : o.op = Op.range t m) (T : MT P t k e ek kl ev ok z) (b : Nat) (M : List (K × V)) (hm : a.eval m = .map (some b)) (h : VMap P k kl ev w b M) (hK : ∀ w', Iter P k kl ev w' b w.heap.size M M → Fr [] w w' → w'.heap.size = w.heap.size + 1 → C (a.put o.dst (.pointer (some ⟨w.heap.size, 0, none⟩))) w') : Oper.wp P o a w C Q := by
  obtain ⟨w', hrun, r1, r2, r3⟩ := h.range T
  unfold Oper.wp
  simp [execOp, hop, hm, hrun, Result.andThen]
  exact hK w' r1 r2 r3
theorem wpList_vrange (w : World) (hg : o.guard = none) (m : Operand) (hop : o.op = Op.range t m) (T : MT P t k e ek kl ev ok z) (b : Nat) (M : List (K × V)) (hm : a.eval m = .map (some b)) (h : VMap P k kl ev w b M) (hK : ∀ w', Iter P k kl ev w' b w.heap.size M M → Fr [] w w' → w'.heap.size = w.heap.size + 1 → wpList P ops Q rest (a.put o.dst (.pointer (some ⟨w.heap.size, 0, none⟩))) w') : wpList P ops Q (o :: rest) a w :=
  wpList_plain hg fun _ hC => wp_vrange w m hop T b M hm h (fun w' h1 h2 h3 => hC _ _ (hK w' h1 h2 h3))
theorem step_vrange (w : World) (hg : o.guard = none) (m : Operand) (hop : o.op = Op.range t m) (T : MT P t k e ek kl ev ok z) (b : Nat) (M : List (K × V)) (hm : a.eval m = .map (some b)) (h : VMap P k kl ev w b M) (hK : ∀ w', Iter P k kl ev w' b w.heap.size M M → Fr [] w w' → w'.heap.size = w.heap.size + 1 → C (a.put o.dst (.pointer (some ⟨w.heap.size, 0, none⟩))) w') : if Region.wanted o (yielded ops a.tmps) = true then Oper.wp P o a w C Q else E :=
  step_of_wp hg (wp_vrange w m hop T b M hm h hK)
theorem wp_vdel_iter [DecidableEq K] (w : World) (m x : Operand) (hop : o.op = Op.call { callee := Callee.builtin Builtin.delete, args := #[m, x], argTypes := #[t, k] }) (T : MT P t k e ek kl ev ok z) (b r : Nat) (M left : List (K × V)) (hm : a.eval m = .map (some b)) (h : Iter P k kl ev w b r M left) (x0 : K) (hx : a.eval x = ek x0) (hok : ok x0) (hK : ∀ w', Iter P k kl ev w' b r (mdel M x0) (mdel left x0) → w.mapTurned w' b → C (a.put o.dst (.tuple #[])) w') : Oper.wp P o a w C Q := by
  obtain ⟨w', hrun, r1, r2⟩ := h.drop T x0 hok o.type
  unfold Oper.wp
  simp [execOp, hop, resolve, invoke, builtin, hm, hx, hrun, Result.andThen]
  exact hK w' r1 r2
theorem wpList_vdel_iter [DecidableEq K] (w : World) (hg : o.guard = none) (m x : Operand) (hop : o.op = Op.call { callee := Callee.builtin Builtin.delete, args := #[m, x], argTypes := #[t, k] }) (T : MT P t k e ek kl ev ok z) (b r : Nat) (M left : List (K × V)) (hm : a.eval m = .map (some b)) (h : Iter P k kl ev w b r M left) (x0 : K) (hx : a.eval x = ek x0) (hok : ok x0) (hK : ∀ w', Iter P k kl ev w' b r (mdel M x0) (mdel left x0) → w.mapTurned w' b → wpList P ops Q rest (a.put o.dst (.tuple #[])) w') : wpList P ops Q (o :: rest) a w :=
  wpList_plain hg fun _ hC => wp_vdel_iter w m x hop T b r M left hm h x0 hx hok (fun w' h1 h2 => hC _ _ (hK w' h1 h2))
theorem step_vdel_iter [DecidableEq K] (w : World) (hg : o.guard = none) (m x : Operand) (hop : o.op = Op.call { callee := Callee.builtin Builtin.delete, args := #[m, x], argTypes := #[t, k] }) (T : MT P t k e ek kl ev ok z) (b r : Nat) (M left : List (K × V)) (hm : a.eval m = .map (some b)) (h : Iter P k kl ev w b r M left) (x0 : K) (hx : a.eval x = ek x0) (hok : ok x0) (hK : ∀ w', Iter P k kl ev w' b r (mdel M x0) (mdel left x0) → w.mapTurned w' b → C (a.put o.dst (.tuple #[])) w') : if Region.wanted o (yielded ops a.tmps) = true then Oper.wp P o a w C Q else E :=
  step_of_wp hg (wp_vdel_iter w m x hop T b r M left hm h x0 hx hok hK)
theorem wpList_vnext (w : World) (hg : o.guard = none) (it : Operand) (hop : o.op = Op.next it false) (T : MT P t k e ek kl ev ok z) (b r : Nat) (M left : List (K × V)) (hkv : ∀ q ∈ M, ok q.1)
    (hit : a.eval it = .pointer (some ⟨r, 0, none⟩)) (h : Iter P k kl ev w b r M left)
    (hDone : left = [] → wpList P ops Q rest (a.put o.dst (.tuple #[.bool false])) w)
    (hMore : ∀ (x : K) (u : V) (left' : List (K × V)) (w' : World), left.Perm ((x, u) :: left') → (x, u) ∈ M → Iter P k kl ev w' b r M left' → Fr [r] w w' → w'.heap.size = w.heap.size →
      (Instr.entry (.pointer (some ⟨r, 0, none⟩))).run P w' = .ok (.tuple #[ek x, ev u]) w' → wpList P ops Q rest (a.put o.dst (.tuple #[.bool true, ek x, ev u])) w') :
    wpList P ops Q (o :: rest) a w := by
  refine wpList_plain hg fun K' hK' => ?_
  unfold Oper.wp
  rcases h.next T hkv o.type with ⟨h0, hrun⟩ | ⟨x, u, left', w', hp, hm, hrun, hi, hf, hs, hen⟩
  · simp [execOp, hop, hit, hrun, Result.andThen]
    exact hK' _ _ (hDone h0)
  · simp [execOp, hop, hit, hrun, Result.andThen]
    exact hK' _ _ (hMore x u left' w' hp hm hi hf hs hen)
end
end Go.Proofs.Ytlicjokgcahmlaa

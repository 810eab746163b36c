/-
  An argument that is a slice of arrays of six integers.
-/
import Derived.Test.YtciaallekkdnhaaGreatJa
import Derived.RegionTactic
import Derived.Test.YtciaallekkdnhaaGreatChecked
import Derived.Test.YtciaallekkdnhaaGreatJb
import Derived.Outline
import Derived.Handy
import Derived.Deep.RegionHeld3
import Derived.Deep.DrawnRows
import Derived.Deep.QuietTactic
import Derived.BigQuiet
import Derived.Laws.StructEq
import Derived.OpenShut
import Derived.Deep.Slices
namespace Go.Proofs.YtciaallekkdnhaaGreat
open Go.RowKit Go.ChangeMaps
section
variable {K V : Type} {P : Program} {t k e : TypeId} {ek : K → Value} {kl : K → Lit} {ev : V → Value} {ok : K → Prop} {z : Value} {o : Oper} {a : Act} {C : Act → World → Prop} {Q : Exit → Act → World → Prop} {ops : Array Oper} {rest : List Oper} {E : Prop}

theorem step_of_wp {w : World} (hg : o.guard = none) (h : Oper.wp P o a w C Q) : if Region.wanted o (yielded ops a.tmps) = true then Oper.wp P o a w C Q else E := by
  rw [if_pos (by simp [Region.wanted, hg])]
  exact h
theorem wp_vlook [DecidableEq K] (w : World) (m x : Operand) (c : Bool) (hop : o.op = Op.lookup t m x c) (T : MT P t k e ek kl ev ok z) (b : Nat) (M : List (K × V)) (hm : a.eval m = .map (some b)) (h : VMap P k kl ev w b M) (x0 : K) (hx : a.eval x = ek x0) (hok : ok x0) (hK : C (a.put o.dst (if c then .tuple #[((mget M x0).map ev).getD z, .bool (mget M x0).isSome] else ((mget M x0).map ev).getD z)) w) : Oper.wp P o a w C Q := by
  have hrun := h.look T x0 hok c
  unfold Oper.wp
  simp [execOp, hop, hm, hx, hrun, Result.andThen]
  exact hK
theorem wpList_vlook [DecidableEq K] (w : World) (hg : o.guard = none) (m x : Operand) (c : Bool) (hop : o.op = Op.lookup t m x c) (T : MT P t k e ek kl ev ok z) (b : Nat) (M : List (K × V)) (hm : a.eval m = .map (some b)) (h : VMap P k kl ev w b M) (x0 : K) (hx : a.eval x = ek x0) (hok : ok x0) (hK : wpList P ops Q rest (a.put o.dst (if c then .tuple #[((mget M x0).map ev).getD z, .bool (mget M x0).isSome] else ((mget M x0).map ev).getD z)) w) : wpList P ops Q (o :: rest) a w :=
  wpList_plain hg fun _ hC => wp_vlook w m x c hop T b M hm h x0 hx hok (hC _ _ (hK))
theorem step_vlook [DecidableEq K] (w : World) (hg : o.guard = none) (m x : Operand) (c : Bool) (hop : o.op = Op.lookup t m x c) (T : MT P t k e ek kl ev ok z) (b : Nat) (M : List (K × V)) (hm : a.eval m = .map (some b)) (h : VMap P k kl ev w b M) (x0 : K) (hx : a.eval x = ek x0) (hok : ok x0) (hK : C (a.put o.dst (if c then .tuple #[((mget M x0).map ev).getD z, .bool (mget M x0).isSome] else ((mget M x0).map ev).getD z)) w) : if Region.wanted o (yielded ops a.tmps) = true then Oper.wp P o a w C Q else E :=
  step_of_wp hg (wp_vlook w m x c hop T b M hm h x0 hx hok hK)
theorem wp_vstore [DecidableEq K] (w : World) (m x v : Operand) (hop : o.op = Op.mapUpdate t m x v) (T : MT P t k e ek kl ev ok z) (b : Nat) (M : List (K × V)) (hm : a.eval m = .map (some b)) (h : VMap P k kl ev w b M) (x0 : K) (u0 : V) (hx : a.eval x = ek x0) (hv : a.eval v = ev u0) (hok : ok x0) (hn : M.length < maxLen) (hK : ∀ w', VMap P k kl ev w' b (mput M x0 u0) → w.mapTurned w' b → C (a.put o.dst undef) w') : Oper.wp P o a w C Q := by
  obtain ⟨w', hrun, r1, r2⟩ := h.store T x0 hok u0 hn
  unfold Oper.wp
  simp [execOp, hop, hm, hx, hv, hrun, Result.andThen]
  exact hK w' r1 r2
theorem wpList_vstore [DecidableEq K] (w : World) (hg : o.guard = none) (m x v : Operand) (hop : o.op = Op.mapUpdate t m x v) (T : MT P t k e ek kl ev ok z) (b : Nat) (M : List (K × V)) (hm : a.eval m = .map (some b)) (h : VMap P k kl ev w b M) (x0 : K) (u0 : V) (hx : a.eval x = ek x0) (hv : a.eval v = ev u0) (hok : ok x0) (hn : M.length < maxLen) (hK : ∀ w', VMap P k kl ev w' b (mput M x0 u0) → w.mapTurned w' b → wpList P ops Q rest (a.put o.dst undef) w') : wpList P ops Q (o :: rest) a w :=
  wpList_plain hg fun _ hC => wp_vstore w m x v hop T b M hm h x0 u0 hx hv hok hn (fun w' h1 h2 => hC _ _ (hK w' h1 h2))
theorem step_vstore [DecidableEq K] (w : World) (hg : o.guard = none) (m x v : Operand) (hop : o.op = Op.mapUpdate t m x v) (T : MT P t k e ek kl ev ok z) (b : Nat) (M : List (K × V)) (hm : a.eval m = .map (some b)) (h : VMap P k kl ev w b M) (x0 : K) (u0 : V) (hx : a.eval x = ek x0) (hv : a.eval v = ev u0) (hok : ok x0) (hn : M.length < maxLen) (hK : ∀ w', VMap P k kl ev w' b (mput M x0 u0) → w.mapTurned w' b → C (a.put o.dst undef) w') : if Region.wanted o (yielded ops a.tmps) = true then Oper.wp P o a w C Q else E :=
  step_of_wp hg (wp_vstore w m x v hop T b M hm h x0 u0 hx hv hok hn hK)
theorem wp_vdel [DecidableEq K] (w : World) (m x : Operand) (hop : o.op = Op.call { callee := Callee.builtin Builtin.delete, args := #[m, x], argTypes := #[t, k] }) (T : MT P t k e ek kl ev ok z) (b : Nat) (M : List (K × V)) (hm : a.eval m = .map (some b)) (h : VMap P k kl ev w b M) (x0 : K) (hx : a.eval x = ek x0) (hok : ok x0) (hK : ∀ w', VMap P k kl ev w' b (mdel M x0) → w.mapTurned w' b → C (a.put o.dst (.tuple #[])) w') : Oper.wp P o a w C Q := by
  obtain ⟨w', hrun, r1, r2⟩ := h.drop T x0 hok o.type
  unfold Oper.wp
  simp [execOp, hop, resolve, invoke, builtin, hm, hx, hrun, Result.andThen]
  exact hK w' r1 r2
theorem wpList_vdel [DecidableEq K] (w : World) (hg : o.guard = none) (m x : Operand) (hop : o.op = Op.call { callee := Callee.builtin Builtin.delete, args := #[m, x], argTypes := #[t, k] }) (T : MT P t k e ek kl ev ok z) (b : Nat) (M : List (K × V)) (hm : a.eval m = .map (some b)) (h : VMap P k kl ev w b M) (x0 : K) (hx : a.eval x = ek x0) (hok : ok x0) (hK : ∀ w', VMap P k kl ev w' b (mdel M x0) → w.mapTurned w' b → wpList P ops Q rest (a.put o.dst (.tuple #[])) w') : wpList P ops Q (o :: rest) a w :=
  wpList_plain hg fun _ hC => wp_vdel w m x hop T b M hm h x0 hx hok (fun w' h1 h2 => hC _ _ (hK w' h1 h2))
theorem step_vdel [DecidableEq K] (w : World) (hg : o.guard = none) (m x : Operand) (hop : o.op = Op.call { callee := Callee.builtin Builtin.delete, args := #[m, x], argTypes := #[t, k] }) (T : MT P t k e ek kl ev ok z) (b : Nat) (M : List (K × V)) (hm : a.eval m = .map (some b)) (h : VMap P k kl ev w b M) (x0 : K) (hx : a.eval x = ek x0) (hok : ok x0) (hK : ∀ w', VMap P k kl ev w' b (mdel M x0) → w.mapTurned w' b → C (a.put o.dst (.tuple #[])) w') : if Region.wanted o (yielded ops a.tmps) = true then Oper.wp P o a w C Q else E :=
  step_of_wp hg (wp_vdel w m x hop T b M hm h x0 hx hok hK)
theorem wp_vlen (w : World) (m : Operand) (hop : o.op = Op.call { callee := Callee.builtin Builtin.len, args := #[m], argTypes := #[t] }) (ht : P.underlying t = some (.map k e)) (b : Nat) (M : List (K × V)) (hm : a.eval m = .map (some b)) (h : VMap P k kl ev w b M) (hK : C (a.put o.dst (.int .i64 M.length)) w) : Oper.wp P o a w C Q := by
  have hrun := h.len ht o.type
  unfold Oper.wp
  simp [execOp, hop, resolve, invoke, builtin, hm, hrun, Result.andThen]
  exact hK
theorem wpList_vlen (w : World) (hg : o.guard = none) (m : Operand) (hop : o.op = Op.call { callee := Callee.builtin Builtin.len, args := #[m], argTypes := #[t] }) (ht : P.underlying t = some (.map k e)) (b : Nat) (M : List (K × V)) (hm : a.eval m = .map (some b)) (h : VMap P k kl ev w b M) (hK : wpList P ops Q rest (a.put o.dst (.int .i64 M.length)) w) : wpList P ops Q (o :: rest) a w :=
  wpList_plain hg fun _ hC => wp_vlen w m hop ht b M hm h (hC _ _ (hK))
theorem step_vlen (w : World) (hg : o.guard = none) (m : Operand) (hop : o.op = Op.call { callee := Callee.builtin Builtin.len, args := #[m], argTypes := #[t] }) (ht : P.underlying t = some (.map k e)) (b : Nat) (M : List (K × V)) (hm : a.eval m = .map (some b)) (h : VMap P k kl ev w b M) (hK : C (a.put o.dst (.int .i64 M.length)) w) : if Region.wanted o (yielded ops a.tmps) = true then Oper.wp P o a w C Q else E :=
  step_of_wp hg (wp_vlen w m hop ht b M hm h hK)
theorem wp_vrange (w : World) (m : Operand) (hop : o.op = Op.range t m) (T : MT P t k e ek kl ev ok z) (b : Nat) (M : List (K × V)) (hm : a.eval m = .map (some b)) (h : VMap P k kl ev w b M) (hK : ∀ w', Iter P k kl ev w' b w.heap.size M M → Fr [] w w' → w'.heap.size = w.heap.size + 1 → C (a.put o.dst (.pointer (some ⟨w.heap.size, 0, none⟩))) w') : Oper.wp P o a w C Q := by
  obtain ⟨w', hrun, r1, r2, r3⟩ := h.range T
  unfold Oper.wp
  simp [execOp, hop, hm, hrun, Result.andThen]
  exact hK w' r1 r2 r3
theorem wpList_vrange (w : World) (hg : o.guard = none) (m : Operand) (hop : o.op = Op.range t m) (T : MT P t k e ek kl ev ok z) (b : Nat) (M : List (K × V)) (hm : a.eval m = .map (some b)) (h : VMap P k kl ev w b M) (hK : ∀ w', Iter P k kl ev w' b w.heap.size M M → Fr [] w w' → w'.heap.size = w.heap.size + 1 → wpList P ops Q rest (a.put o.dst (.pointer (some ⟨w.heap.size, 0, none⟩))) w') : wpList P ops Q (o :: rest) a w :=
  wpList_plain hg fun _ hC => wp_vrange w m hop T b M hm h (fun w' h1 h2 h3 => hC _ _ (hK w' h1 h2 h3))
theorem step_vrange (w : World) (hg : o.guard = none) (m : Operand) (hop : o.op = Op.range t m) (T : MT P t k e ek kl ev ok z) (b : Nat) (M : List (K × V)) (hm : a.eval m = .map (some b)) (h : VMap P k kl ev w b M) (hK : ∀ w', Iter P k kl ev w' b w.heap.size M M → Fr [] w w' → w'.heap.size = w.heap.size + 1 → C (a.put o.dst (.pointer (some ⟨w.heap.size, 0, none⟩))) w') : if Region.wanted o (yielded ops a.tmps) = true then Oper.wp P o a w C Q else E :=
  step_of_wp hg (wp_vrange w m hop T b M hm h hK)
theorem wp_vdel_iter [DecidableEq K] (w : World) (m x : Operand) (hop : o.op = Op.call { callee := Callee.builtin Builtin.delete, args := #[m, x], argTypes := #[t, k] }) (T : MT P t k e ek kl ev ok z) (b r : Nat) (M left : List (K × V)) (hm : a.eval m = .map (some b)) (h : Iter P k kl ev w b r M left) (x0 : K) (hx : a.eval x = ek x0) (hok : ok x0) (hK : ∀ w', Iter P k kl ev w' b r (mdel M x0) (mdel left x0) → w.mapTurned w' b → C (a.put o.dst (.tuple #[])) w') : Oper.wp P o a w C Q := by
  obtain ⟨w', hrun, r1, r2⟩ := h.drop T x0 hok o.type
  unfold Oper.wp
  simp [execOp, hop, resolve, invoke, builtin, hm, hx, hrun, Result.andThen]
  exact hK w' r1 r2
theorem wpList_vdel_iter [DecidableEq K] (w : World) (hg : o.guard = none) (m x : Operand) (hop : o.op = Op.call { callee := Callee.builtin Builtin.delete, args := #[m, x], argTypes := #[t, k] }) (T : MT P t k e ek kl ev ok z) (b r : Nat) (M left : List (K × V)) (hm : a.eval m = .map (some b)) (h : Iter P k kl ev w b r M left) (x0 : K) (hx : a.eval x = ek x0) (hok : ok x0) (hK : ∀ w', Iter P k kl ev w' b r (mdel M x0) (mdel left x0) → w.mapTurned w' b → wpList P ops Q rest (a.put o.dst (.tuple #[])) w') : wpList P ops Q (o :: rest) a w :=
  wpList_plain hg fun _ hC => wp_vdel_iter w m x hop T b r M left hm h x0 hx hok (fun w' h1 h2 => hC _ _ (hK w' h1 h2))
theorem step_vdel_iter [DecidableEq K] (w : World) (hg : o.guard = none) (m x : Operand) (hop : o.op = Op.call { callee := Callee.builtin Builtin.delete, args := #[m, x], argTypes := #[t, k] }) (T : MT P t k e ek kl ev ok z) (b r : Nat) (M left : List (K × V)) (hm : a.eval m = .map (some b)) (h : Iter P k kl ev w b r M left) (x0 : K) (hx : a.eval x = ek x0) (hok : ok x0) (hK : ∀ w', Iter P k kl ev w' b r (mdel M x0) (mdel left x0) → w.mapTurned w' b → C (a.put o.dst (.tuple #[])) w') : if Region.wanted o (yielded ops a.tmps) = true then Oper.wp P o a w C Q else E :=
  step_of_wp hg (wp_vdel_iter w m x hop T b r M left hm h x0 hx hok hK)
theorem wpList_vnext (w : World) (hg : o.guard = none) (it : Operand) (hop : o.op = Op.next it false) (T : MT P t k e ek kl ev ok z) (b r : Nat) (M left : List (K × V)) (hkv : ∀ q ∈ M, ok q.1)
    (hit : a.eval it = .pointer (some ⟨r, 0, none⟩)) (h : Iter P k kl ev w b r M left)
    (hDone : left = [] → wpList P ops Q rest (a.put o.dst (.tuple #[.bool false])) w)
    (hMore : ∀ (x : K) (u : V) (left' : List (K × V)) (w' : World), left.Perm ((x, u) :: left') → (x, u) ∈ M → Iter P k kl ev w' b r M left' → Fr [r] w w' → w'.heap.size = w.heap.size →
      (Instr.entry (.pointer (some ⟨r, 0, none⟩))).run P w' = .ok (.tuple #[ek x, ev u]) w' → wpList P ops Q rest (a.put o.dst (.tuple #[.bool true, ek x, ev u])) w') :
    wpList P ops Q (o :: rest) a w := by
  refine wpList_plain hg fun K' hK' => ?_
  unfold Oper.wp
  rcases h.next T hkv o.type with ⟨h0, hrun⟩ | ⟨x, u, left', w', hp, hm, hrun, hi, hf, hs, hen⟩
  · simp [execOp, hop, hit, hrun, Result.andThen]
    exact hK' _ _ (hDone h0)
  · simp [execOp, hop, hit, hrun, Result.andThen]
    exact hK' _ _ (hMore x u left' w' hp hm hi hf hs hen)
end
end Go.Proofs.YtciaallekkdnhaaGreat
namespace Go.Proofs.YtciaallekkdnhaaGreat
open Go.RowKit

theorem within1_any (x lo hi : Int) (gl gh : Nat) (w : World) (h0 : w.cell? ⟨gl, 0, none⟩ = some (.int .i64 lo)) (h1 : w.cell? ⟨gh, 0, none⟩ = some (.int .i64 hi)) :
    Calls Tryz.prog 159 #[.int .i64 x, .pointer (some ⟨gl, 0, none⟩), .pointer (some ⟨gh, 0, none⟩)] w fun e w' => e = .returned (.bool (!Rw.inI lo hi x)) ∧ w = w' := by
  go_enter Tryz.func159, Tryz.ntmps159
  go_wp2
  all_goals
    go_ret
    refine ⟨?_, rfl⟩
    refine congrArg (fun b => Ending.returned (.bool b)) ?_
    unfold Rw.inI
    rw [Bool.eq_iff_iff]
    simp
    try omega

/-- 'slices.IndexFunc' with the closure of 'within'. -/
theorem indexFunc_any (xs : List Int) (lo hi : Int) (b off cap gl gh : Nat) (w : World) (hl : xs.length ≤ 1000) (hx : ∀ i (h : i < xs.length), w.cell? ⟨b, off + i, none⟩ = some (.int .i64 xs[i]))
    (h0 : w.cell? ⟨gl, 0, none⟩ = some (.int .i64 lo)) (h1 : w.cell? ⟨gh, 0, none⟩ = some (.int .i64 hi)) :
    Calls Tryz.prog 179 #[.slice (some ⟨b, off, none⟩) xs.length cap, .func (.func 159) #[] #[.pointer (some ⟨gl, 0, none⟩), .pointer (some ⟨gh, 0, none⟩)]] w
      fun e w' => ∃ r : Int, (e = .returned (.int .i64 r) ∧ w = w') ∧ decide (0 ≤ r) = xs.any (fun x => !Rw.inI lo hi x) := by
  go_enter Tryz.func179, Tryz.ntmps179
  go_wp2
  go_loop [8] (fun i => ∃ k : Nat, k ≤ xs.length ∧ i = .int .i64 k ∧ (xs.take k).any (fun x => !Rw.inI lo hi x) = false) (fun i => xs.length - (intOf i).toNat)
  case atStart => exact ⟨0, Nat.zero_le _, rfl, rfl⟩
  case round =>
    obtain ⟨k, hk, rfl, hno⟩ := hrel
    have Hno := Lib.hid hno
    clear hno
    by_cases hlt : k < xs.length
    · have hc := hx k hlt
      cases hin : Rw.inI lo hi xs[k]
      · have Hin := Lib.hid hin
        go_wp2_with (go_at_call 159; refine (within1_any _ _ _ _ _ _ h0 h1).mono ?_; rintro e w' ⟨rfl, rfl⟩)
        go_ret
        refine ⟨_, ⟨rfl, rfl⟩, ?_⟩
        symm
        rw [decide_eq_true (by omega), List.any_eq_true]
        exact ⟨xs[k], List.getElem_mem _, by rw [Hin.out]; rfl⟩
      · have Hin := Lib.hid hin
        go_wp2_with (go_at_call 159; refine (within1_any _ _ _ _ _ _ h0 h1).mono ?_; rintro e w' ⟨rfl, rfl⟩)
        go_round
        case rel =>
          refine ⟨k + 1, by omega, by go_num, ?_⟩
          rw [List.take_succ_eq_append_getElem hlt, List.any_append, Hno.out]
          simp [Hin.out]
        case measure => simp [intOf]; omega
    · go_wp2
      go_ret
      refine ⟨_, ⟨rfl, rfl⟩, ?_⟩
      have := Hno.out
      rw [List.take_of_length_le (by omega)] at this
      rw [this]
      rfl

theorem containsFunc_any (xs : List Int) (lo hi : Int) (b off cap gl gh : Nat) (w : World) (hl : xs.length ≤ 1000) (hx : ∀ i (h : i < xs.length), w.cell? ⟨b, off + i, none⟩ = some (.int .i64 xs[i]))
    (h0 : w.cell? ⟨gl, 0, none⟩ = some (.int .i64 lo)) (h1 : w.cell? ⟨gh, 0, none⟩ = some (.int .i64 hi)) :
    Calls Tryz.prog 158 #[.slice (some ⟨b, off, none⟩) xs.length cap, .func (.func 159) #[] #[.pointer (some ⟨gl, 0, none⟩), .pointer (some ⟨gh, 0, none⟩)]] w
      fun e w' => e = .returned (.bool (xs.any (fun x => !Rw.inI lo hi x))) ∧ w = w' := by
  have hc := Lib.hid hx
  clear hx
  go_enter Tryz.func158, Tryz.ntmps158
  go_wp2_with (go_at_call 179; refine (indexFunc_any xs lo hi b off cap gl gh _ hl hc.out h0 h1).mono ?_; rintro e w' ⟨r, ⟨rfl, rfl⟩, hr⟩; have Hr := Lib.hid hr; clear hr)
  go_ret
  exact ⟨by rw [← Hr.out]; rfl, rfl⟩

/-- 'within'. -/
theorem within_any (xs : List Int) (lo hi : Int) (b off cap : Nat) (w : World) (hl : xs.length ≤ 1000) (hb : b < w.heap.size) (hx : ∀ i (h : i < xs.length), w.cell? ⟨b, off + i, none⟩ = some (.int .i64 xs[i])) :
    Calls Tryz.prog 127 #[.int .i64 lo, .int .i64 hi, .slice (some ⟨b, off, none⟩) xs.length cap] w fun e w' => e = .returned (.bool (xs.all (Rw.inI lo hi))) ∧ Fr [] w w' := by
  have hc := Lib.hid hx
  clear hx
  have hall : (!xs.any fun x => !Rw.inI lo hi x) = xs.all (Rw.inI lo hi) := by
    rw [List.all_eq_not_any_not]
  have Hall := Lib.hid hall
  clear hall
  go_enter Tryz.func127, Tryz.ntmps127
  go_wp2_with (go_at_call 158; refine (containsFunc_any xs lo hi b off cap w.heap.size (w.heap.size + 1) _ hl (fun i hi => by rw [World.cell?_alloc_lt _ _ _ (by simp; omega), World.cell?_alloc_lt _ _ _ (by simpa using hb)]; exact hc.out i hi) (by simp [go_sem]) (by simp [go_sem])).mono ?_; rintro e w' ⟨rfl, rfl⟩)
  go_ret
  exact ⟨by rw [Hall.out]; rfl, ((Fr.refl _ _).alloc _).alloc _⟩
/-- 'within' of one number in a block of its own. -/
theorem within_one (x lo hi : Int) (b : Nat) (w : World) (hx : w.cell? ⟨b, 0, none⟩ = some (.int .i64 x)) :
    Calls Tryz.prog 127 #[.int .i64 lo, .int .i64 hi, .slice (some ⟨b, 0, none⟩) 1 1] w fun e w' => e = .returned (.bool (Rw.inI lo hi x)) ∧ Fr [] w w' :=
  (within_any [x] lo hi b 0 1 w (by simp) (World.block_lt_of_cell? w _ hx) (fun i hi => by
    have : i = 0 := by simpa using hi
    subst this
    exact hx)).mono fun e w' ⟨h, hf⟩ => ⟨by rw [h]; simp, hf⟩
/-- 'within' of three numbers. -/
theorem within_three (x y z lo hi : Int) (b off cap : Nat) (w : World) (hx : w.cell? ⟨b, off, none⟩ = some (.int .i64 x)) (hy : w.cell? ⟨b, off + 1, none⟩ = some (.int .i64 y)) (hz : w.cell? ⟨b, off + 2, none⟩ = some (.int .i64 z)) :
    Calls Tryz.prog 127 #[.int .i64 lo, .int .i64 hi, .slice (some ⟨b, off, none⟩) 3 cap] w fun e w' => e = .returned (.bool (Rw.inI lo hi x && Rw.inI lo hi y && Rw.inI lo hi z)) ∧ Fr [] w w' :=
  (within_any [x, y, z] lo hi b off cap w (by simp) (World.block_lt_of_cell? w _ hx) (fun i hi => by
    match i, hi with
    | 0, _ => exact hx
    | 1, _ => exact hy
    | 2, _ => exact hz)).mono fun e w' ⟨h, hf⟩ => ⟨by rw [h]; simp [Bool.and_assoc], hf⟩

/-- 'Valid'. -/
theorem rowValid_any (t k x y z : Int) (w : World) : Calls Tryz.prog 91 #[.agg #[.int .i64 t, .int .i64 k, .int .i64 x, .int .i64 y, .int .i64 z]] w fun e w' => e = .returned (.bool (Rw.row t k x y z)) ∧ Fr [] w w' := by
  have HR : Hid (Rw.row t k x y z = (Rw.inI 0 3 t && Rw.inI 1 1000000 k && (Rw.inI (-1000000000) 1000000000 x && Rw.inI (-1000000000) 1000000000 y && Rw.inI (-1000000000) 1000000000 z))) := Lib.hid rfl
  go_enter Tryz.func91, Tryz.ntmps91
  go_wp2_with fail
  refine (within_one t 0 3 (w.heap.size + 1) _ (by simp [go_sem])).mono ?_
  rintro e w1 ⟨rfl, f1⟩
  have F1 : Fr [] w w1 := (((Fr.refl _ _).alloc _).alloc _).trans f1
  have hB := (((Blk.new w 116 #[.int .i64 t, .int .i64 k, .int .i64 x, .int .i64 y, .int .i64 z]).alloc _).fr f1 (by simp))
  clear f1
  cases ht : Rw.inI 0 3 t
  · have Ht := Lib.hid ht
    go_wp2_with fail
    go_ret
    exact ⟨by rw [HR.out, Ht.out]; rfl, F1⟩
  have Ht := Lib.hid ht
  clear ht
  have hc1 := hB.cell 1
  have hlt := hB.lt
  go_wp2_with fail
  refine (within_one k 1 1000000 w1.heap.size _ (by simp [go_sem])).mono ?_
  rintro e w2 ⟨rfl, f2⟩
  have F2 : Fr [] w w2 := F1.trans (((Fr.refl _ _).alloc _).trans f2)
  replace hB := (hB.alloc _).fr f2 (by simp)
  clear hc1 hlt f2 F1
  cases hk : Rw.inI 1 1000000 k
  · have Hk := Lib.hid hk
    go_wp2_with fail
    go_ret
    exact ⟨by rw [HR.out, Ht.out, Hk.out]; rfl, F2⟩
  have Hk := Lib.hid hk
  clear hk
  go_wp2_with fail
  refine (within_three x y z (-1000000000) 1000000000 w.heap.size 2 3 _ (hB.cell 2) (hB.cell 3) (hB.cell 4)).mono ?_
  rintro e w3 ⟨rfl, f3⟩
  have HV : Hid ((Rw.inI (-1000000000) 1000000000 x && Rw.inI (-1000000000) 1000000000 y && Rw.inI (-1000000000) 1000000000 z) = Rw.row t k x y z) := Lib.hid (by rw [HR.out, Ht.out, Hk.out]; rfl)
  rw [HV.out]
  go_wp2_with fail
  go_ret
  exact ⟨rfl, F2.trans f3⟩

/-- A change as a value. -/
abbrev Chg.val (c : Chg) : Value := .agg #[.int .i64 c.t, .int .i64 c.k, .bool c.had, .int .i64 c.o0, .int .i64 c.o1, .int .i64 c.o2, .bool c.has, .int .i64 c.n0, .int .i64 c.n1, .int .i64 c.n2]
abbrev rowVal (t k x y z : Int) : Value := .agg #[.int .i64 t, .int .i64 k, .int .i64 x, .int .i64 y, .int .i64 z]

theorem half_yes (c : Chg) (x y z : Int) (w : World) : Calls Tryz.prog 90 #[c.val, .bool true, .agg #[.int .i64 x, .int .i64 y, .int .i64 z]] w fun e w' =>
    e = .returned (.tuple #[rowVal c.t c.k x y z, .bool true]) ∧ Fr [] w w' := by
  unfold Chg.val rowVal
  go_enter Tryz.func90, Tryz.ntmps90
  go_wp2
  exact bodyPost_ret (v := .tuple #[.agg #[.int .i64 c.t, .int .i64 c.k, .int .i64 x, .int .i64 y, .int .i64 z], .bool true]) (by simp [results, Tryz.results90, go_sem]) rfl ⟨rfl, (((Fr.refl _ _).alloc _).alloc _).alloc _⟩
theorem half_no (c : Chg) (x y z : Int) (w : World) : Calls Tryz.prog 90 #[c.val, .bool false, .agg #[.int .i64 x, .int .i64 y, .int .i64 z]] w fun e w' =>
    e = .returned (.tuple #[rowVal 0 0 0 0 0, .bool false]) ∧ Fr [] w w' := by
  unfold Chg.val rowVal
  go_enter Tryz.func90, Tryz.ntmps90
  go_wp2
  exact bodyPost_ret (v := .tuple #[.agg #[.int .i64 0, .int .i64 0, .int .i64 0, .int .i64 0, .int .i64 0], .bool false]) (by simp [results, Tryz.results90, go_sem]) rfl ⟨rfl, (((Fr.refl _ _).alloc _).alloc _).alloc _⟩

/-! ### Arrays of three numbers compared -/
theorem run_isAgg_int (w : World) : (isAgg 3).run Tryz.prog w = .ok false w := by kernel_rfl
theorem run_sizeOf_int (w : World) : (sizeOf 3).run Tryz.prog w = .ok 1 w := by kernel_rfl
theorem eqIn_v3 (d : Nat) (x y z a b c : Int) (w : World) : (Op.equalIn (d + 2) 57 (.agg #[.int .i64 x, .int .i64 y, .int .i64 z]) (.agg #[.int .i64 a, .int .i64 b, .int .i64 c])).run Tryz.prog w = .ok (decide (x = a ∧ y = b ∧ z = c)) w := by
  rw [Op.equalIn]
  simp only [Sem.run_bind, run_underlying Tryz.underlying57, Result.andThen_ok, run_sizeOf_int]
  simp [Std.Legacy.Range.forIn_eq_forIn_range', List.range', part, Op.equalIn, run_underlying Tryz.underlying3]
  repeat' split
  all_goals simp_all
theorem eql_v3 (x y z a b c : Int) (w : World) : (binOp .eql 57 (.agg #[.int .i64 x, .int .i64 y, .int .i64 z]) (.agg #[.int .i64 a, .int .i64 b, .int .i64 c])).run Tryz.prog w = .ok (.bool (decide (x = a ∧ y = b ∧ z = c))) w := by
  rw [run_eql_struct, show (10000 : Nat) = 9998 + 2 from rfl, eqIn_v3]
  rfl
theorem neq_v3 (x y z a b c : Int) (w : World) : (binOp .neq 57 (.agg #[.int .i64 x, .int .i64 y, .int .i64 z]) (.agg #[.int .i64 a, .int .i64 b, .int .i64 c])).run Tryz.prog w = .ok (.bool (!decide (x = a ∧ y = b ∧ z = c))) w := by
  rw [run_neq_struct, show (10000 : Nat) = 9998 + 2 from rfl, eqIn_v3]
  rfl
theorem eqGuard_v3 (op : BinOp) (x y : Operand) (xs ys : Array Value) (w : World) : (eqGuard op 57 x y (.agg xs) (.agg ys)).run Tryz.prog w = .ok () w :=
  run_eqGuard_agg w op _ x y xs ys (by kernel_rfl)

/-- 'sound'. -/
theorem sound_any (c : Chg) (there : Bool) (x y z : Int) (w : World) : Calls Tryz.prog 46 #[c.val, .bool there, .agg #[.int .i64 x, .int .i64 y, .int .i64 z]] w fun e w' =>
    e = .returned (.bool (Rw.sound c.t c.k there x y z)) ∧ Fr [] w w' := by
  cases there
  · have H0 : Hid (Rw.sound c.t c.k false x y z = decide (x = 0 ∧ y = 0 ∧ z = 0)) := Lib.hid rfl
    unfold Chg.val
    go_enter Tryz.func46, Tryz.ntmps46
    go_wp2_with fail
    refine (half_no c x y z _).mono ?_
    rintro e w1 ⟨rfl, f1⟩
    have F1 : Fr [] w w1 := (((Fr.refl _ _).alloc _).alloc _).trans f1
    have hB := ((Blk.new (w.alloc (.cells #[.int .i64 c.t, .int .i64 c.k, .bool c.had, .int .i64 c.o0, .int .i64 c.o1, .int .i64 c.o2, .bool c.has, .int .i64 c.n0, .int .i64 c.n1, .int .i64 c.n2] 59)) 57 #[.int .i64 x, .int .i64 y, .int .i64 z]).fr f1 (by simp))
    rw [World.size_alloc] at hB
    have h0 := hB.cell 0
    have h1 := hB.cell 1
    have h2 := hB.cell 2
    have hlt := hB.lt
    clear f1 hB
    have hq := eql_v3 x y z 0 0 0
    have hg := eqGuard_v3
    go_wp2_with fail
    go_ret
    exact ⟨congrArg (fun b => Ending.returned (.bool b)) (by rw [H0.out]; simp [Bool.decide_and]), F1.alloc _⟩
  · have H1 : Hid (Rw.sound c.t c.k true x y z = Rw.row c.t c.k x y z) := Lib.hid rfl
    unfold Chg.val
    go_enter Tryz.func46, Tryz.ntmps46
    go_wp2_with fail
    refine (half_yes c x y z _).mono ?_
    rintro e w1 ⟨rfl, f1⟩
    have F1 : Fr [] w w1 := (((Fr.refl _ _).alloc _).alloc _).trans f1
    clear f1
    go_wp2_with fail
    refine (rowValid_any c.t c.k x y z _).mono ?_
    rintro e w2 ⟨rfl, f2⟩
    have F2 : Fr [] w w2 := F1.trans (((Fr.refl _ _).alloc _).trans f2)
    clear f2
    cases hr : Rw.row c.t c.k x y z
    all_goals
      have Hr := Lib.hid hr
      go_wp2_with fail
      go_ret
      exact ⟨by rw [H1.out, Hr.out]; rfl, F2⟩

end Go.Proofs.YtciaallekkdnhaaGreat
namespace Go.Proofs.YtciaallekkdnhaaGreat
open Go.RowKit

/-- 'ValidChange'. -/
theorem validChange_any (c : Chg) (w : World) : Calls Tryz.prog 26 #[c.val] w fun e w' => e = .returned (.bool (Rw.chg c)) ∧ Fr [] w w' := by
  have HC : Hid (Rw.chg c = (Rw.turns c && Rw.sound c.t c.k c.had c.o0 c.o1 c.o2 && Rw.sound c.t c.k c.has c.n0 c.n1 c.n2)) := Lib.hid rfl
  have HT : Hid (Rw.turns c = (c.had != c.has || c.had && Rw.differs c)) := Lib.hid rfl
  have hq : ∀ w, (binOp .neq 57 (.agg #[.int .i64 c.o0, .int .i64 c.o1, .int .i64 c.o2]) (.agg #[.int .i64 c.n0, .int .i64 c.n1, .int .i64 c.n2])).run Tryz.prog w = .ok (.bool (Rw.differs c)) w := by
    intro w
    rw [neq_v3]
    unfold Rw.differs
    congr 2
    rw [Bool.eq_iff_iff]
    simp
  have hg := eqGuard_v3
  have Hx1 : Hid (∀ w, Calls Tryz.prog 46 #[c.val, .bool c.had, .agg #[.int .i64 c.o0, .int .i64 c.o1, .int .i64 c.o2]] w fun e w' => e = .returned (.bool (Rw.sound c.t c.k c.had c.o0 c.o1 c.o2)) ∧ Fr [] w w') := Lib.hid fun w => sound_any c c.had _ _ _ w
  have Hx2 : Hid (∀ w, Calls Tryz.prog 46 #[c.val, .bool c.has, .agg #[.int .i64 c.n0, .int .i64 c.n1, .int .i64 c.n2]] w fun e w' => e = .returned (.bool (Rw.sound c.t c.k c.has c.n0 c.n1 c.n2)) ∧ Fr [] w w') := Lib.hid fun w => sound_any c c.has _ _ _ w
  obtain ⟨t, k, had, o0, o1, o2, has, n0, n1, n2⟩ := c
  generalize hs1 : Rw.sound t k had o0 o1 o2 = s1 at *
  generalize hs2 : Rw.sound t k has n0 n1 n2 = s2 at *
  generalize hd : Rw.differs ⟨t, k, had, o0, o1, o2, has, n0, n1, n2⟩ = d at *
  clear hs1 hs2 hd
  unfold Chg.val at Hx1 Hx2 ⊢
  dsimp only at Hx1 Hx2 HC HT hq ⊢
  cases ht : (had != has || had && d)
  · rw [ht] at HT
    have HF : Hid (Rw.chg ⟨t, k, had, o0, o1, o2, has, n0, n1, n2⟩ = false) := Lib.hid (by rw [HC.out, HT.out]; rfl)
    cases had <;> cases has <;> cases d <;> (first | cases ht | skip)
    all_goals
      clear Hx1 Hx2 HC HT
      go_enter Tryz.func26, Tryz.ntmps26
      go_wp2_with fail
      go_ret
      exact ⟨by rw [HF.out]; rfl, (Fr.refl _ _).alloc _⟩
  · rw [ht] at HT
    have HF : Hid (Rw.chg ⟨t, k, had, o0, o1, o2, has, n0, n1, n2⟩ = (s1 && s2)) := Lib.hid (by rw [HC.out, HT.out]; simp)
    cases had <;> cases has <;> cases d <;> (first | cases ht | skip)
    all_goals
      clear HC HT
      go_enter Tryz.func26, Tryz.ntmps26
      go_wp2_with fail
      refine (Hx1.out _).mono ?_
      rintro e w1 ⟨rfl, f1⟩
      have F1 : Fr [] w w1 := ((Fr.refl _ _).alloc _).trans f1
      have hB := (Blk.new w 59 _).fr f1 (by simp)
      clear f1 Hx1
      cases s1
      · go_wp2_with fail
        go_ret
        exact ⟨by rw [HF.out]; rfl, F1⟩
      have c0 := hB.cell 0
      have c1 := hB.cell 1
      have c2 := hB.cell 2
      have c3 := hB.cell 3
      have c4 := hB.cell 4
      have c5 := hB.cell 5
      have c6 := hB.cell 6
      have c7 := hB.cell 7
      have c8 := hB.cell 8
      have c9 := hB.cell 9
      clear hB
      go_wp2_with fail
      refine (Hx2.out _).mono ?_
      rintro e w2 ⟨rfl, f2⟩
      have F2 : Fr [] w w2 := F1.trans f2
      clear f2 Hx2 F1
      cases s2
      all_goals
        go_wp2_with fail
        go_ret
        exact ⟨by rw [HF.out]; rfl, F2⟩
end Go.Proofs.YtciaallekkdnhaaGreat
namespace Go.Proofs.YtciaallekkdnhaaGreat
open Go.RowKit

theorem rfWithin_any (n lo hi : Int) (w : World) : Calls Tryz.prog 132 #[.int .i64 n, .int .i64 lo, .int .i64 hi] w fun e w' => e = .returned (.bool (Rw.inI lo hi n)) ∧ w = w' := by
  by_cases h : lo ≤ n ∧ n ≤ hi
  · have H : Hid (Rw.inI lo hi n = true) := Lib.hid (by unfold Rw.inI; exact decide_eq_true h)
    obtain ⟨h1, h2⟩ := h
    go_enter Tryz.func132, Tryz.ntmps132
    go_wp2
    go_ret
    exact ⟨by rw [H.out]; simp, rfl⟩
  · have H : Hid (Rw.inI lo hi n = false) := Lib.hid (by unfold Rw.inI; exact decide_eq_false h)
    go_enter Tryz.func132, Tryz.ntmps132
    go_wp2
    all_goals
      go_ret
      refine ⟨?_, rfl⟩
      rw [H.out]
      refine congrArg (fun b => Ending.returned (.bool b)) ?_
      (first | rfl | (simp; omega))

theorem rfValid_any (t k x y z : Int) (w : World) : Calls Tryz.prog 119 #[rowVal t k x y z] w fun e w' => e = .returned (.bool (Rw.row t k x y z)) ∧ Fr [] w w' := by
  have HR : Hid (Rw.row t k x y z = (Rw.inI 0 3 t && Rw.inI 1 1000000 k && (Rw.inI (-1000000000) 1000000000 x && Rw.inI (-1000000000) 1000000000 y && Rw.inI (-1000000000) 1000000000 z))) := Lib.hid rfl
  have f0 : Fr [] w (w.alloc (.cells #[.int .i64 t, .int .i64 k, .int .i64 x, .int .i64 y, .int .i64 z] 116)) := (Fr.refl _ _).alloc _
  have C := rfWithin_any
  have HC := Lib.hid C
  clear C
  unfold rowVal
  cases hx : Rw.inI (-1000000000) 1000000000 x <;> cases hy : Rw.inI (-1000000000) 1000000000 y <;> cases hz : Rw.inI (-1000000000) 1000000000 z <;> cases ht : Rw.inI 0 3 t
  all_goals
    have HX := Lib.hid hx
    have HY := Lib.hid hy
    have HZ := Lib.hid hz
    have HT := Lib.hid ht
    clear hx hy hz ht
    go_enter Tryz.func119, Tryz.ntmps119
    go_wp2_with fail
    refine wp_loop_rounds 4 ?_
    rw [rounds_succ]
    go_wp2_with (go_at_call 132; refine (HC.out _ _ _ _).mono ?_; rintro e w' ⟨he, rfl⟩; (first | rw [HX.out] at he | rw [HY.out] at he | rw [HZ.out] at he | rw [HT.out] at he | skip); subst he)
    (try (rw [rounds_succ]; go_wp2_with (go_at_call 132; refine (HC.out _ _ _ _).mono ?_; rintro e w' ⟨he, rfl⟩; (first | rw [HX.out] at he | rw [HY.out] at he | rw [HZ.out] at he | rw [HT.out] at he | skip); subst he)))
    (try (rw [rounds_succ]; go_wp2_with (go_at_call 132; refine (HC.out _ _ _ _).mono ?_; rintro e w' ⟨he, rfl⟩; (first | rw [HX.out] at he | rw [HY.out] at he | rw [HZ.out] at he | rw [HT.out] at he | skip); subst he)))
    (try (rw [rounds_succ]; go_wp2_with (go_at_call 132; refine (HC.out _ _ _ _).mono ?_; rintro e w' ⟨he, rfl⟩; (first | rw [HX.out] at he | rw [HY.out] at he | rw [HZ.out] at he | rw [HT.out] at he | skip); subst he)))
    go_ret
    exact ⟨by rw [HR.out, HX.out, HY.out, HZ.out, HT.out]; simp, f0⟩

theorem rfBefore_any (c : Chg) (w : World) : Calls Tryz.prog 71 #[c.val] w fun e w' => e = .returned (.tuple #[if c.had = true then rowVal c.t c.k c.o0 c.o1 c.o2 else rowVal 0 0 0 0 0, .bool c.had]) ∧ Fr [] w w' := by
  obtain ⟨t, k, had, o0, o1, o2, has, n0, n1, n2⟩ := c
  unfold Chg.val rowVal
  cases had
  all_goals
    go_enter Tryz.func71, Tryz.ntmps71
    go_wp2
    first
      | exact bodyPost_ret (v := .tuple #[.agg #[.int .i64 t, .int .i64 k, .int .i64 o0, .int .i64 o1, .int .i64 o2], .bool true]) (by simp [results, Tryz.results71, go_sem]) rfl ⟨rfl, (((Fr.refl _ _).alloc _).alloc _).alloc _⟩
      | exact bodyPost_ret (v := .tuple #[.agg #[.int .i64 t, .int .i64 k, .int .i64 o0, .int .i64 o1, .int .i64 o2], .bool true]) (by simp [results, Tryz.results71, go_sem]) rfl ⟨rfl, ((Fr.refl _ _).alloc _).alloc _⟩
      | exact bodyPost_ret (v := .tuple #[.agg #[.int .i64 0, .int .i64 0, .int .i64 0, .int .i64 0, .int .i64 0], .bool false]) (by simp [results, Tryz.results71, go_sem]) rfl ⟨rfl, (((Fr.refl _ _).alloc _).alloc _).alloc _⟩
      | exact bodyPost_ret (v := .tuple #[.agg #[.int .i64 0, .int .i64 0, .int .i64 0, .int .i64 0, .int .i64 0], .bool false]) (by simp [results, Tryz.results71, go_sem]) rfl ⟨rfl, ((Fr.refl _ _).alloc _).alloc _⟩
      | fail "x"
theorem rfAfter_any (c : Chg) (w : World) : Calls Tryz.prog 72 #[c.val] w fun e w' => e = .returned (.tuple #[if c.has = true then rowVal c.t c.k c.n0 c.n1 c.n2 else rowVal 0 0 0 0 0, .bool c.has]) ∧ Fr [] w w' := by
  obtain ⟨t, k, had, o0, o1, o2, has, n0, n1, n2⟩ := c
  unfold Chg.val rowVal
  cases has
  all_goals
    go_enter Tryz.func72, Tryz.ntmps72
    go_wp2
    first
      | exact bodyPost_ret (v := .tuple #[.agg #[.int .i64 t, .int .i64 k, .int .i64 n0, .int .i64 n1, .int .i64 n2], .bool true]) (by simp [results, Tryz.results72, go_sem]) rfl ⟨rfl, (((Fr.refl _ _).alloc _).alloc _).alloc _⟩
      | exact bodyPost_ret (v := .tuple #[.agg #[.int .i64 t, .int .i64 k, .int .i64 n0, .int .i64 n1, .int .i64 n2], .bool true]) (by simp [results, Tryz.results72, go_sem]) rfl ⟨rfl, ((Fr.refl _ _).alloc _).alloc _⟩
      | exact bodyPost_ret (v := .tuple #[.agg #[.int .i64 0, .int .i64 0, .int .i64 0, .int .i64 0, .int .i64 0], .bool false]) (by simp [results, Tryz.results72, go_sem]) rfl ⟨rfl, (((Fr.refl _ _).alloc _).alloc _).alloc _⟩
      | exact bodyPost_ret (v := .tuple #[.agg #[.int .i64 0, .int .i64 0, .int .i64 0, .int .i64 0, .int .i64 0], .bool false]) (by simp [results, Tryz.results72, go_sem]) rfl ⟨rfl, ((Fr.refl _ _).alloc _).alloc _⟩
      | fail "x"
end Go.Proofs.YtciaallekkdnhaaGreat
namespace Go.Proofs.YtciaallekkdnhaaGreat
open Go.RowKit

/-- A row's value in a column. -/
def RowV.value (r : RowV) (c : Int) : Int := if c = 0 then r.k else if c = 1 then r.x else if c = 2 then r.y else if c = 3 then r.z else 0

theorem rfValue_any (r : RowV) (c : Int) (w : World) : Calls Tryz.prog 120 #[r.val, .int .i64 c] w fun e w' => e = .returned (.int .i64 (r.value c)) ∧ Fr [] w w' := by
  obtain ⟨t, k, x, y, z⟩ := r
  have f0 : Fr [] w (w.alloc (.cells #[.int .i64 t, .int .i64 k, .int .i64 x, .int .i64 y, .int .i64 z] 116)) := (Fr.refl _ _).alloc _
  have HC := Lib.hid rfWithin_any
  unfold RowV.val
  dsimp only
  by_cases h0 : c = 0
  · subst h0
    go_enter Tryz.func120, Tryz.ntmps120
    go_wp2
    go_ret
    exact ⟨rfl, f0⟩
  by_cases h1 : c = 1
  · subst h1
    go_enter Tryz.func120, Tryz.ntmps120
    go_wp2_with (go_at_call 132; refine (HC.out _ _ _ _).mono ?_; rintro e w' ⟨he, rfl⟩; rw [show Rw.inI 1 3 1 = true from rfl] at he; subst he)
    go_ret
    exact ⟨rfl, f0⟩
  by_cases h2 : c = 2
  · subst h2
    go_enter Tryz.func120, Tryz.ntmps120
    go_wp2_with (go_at_call 132; refine (HC.out _ _ _ _).mono ?_; rintro e w' ⟨he, rfl⟩; rw [show Rw.inI 1 3 2 = true from rfl] at he; subst he)
    go_ret
    exact ⟨rfl, f0⟩
  by_cases h3 : c = 3
  · subst h3
    go_enter Tryz.func120, Tryz.ntmps120
    go_wp2_with (go_at_call 132; refine (HC.out _ _ _ _).mono ?_; rintro e w' ⟨he, rfl⟩; rw [show Rw.inI 1 3 3 = true from rfl] at he; subst he)
    go_ret
    exact ⟨rfl, f0⟩
  have HV : Hid (RowV.value ⟨t, k, x, y, z⟩ c = 0) := Lib.hid (by simp [RowV.value, h0, h1, h2, h3])
  have HI : Hid (Rw.inI 1 3 c = false) := Lib.hid (by unfold Rw.inI; simp; omega)
  have h0' : (c == 0) = false := by simpa using h0
  go_enter Tryz.func120, Tryz.ntmps120
  go_wp2_with (go_at_call 132; refine (HC.out _ _ _ _).mono ?_; rintro e w' ⟨he, rfl⟩; rw [HI.out] at he; subst he)
  go_ret
  exact ⟨by rw [HV.out]; rfl, f0⟩

set_option maxHeartbeats 1000000 in
theorem rfChange_ff (t k o0 o1 o2 n0 n1 n2 : Int) (w : World) : Calls Tryz.prog 70 #[.agg #[.int .i64 t, .int .i64 k, .bool false, .int .i64 o0, .int .i64 o1, .int .i64 o2, .bool false, .int .i64 n0, .int .i64 n1, .int .i64 n2]] w fun e w' => e = .returned (.bool (Rw.chg ⟨t, k, false, o0, o1, o2, false, n0, n1, n2⟩)) ∧ Fr [] w w' := by
  have HB := Lib.hid (rfBefore_any ⟨t, k, false, o0, o1, o2, false, n0, n1, n2⟩)
  have HA := Lib.hid (rfAfter_any ⟨t, k, false, o0, o1, o2, false, n0, n1, n2⟩)
  have HV := Lib.hid rfValid_any
  have hg := eqGuard_v3
  unfold Chg.val rowVal at *
  simp only [Bool.false_eq_true, if_false] at HB HA
  have HF : Hid (Rw.chg ⟨t, k, false, o0, o1, o2, false, n0, n1, n2⟩ = false) := Lib.hid rfl
  go_enter Tryz.func70, Tryz.ntmps70
  go_wp2_with fail
  refine (HB.out _).mono ?_
  rintro e w1 ⟨rfl, f1⟩
  have F1 : Fr [] w w1 := ((Fr.refl _ _).alloc _).trans f1
  have hc := (Blk.new w 59 _).fr f1 (by simp)
  have c0 := hc.cell 0
  have c1 := hc.cell 1
  have c2 := hc.cell 2
  have c3 := hc.cell 3
  have c4 := hc.cell 4
  have c5 := hc.cell 5
  have c6 := hc.cell 6
  have c7 := hc.cell 7
  have c8 := hc.cell 8
  have c9 := hc.cell 9
  have hlt := hc.lt
  clear f1
  go_wp2_with fail
  refine (HA.out _).mono ?_
  rintro e w2 ⟨rfl, f2⟩
  have F2 : Fr [] w w2 := F1.trans (((Fr.refl _ _).alloc _).trans f2)
  have hc2 := (hc.alloc _).fr f2 (by simp)
  have hb2 := (Blk.new w1 116 _).fr f2 (by simp)
  clear c0 c1 c2 c3 c4 c5 c6 c7 c8 c9 hlt hc F1 f2
  have c3 := hc2.cell 3
  have c4 := hc2.cell 4
  have c5 := hc2.cell 5
  have c7 := hc2.cell 7
  have c8 := hc2.cell 8
  have c9 := hc2.cell 9
  have b0 := hb2.cell 0
  have b1 := hb2.cell 1
  have b2 := hb2.cell 2
  have b3 := hb2.cell 3
  have b4 := hb2.cell 4
  have hlt := hc2.lt
  have hlt2 := hb2.lt
  go_wp2_with fail
  go_ret
  exact ⟨by rw [HF.out]; rfl, F2.alloc _⟩
set_option maxHeartbeats 1000000 in
theorem rfChange_tt (t k o0 o1 o2 n0 n1 n2 : Int) (w : World) : Calls Tryz.prog 70 #[.agg #[.int .i64 t, .int .i64 k, .bool true, .int .i64 o0, .int .i64 o1, .int .i64 o2, .bool true, .int .i64 n0, .int .i64 n1, .int .i64 n2]] w fun e w' => e = .returned (.bool (Rw.chg ⟨t, k, true, o0, o1, o2, true, n0, n1, n2⟩)) ∧ Fr [] w w' := by
  have HB := Lib.hid (rfBefore_any ⟨t, k, true, o0, o1, o2, true, n0, n1, n2⟩)
  have HA := Lib.hid (rfAfter_any ⟨t, k, true, o0, o1, o2, true, n0, n1, n2⟩)
  have HV := Lib.hid rfValid_any
  have hg := eqGuard_v3
  unfold Chg.val rowVal at *
  simp only [if_true] at HB HA
  by_cases hd : o0 = n0 ∧ o1 = n1 ∧ o2 = n2
  · have hq := eql_v3 o0 o1 o2 n0 n1 n2
    rw [decide_eq_true hd] at hq
    have HF : Hid (Rw.chg ⟨t, k, true, o0, o1, o2, true, n0, n1, n2⟩ = false) := Lib.hid (by simp [Rw.chg, Rw.turns, Rw.differs, hd.1, hd.2.1, hd.2.2])
    clear hd
    go_enter Tryz.func70, Tryz.ntmps70
    go_wp2_with fail
    refine (HB.out _).mono ?_
    rintro e w1 ⟨rfl, f1⟩
    have F1 : Fr [] w w1 := ((Fr.refl _ _).alloc _).trans f1
    have hc := (Blk.new w 59 _).fr f1 (by simp)
    have c0 := hc.cell 0
    have c1 := hc.cell 1
    have c2 := hc.cell 2
    have c3 := hc.cell 3
    have c4 := hc.cell 4
    have c5 := hc.cell 5
    have c6 := hc.cell 6
    have c7 := hc.cell 7
    have c8 := hc.cell 8
    have c9 := hc.cell 9
    have hlt := hc.lt
    clear f1
    go_wp2_with fail
    refine (HA.out _).mono ?_
    rintro e w2 ⟨rfl, f2⟩
    have F2 : Fr [] w w2 := F1.trans (((Fr.refl _ _).alloc _).trans f2)
    have hc2 := (hc.alloc _).fr f2 (by simp)
    have hb2 := (Blk.new w1 116 _).fr f2 (by simp)
    clear c0 c1 c2 c3 c4 c5 c6 c7 c8 c9 hlt hc F1 f2
    have c3 := hc2.cell 3
    have c4 := hc2.cell 4
    have c5 := hc2.cell 5
    have c7 := hc2.cell 7
    have c8 := hc2.cell 8
    have c9 := hc2.cell 9
    have b0 := hb2.cell 0
    have b1 := hb2.cell 1
    have b2 := hb2.cell 2
    have b3 := hb2.cell 3
    have b4 := hb2.cell 4
    have hlt := hc2.lt
    have hlt2 := hb2.lt
    go_wp2_with fail
    go_ret
    exact ⟨by rw [HF.out]; rfl, F2.alloc _⟩
  · have hq := eql_v3 o0 o1 o2 n0 n1 n2
    rw [decide_eq_false hd] at hq
    have HF : Hid (Rw.chg ⟨t, k, true, o0, o1, o2, true, n0, n1, n2⟩ = (Rw.row t k o0 o1 o2 && Rw.row t k n0 n1 n2)) := Lib.hid (by
      have : Rw.differs ⟨t, k, true, o0, o1, o2, true, n0, n1, n2⟩ = true := by
        unfold Rw.differs
        simp only [decide_eq_true_eq]
        omega
      simp [Rw.chg, Rw.turns, Rw.sound, this])
    clear hd
    generalize hr1 : Rw.row t k o0 o1 o2 = r1 at *
    generalize hr2 : Rw.row t k n0 n1 n2 = r2 at *
    have HR1 := Lib.hid hr1
    have HR2 := Lib.hid hr2
    clear hr1 hr2
    go_enter Tryz.func70, Tryz.ntmps70
    go_wp2_with fail
    refine (HB.out _).mono ?_
    rintro e w1 ⟨rfl, f1⟩
    have F1 : Fr [] w w1 := ((Fr.refl _ _).alloc _).trans f1
    have hc := (Blk.new w 59 _).fr f1 (by simp)
    have c0 := hc.cell 0
    have c1 := hc.cell 1
    have c2 := hc.cell 2
    have c3 := hc.cell 3
    have c4 := hc.cell 4
    have c5 := hc.cell 5
    have c6 := hc.cell 6
    have c7 := hc.cell 7
    have c8 := hc.cell 8
    have c9 := hc.cell 9
    have hlt := hc.lt
    clear f1
    go_wp2_with fail
    refine (HA.out _).mono ?_
    rintro e w2 ⟨rfl, f2⟩
    have F2 : Fr [] w w2 := F1.trans (((Fr.refl _ _).alloc _).trans f2)
    have hc2 := (hc.alloc _).fr f2 (by simp)
    have hb2 := (Blk.new w1 116 _).fr f2 (by simp)
    clear c0 c1 c2 c3 c4 c5 c6 c7 c8 c9 hlt hc F1 f2
    have c3 := hc2.cell 3
    have c4 := hc2.cell 4
    have c5 := hc2.cell 5
    have c7 := hc2.cell 7
    have c8 := hc2.cell 8
    have c9 := hc2.cell 9
    have b0 := hb2.cell 0
    have b1 := hb2.cell 1
    have b2 := hb2.cell 2
    have b3 := hb2.cell 3
    have b4 := hb2.cell 4
    have hlt := hc2.lt
    have hlt2 := hb2.lt
    have hn2 := Blk.new w2 116 #[.int .i64 t, .int .i64 k, .int .i64 n0, .int .i64 n1, .int .i64 n2]
    go_wp2_with fail
    refine (HV.out t k o0 o1 o2 _).mono ?_
    rintro e w3 ⟨he, f3⟩
    rw [HR1.out] at he
    subst he
    have F3 := (F2.alloc (.cells #[.int .i64 t, .int .i64 k, .int .i64 n0, .int .i64 n1, .int .i64 n2] 116)).trans f3
    have hn3 := hn2.fr f3 (by simp)
    clear c3 c4 c5 c7 c8 c9 b0 b1 b2 b3 b4 hlt hlt2 f3 F2 hn2
    cases r1
    · go_wp2_with fail
      go_ret
      exact ⟨by rw [HF.out]; rfl, F3⟩
    have d0 := hn3.cell 0
    have d1 := hn3.cell 1
    have d2 := hn3.cell 2
    have d3 := hn3.cell 3
    have d4 := hn3.cell 4
    go_wp2_with fail
    refine (HV.out t k n0 n1 n2 _).mono ?_
    rintro e w4 ⟨he, f4⟩
    rw [HR2.out] at he
    subst he
    have F4 := F3.trans f4
    clear d0 d1 d2 d3 d4 f4 F3
    cases r2
    all_goals
      go_wp2_with fail
      go_ret
      exact ⟨by rw [HF.out]; rfl, F4⟩
set_option maxHeartbeats 1000000 in
theorem rfChange_ft (t k o0 o1 o2 n0 n1 n2 : Int) (w : World) : Calls Tryz.prog 70 #[.agg #[.int .i64 t, .int .i64 k, .bool false, .int .i64 o0, .int .i64 o1, .int .i64 o2, .bool true, .int .i64 n0, .int .i64 n1, .int .i64 n2]] w fun e w' => e = .returned (.bool (Rw.chg ⟨t, k, false, o0, o1, o2, true, n0, n1, n2⟩)) ∧ Fr [] w w' := by
  have HB := Lib.hid (rfBefore_any ⟨t, k, false, o0, o1, o2, true, n0, n1, n2⟩)
  have HA := Lib.hid (rfAfter_any ⟨t, k, false, o0, o1, o2, true, n0, n1, n2⟩)
  have HV := Lib.hid rfValid_any
  have hg := eqGuard_v3
  unfold Chg.val rowVal at *
  simp only [Bool.false_eq_true, if_false, if_true] at HB HA
  have HF : Hid (Rw.chg ⟨t, k, false, o0, o1, o2, true, n0, n1, n2⟩ = (Rw.row t k n0 n1 n2 && decide (o0 = 0 ∧ o1 = 0 ∧ o2 = 0))) := Lib.hid (by simp [Rw.chg, Rw.turns, Rw.sound, Bool.and_comm])
  have hq := eql_v3 o0 o1 o2 0 0 0
  generalize hdd : decide (o0 = 0 ∧ o1 = 0 ∧ o2 = 0) = d at *
  generalize hr1 : Rw.row t k n0 n1 n2 = r1 at *
  have HR1 := Lib.hid hr1
  clear hr1 hdd
  go_enter Tryz.func70, Tryz.ntmps70
  go_wp2_with fail
  refine (HB.out _).mono ?_
  rintro e w1 ⟨rfl, f1⟩
  have F1 : Fr [] w w1 := ((Fr.refl _ _).alloc _).trans f1
  have hc := (Blk.new w 59 _).fr f1 (by simp)
  have c0 := hc.cell 0
  have c1 := hc.cell 1
  have c2 := hc.cell 2
  have c3 := hc.cell 3
  have c4 := hc.cell 4
  have c5 := hc.cell 5
  have c6 := hc.cell 6
  have c7 := hc.cell 7
  have c8 := hc.cell 8
  have c9 := hc.cell 9
  have hlt := hc.lt
  clear f1
  go_wp2_with fail
  refine (HA.out _).mono ?_
  rintro e w2 ⟨rfl, f2⟩
  have F2 : Fr [] w w2 := F1.trans (((Fr.refl _ _).alloc _).trans f2)
  have hc2 := (hc.alloc _).fr f2 (by simp)
  have hb2 := (Blk.new w1 116 _).fr f2 (by simp)
  clear c0 c1 c2 c3 c4 c5 c6 c7 c8 c9 hlt hc F1 f2
  have c3 := hc2.cell 3
  have c4 := hc2.cell 4
  have c5 := hc2.cell 5
  have c7 := hc2.cell 7
  have c8 := hc2.cell 8
  have c9 := hc2.cell 9
  have b0 := hb2.cell 0
  have b1 := hb2.cell 1
  have b2 := hb2.cell 2
  have b3 := hb2.cell 3
  have b4 := hb2.cell 4
  have hlt := hc2.lt
  have hlt2 := hb2.lt
  go_wp2_with fail
  refine (HV.out t k n0 n1 n2 _).mono ?_
  rintro e w3 ⟨he, f3⟩
  rw [HR1.out] at he
  subst he
  have F3 := (F2.alloc (.cells #[.int .i64 t, .int .i64 k, .int .i64 n0, .int .i64 n1, .int .i64 n2] 116)).trans f3
  have hc3 := (hc2.alloc _).fr f3 (by simp)
  clear c3 c4 c5 c7 c8 c9 b0 b1 b2 b3 b4 hlt hlt2 f3 F2 hc2
  cases r1
  · go_wp2_with fail
    go_ret
    exact ⟨by rw [HF.out]; rfl, F3⟩
  have c3 := hc3.cell 3
  have c4 := hc3.cell 4
  have c5 := hc3.cell 5
  have c7 := hc3.cell 7
  have c8 := hc3.cell 8
  have c9 := hc3.cell 9
  cases d
  all_goals
    go_wp2_with fail
    go_ret
    exact ⟨by rw [HF.out]; rfl, F3⟩
set_option maxHeartbeats 1000000 in
theorem rfChange_tf (t k o0 o1 o2 n0 n1 n2 : Int) (w : World) : Calls Tryz.prog 70 #[.agg #[.int .i64 t, .int .i64 k, .bool true, .int .i64 o0, .int .i64 o1, .int .i64 o2, .bool false, .int .i64 n0, .int .i64 n1, .int .i64 n2]] w fun e w' => e = .returned (.bool (Rw.chg ⟨t, k, true, o0, o1, o2, false, n0, n1, n2⟩)) ∧ Fr [] w w' := by
  have HB := Lib.hid (rfBefore_any ⟨t, k, true, o0, o1, o2, false, n0, n1, n2⟩)
  have HA := Lib.hid (rfAfter_any ⟨t, k, true, o0, o1, o2, false, n0, n1, n2⟩)
  have HV := Lib.hid rfValid_any
  have hg := eqGuard_v3
  unfold Chg.val rowVal at *
  simp only [Bool.false_eq_true, if_false, if_true] at HB HA
  have HF : Hid (Rw.chg ⟨t, k, true, o0, o1, o2, false, n0, n1, n2⟩ = (Rw.row t k o0 o1 o2 && decide (n0 = 0 ∧ n1 = 0 ∧ n2 = 0))) := Lib.hid (by simp [Rw.chg, Rw.turns, Rw.sound])
  have hq := eql_v3 n0 n1 n2 0 0 0
  generalize hdd : decide (n0 = 0 ∧ n1 = 0 ∧ n2 = 0) = d at *
  generalize hr1 : Rw.row t k o0 o1 o2 = r1 at *
  have HR1 := Lib.hid hr1
  clear hr1 hdd
  go_enter Tryz.func70, Tryz.ntmps70
  go_wp2_with fail
  refine (HB.out _).mono ?_
  rintro e w1 ⟨rfl, f1⟩
  have F1 : Fr [] w w1 := ((Fr.refl _ _).alloc _).trans f1
  have hc := (Blk.new w 59 _).fr f1 (by simp)
  have c0 := hc.cell 0
  have c1 := hc.cell 1
  have c2 := hc.cell 2
  have c3 := hc.cell 3
  have c4 := hc.cell 4
  have c5 := hc.cell 5
  have c6 := hc.cell 6
  have c7 := hc.cell 7
  have c8 := hc.cell 8
  have c9 := hc.cell 9
  have hlt := hc.lt
  clear f1
  go_wp2_with fail
  refine (HA.out _).mono ?_
  rintro e w2 ⟨rfl, f2⟩
  have F2 : Fr [] w w2 := F1.trans (((Fr.refl _ _).alloc _).trans f2)
  have hc2 := (hc.alloc _).fr f2 (by simp)
  have hb2 := (Blk.new w1 116 _).fr f2 (by simp)
  clear c0 c1 c2 c3 c4 c5 c6 c7 c8 c9 hlt hc F1 f2
  have c3 := hc2.cell 3
  have c4 := hc2.cell 4
  have c5 := hc2.cell 5
  have c7 := hc2.cell 7
  have c8 := hc2.cell 8
  have c9 := hc2.cell 9
  have b0 := hb2.cell 0
  have b1 := hb2.cell 1
  have b2 := hb2.cell 2
  have b3 := hb2.cell 3
  have b4 := hb2.cell 4
  have hlt := hc2.lt
  have hlt2 := hb2.lt
  go_wp2_with fail
  refine (HV.out t k o0 o1 o2 _).mono ?_
  rintro e w3 ⟨he, f3⟩
  rw [HR1.out] at he
  subst he
  have F3 := (F2.alloc (.cells #[.int .i64 0, .int .i64 0, .int .i64 0, .int .i64 0, .int .i64 0] 116)).trans f3
  have hc3 := (hc2.alloc _).fr f3 (by simp)
  clear c3 c4 c5 c7 c8 c9 b0 b1 b2 b3 b4 hlt hlt2 f3 F2 hc2
  cases r1
  · go_wp2_with fail
    go_ret
    exact ⟨by rw [HF.out]; rfl, F3⟩
  have c3 := hc3.cell 3
  have c4 := hc3.cell 4
  have c5 := hc3.cell 5
  have c7 := hc3.cell 7
  have c8 := hc3.cell 8
  have c9 := hc3.cell 9
  cases d
  all_goals
    go_wp2_with fail
    go_ret
    exact ⟨by rw [HF.out]; rfl, F3⟩
/-- 'ValidChange'. -/
theorem rfChange_any (c : Chg) (w : World) : Calls Tryz.prog 70 #[c.val] w fun e w' => e = .returned (.bool (Rw.chg c)) ∧ Fr [] w w' := by
  obtain ⟨t, k, had, o0, o1, o2, has, n0, n1, n2⟩ := c
  cases had <;> cases has
  · exact rfChange_ff t k o0 o1 o2 n0 n1 n2 w
  · exact rfChange_ft t k o0 o1 o2 n0 n1 n2 w
  · exact rfChange_tf t k o0 o1 o2 n0 n1 n2 w
  · exact rfChange_tt t k o0 o1 o2 n0 n1 n2 w
end Go.Proofs.YtciaallekkdnhaaGreat
namespace Go.Proofs.YtciaallekkdnhaaGreat

/-- A query. -/
structure Qry where
  kind : Int
  table : Int
  column : Int
  low : Int
  high : Int
  by_ : Int
  other : Int
  deriving DecidableEq
@[reducible] def Qry.val (q : Qry) : Value := .agg #[.int .i64 q.kind, .int .i64 q.table, .int .i64 q.column, .int .i64 q.low, .int .i64 q.high, .int .i64 q.by_, .int .i64 q.other]
/-- A result. -/
structure Res where
  rows : List RowV
  value : Int
  found : Bool
  deriving DecidableEq
namespace Em

def within (n a b : Int) : Bool := decide (a ≤ n) && decide (n ≤ b)
def base (q : Qry) : Bool := within q.table 0 3 && (within q.column 0 3 && (within q.low (-1000000000) q.high && decide (q.high ≤ 1000000000)))
def valid (q : Qry) : Bool :=
  if q.kind = 1 then base q && (decide (q.column = 0) && (decide (q.low = q.high) && (within q.low 1 1000000 && (decide (q.by_ = 0) && decide (q.other = 0)))))
  else if q.kind = 7 then base q && (within q.other 0 3 && within q.by_ 1 3)
  else if q.kind = 4 ∨ q.kind = 5 ∨ q.kind = 6 then base q && (within q.by_ 1 3 && decide (q.other = 0))
  else if q.kind = 2 ∨ q.kind = 3 then base q && (decide (q.by_ = 0) && decide (q.other = 0))
  else false
def zero : Res := ⟨[], 0, false⟩
def meas (q : Qry) (l : List RowV) : List Int := l.map (·.value q.by_)
def count (r : Res) (_ : RowV) : Res := ⟨r.rows, r.value + 1, r.found⟩
def plus (r : Res) (n : Int) : Res := ⟨r.rows, r.value + n, r.found⟩
def least (r : Res) (n : Int) : Res := ⟨r.rows, if r.found = false ∨ n < r.value then n else r.value, true⟩
def most (r : Res) (n : Int) : Res := ⟨r.rows, if r.found = false ∨ r.value < n then n else r.value, true⟩
def partner (others : List RowV) (t k : Int) : Option RowV := others.find? (fun x => decide (x.t = t) && decide (x.k = k))
def pair (q : Qry) (others : List RowV) (r : RowV) : List RowV := match partner others q.other (r.value q.by_) with
  | some x => [r, x]
  | none => []
def joined (q : Qry) (rows others : List RowV) : List RowV := rows.flatMap (pair q others)
def res (q : Qry) (rows others : List RowV) : Res :=
  if valid q = true then
    if q.kind = 3 then rows.foldl count zero
    else if q.kind = 4 then (meas q rows).foldl plus zero
    else if q.kind = 5 then (meas q rows).foldl least zero
    else if q.kind = 6 then (meas q rows).foldl most zero
    else if q.kind = 7 then ⟨joined q rows others, 0, false⟩
    else ⟨rows, 0, false⟩
  else zero
end Em
end Go.Proofs.YtciaallekkdnhaaGreat
namespace Go.Proofs.YtciaallekkdnhaaGreat

/-- A world behind W: what is old there is as it was. -/
structure Later (W : World) where
  w : World
  fr : Fr [] W w
instance (W : World) : Nonempty (Later W) := ⟨⟨W, Fr.refl [] W⟩⟩
theorem Later.cell {W : World} (p : Later W) {b o : Nat} {v : Value} (hb : b < W.heap.size) (h : W.cell? ⟨b, o, none⟩ = some v) : p.w.cell? ⟨b, o, none⟩ = some v := (p.fr.rules.1 b o hb).trans h
theorem Later.calls {P : Program} {f : FuncId} {args : Array Value} {W : World} {v : Value} {p : Later W} (h : Calls P f args p.w fun e w' => e = .returned v ∧ Fr [] p.w w') :
    Calls P f args p.w fun e w'' => e = .returned v ∧ ∃ q : Later W, w'' = q.w :=
  h.mono fun _ w' hh => ⟨hh.1, ⟨w', p.fr.trans hh.2⟩, rfl⟩
theorem wp_region_later {P : Program} {id : Nat} {Q : Exit → Act → World → Prop} {a : Act} {w : World} {l : List Oper} (hm : P.follows .mixedOrders = true) (hB : Region.lexB .any l.toArray = true)
    (h : wpQuiet P l.toArray (fun w' => ∃ p : Later w, w' = p.w) (fun a' => ∀ w', (∃ p : Later w, w' = p.w) → Q .normal a' w') l a) : (Code.region id l.toArray true).wp P Q a w :=
  wp_region_quiet (C := fun w' => ∃ p : Later w, w' = p.w) hm hB ⟨⟨_, (Fr.refl [] w).drew⟩, rfl⟩ (by simpa using h)
end Go.Proofs.YtciaallekkdnhaaGreat
namespace Go.Proofs.YtciaallekkdnhaaGreat
open Go.RowKit Go.WideShapes Go.ChangeShapes

/-- n elements of six integers each. -/
structure SixAt (w : World) (b off n : Nat) : Prop where
  cell : ∀ i, i < n → ∀ j, j < 6 → ∃ z, w.cell? ⟨b, off + i * 6 + j, none⟩ = some (.int .i64 z) ∧ okI z
  lt : b < w.heap.size
theorem SixAt.fr0 {w w' : World} {b off n : Nat} (h : SixAt w b off n) (hf : Fr [] w w') : SixAt w' b off n :=
  ⟨fun i hi j hj => by
    obtain ⟨z, h1, h2⟩ := h.cell i hi j hj
    exact ⟨z, (hf.rules.1 b _ h.lt).trans h1, h2⟩, Nat.lt_of_lt_of_le h.lt hf.size⟩
theorem SixAt.le {w : World} {b off n m : Nat} (h : SixAt w b off n) (hm : m ≤ n) : SixAt w b off m := ⟨fun i hi => h.cell i (by omega), h.lt⟩

set_option maxRecDepth 100000 in
theorem sixCells : Tryz.prog.cellsOf 129 = 6 := by kernel_rfl
set_option maxRecDepth 100000 in
theorem sixInt : Tryz.prog.cellsOf 3 = 1 := by kernel_rfl
set_option maxRecDepth 100000 in
theorem open_sixes {H : Type} {enc : TypeId × Value → H} {W : World} {base : Nat} {v : Value} {d : DataW H} {p : List MemPlace} (hv : Value.okWide Tryz.prog W .any base 23 v)
    (h : DataW.Trod enc Tryz.prog W 0 (fun _ => true) true 23 v d p) :
    ∃ A n cap, v = .slice A n cap ∧ n ≤ cap ∧ cap ≤ maxLen ∧ (n = 0 ∨ ∃ b off, A = some ⟨b, off, none⟩ ∧ SixAt W b off n) := by
  obtain ⟨a0, len, cap, rfl⟩ := okWide_slice Tryz.underlying23 hv
  obtain ⟨fuel, hf⟩ := h
  rcases Go.Deep.open_slice Tryz.underlying23 hf with ⟨hcs, hx⟩ | ⟨a, len', cap', m, n, D, Pl, hcs, _, hl, hm, hmm, hx, hi⟩
  · simp [Value.cells] at hcs
    obtain ⟨rfl, rfl, rfl⟩ := hcs
    exact ⟨_, _, _, rfl, Nat.le_refl _, by simp [maxLen], .inl rfl⟩
  · simp [Value.cells] at hcs
    obtain ⟨rfl, rfl, rfl⟩ := hcs
    simp only [if_true] at hmm
    subst hmm
    refine ⟨_, _, _, rfl, hl, hm, ?_⟩
    rcases Nat.eq_zero_or_pos len with h0 | h0
    · exact .inl h0
    · right
      have each : ∀ i, i < len → ∀ j, j < 6 → ∃ z, W.cell? ((a.add (i * 6)).add j) = some (.int .i64 z) ∧ okI z := fun i hil j hj => by
        obtain ⟨cs', hc, ht⟩ := hi i (by omega)
        rw [sixCells] at hc
        obtain ⟨xs, q, _, _, hlen, hxl, hat⟩ := DataW.trod_array Tryz.underlying129 ht
        obtain ⟨_, hcl, hcell⟩ := World.cells?_some hc
        have h1 := hat j hj
        rw [sixInt] at h1
        have hjl : j < cs'.length := by omega
        have hone : (cs'.drop (j * 1)).take 1 = [cs'[j]] := by
          rw [Nat.mul_one, List.drop_eq_getElem_cons hjl]
          rfl
        rw [hone, List.getElem?_eq_getElem (by omega)] at h1
        obtain ⟨z, hz, _, hw⟩ := DataW.trod_int Tryz.underlying3 h1
        have h2 := hcell j hj
        rw [List.getElem?_eq_getElem hjl] at h2
        injection hz with hz
        exact ⟨z, by rw [h2, hz], hw⟩
      obtain ⟨b, off, spot⟩ := a
      obtain ⟨z0, hz0, _⟩ := each 0 h0 0 (by decide)
      have hspot : spot = none := by simpa [Addr.add] using World.cell?_spot hz0
      subst hspot
      have hadd : ∀ o j, (⟨b, o, none⟩ : Addr).add j = ⟨b, o + j, none⟩ := fun o j => by unfold Addr.add; split <;> simp_all
      refine ⟨b, off, rfl, fun i hil j hj => ?_, ?_⟩
      · have h3 := each i hil j hj
        rwa [hadd, hadd] at h3
      · have h4 := World.block_lt_of_cell? W _ hz0
        simpa [Addr.add] using h4
end Go.Proofs.YtciaallekkdnhaaGreat

/-
  An argument that is a slice of arrays of six integers.
-/
import Derived.Test.YthiaaminkfkjpaaGreatGaa
import Derived.RegionTactic
import Derived.BigQuiet
import Derived.OpenShut
import Derived.Deep.Slices
namespace Go.Proofs.YthiaaminkfkjpaaGreat
open Go.RowKit Go.ChangeMaps
section
variable {K V : Type} {P : Program} {t k e : TypeId} {ek : K → Value} {kl : K → Lit} {ev : V → Value} {ok : K → Prop} {z : Value} {o : Oper} {a : Act} {C : Act → World → Prop} {Q : Exit → Act → World → Prop} {ops : Array Oper} {rest : List Oper} {E : Prop}

theorem step_of_wp {w : World} (hg : o.guard = none) (h : Oper.wp P o a w C Q) : if Region.wanted o (yielded ops a.tmps) = true then Oper.wp P o a w C Q else E := by
  rw [if_pos (by simp [Region.wanted, hg])]
  exact h
theorem wp_vlook [DecidableEq K] (w : World) (m x : Operand) (c : Bool) (hop : o.op = Op.lookup t m x c) (T : MT P t k e ek kl ev ok z) (b : Nat) (M : List (K × V)) (hm : a.eval m = .map (some b)) (h : VMap P k kl ev w b M) (x0 : K) (hx : a.eval x = ek x0) (hok : ok x0) (hK : C (a.put o.dst (if c then .tuple #[((mget M x0).map ev).getD z, .bool (mget M x0).isSome] else ((mget M x0).map ev).getD z)) w) : Oper.wp P o a w C Q := by
  have hrun := h.look T x0 hok c
  unfold Oper.wp
  simp [execOp, hop, hm, hx, hrun, Result.andThen]
  exact hK
theorem wpList_vlook [DecidableEq K] (w : World) (hg : o.guard = none) (m x : Operand) (c : Bool) (hop : o.op = Op.lookup t m x c) (T : MT P t k e ek kl ev ok z) (b : Nat) (M : List (K × V)) (hm : a.eval m = .map (some b)) (h : VMap P k kl ev w b M) (x0 : K) (hx : a.eval x = ek x0) (hok : ok x0) (hK : wpList P ops Q rest (a.put o.dst (if c then .tuple #[((mget M x0).map ev).getD z, .bool (mget M x0).isSome] else ((mget M x0).map ev).getD z)) w) : wpList P ops Q (o :: rest) a w :=
  wpList_plain hg fun _ hC => wp_vlook w m x c hop T b M hm h x0 hx hok (hC _ _ (hK))
theorem step_vlook [DecidableEq K] (w : World) (hg : o.guard = none) (m x : Operand) (c : Bool) (hop : o.op = Op.lookup t m x c) (T : MT P t k e ek kl ev ok z) (b : Nat) (M : List (K × V)) (hm : a.eval m = .map (some b)) (h : VMap P k kl ev w b M) (x0 : K) (hx : a.eval x = ek x0) (hok : ok x0) (hK : C (a.put o.dst (if c then .tuple #[((mget M x0).map ev).getD z, .bool (mget M x0).isSome] else ((mget M x0).map ev).getD z)) w) : if Region.wanted o (yielded ops a.tmps) = true then Oper.wp P o a w C Q else E :=
  step_of_wp hg (wp_vlook w m x c hop T b M hm h x0 hx hok hK)
theorem wp_vstore [DecidableEq K] (w : World) (m x v : Operand) (hop : o.op = Op.mapUpdate t m x v) (T : MT P t k e ek kl ev ok z) (b : Nat) (M : List (K × V)) (hm : a.eval m = .map (some b)) (h : VMap P k kl ev w b M) (x0 : K) (u0 : V) (hx : a.eval x = ek x0) (hv : a.eval v = ev u0) (hok : ok x0) (hn : M.length < maxLen) (hK : ∀ w', VMap P k kl ev w' b (mput M x0 u0) → w.mapTurned w' b → C (a.put o.dst undef) w') : Oper.wp P o a w C Q := by
  obtain ⟨w', hrun, r1, r2⟩ := h.store T x0 hok u0 hn
  unfold Oper.wp
  simp [execOp, hop, hm, hx, hv, hrun, Result.andThen]
  exact hK w' r1 r2
theorem wpList_vstore [DecidableEq K] (w : World) (hg : o.guard = none) (m x v : Operand) (hop : o.op = Op.mapUpdate t m x v) (T : MT P t k e ek kl ev ok z) (b : Nat) (M : List (K × V)) (hm : a.eval m = .map (some b)) (h : VMap P k kl ev w b M) (x0 : K) (u0 : V) (hx : a.eval x = ek x0) (hv : a.eval v = ev u0) (hok : ok x0) (hn : M.length < maxLen) (hK : ∀ w', VMap P k kl ev w' b (mput M x0 u0) → w.mapTurned w' b → wpList P ops Q rest (a.put o.dst undef) w') : wpList P ops Q (o :: rest) a w :=
  wpList_plain hg fun _ hC => wp_vstore w m x v hop T b M hm h x0 u0 hx hv hok hn (fun w' h1 h2 => hC _ _ (hK w' h1 h2))
theorem step_vstore [DecidableEq K] (w : World) (hg : o.guard = none) (m x v : Operand) (hop : o.op = Op.mapUpdate t m x v) (T : MT P t k e ek kl ev ok z) (b : Nat) (M : List (K × V)) (hm : a.eval m = .map (some b)) (h : VMap P k kl ev w b M) (x0 : K) (u0 : V) (hx : a.eval x = ek x0) (hv : a.eval v = ev u0) (hok : ok x0) (hn : M.length < maxLen) (hK : ∀ w', VMap P k kl ev w' b (mput M x0 u0) → w.mapTurned w' b → C (a.put o.dst undef) w') : if Region.wanted o (yielded ops a.tmps) = true then Oper.wp P o a w C Q else E :=
  step_of_wp hg (wp_vstore w m x v hop T b M hm h x0 u0 hx hv hok hn hK)
theorem wp_vdel [DecidableEq K] (w : World) (m x : Operand) (hop : o.op = Op.call { callee := Callee.builtin Builtin.delete, args := #[m, x], argTypes := #[t, k] }) (T : MT P t k e ek kl ev ok z) (b : Nat) (M : List (K × V)) (hm : a.eval m = .map (some b)) (h : VMap P k kl ev w b M) (x0 : K) (hx : a.eval x = ek x0) (hok : ok x0) (hK : ∀ w', VMap P k kl ev w' b (mdel M x0) → w.mapTurned w' b → C (a.put o.dst (.tuple #[])) w') : Oper.wp P o a w C Q := by
  obtain ⟨w', hrun, r1, r2⟩ := h.drop T x0 hok o.type
  unfold Oper.wp
  simp [execOp, hop, resolve, invoke, builtin, hm, hx, hrun, Result.andThen]
  exact hK w' r1 r2
theorem wpList_vdel [DecidableEq K] (w : World) (hg : o.guard = none) (m x : Operand) (hop : o.op = Op.call { callee := Callee.builtin Builtin.delete, args := #[m, x], argTypes := #[t, k] }) (T : MT P t k e ek kl ev ok z) (b : Nat) (M : List (K × V)) (hm : a.eval m = .map (some b)) (h : VMap P k kl ev w b M) (x0 : K) (hx : a.eval x = ek x0) (hok : ok x0) (hK : ∀ w', VMap P k kl ev w' b (mdel M x0) → w.mapTurned w' b → wpList P ops Q rest (a.put o.dst (.tuple #[])) w') : wpList P ops Q (o :: rest) a w :=
  wpList_plain hg fun _ hC => wp_vdel w m x hop T b M hm h x0 hx hok (fun w' h1 h2 => hC _ _ (hK w' h1 h2))
theorem step_vdel [DecidableEq K] (w : World) (hg : o.guard = none) (m x : Operand) (hop : o.op = Op.call { callee := Callee.builtin Builtin.delete, args := #[m, x], argTypes := #[t, k] }) (T : MT P t k e ek kl ev ok z) (b : Nat) (M : List (K × V)) (hm : a.eval m = .map (some b)) (h : VMap P k kl ev w b M) (x0 : K) (hx : a.eval x = ek x0) (hok : ok x0) (hK : ∀ w', VMap P k kl ev w' b (mdel M x0) → w.mapTurned w' b → C (a.put o.dst (.tuple #[])) w') : if Region.wanted o (yielded ops a.tmps) = true then Oper.wp P o a w C Q else E :=
  step_of_wp hg (wp_vdel w m x hop T b M hm h x0 hx hok hK)
theorem wp_vlen (w : World) (m : Operand) (hop : o.op = Op.call { callee := Callee.builtin Builtin.len, args := #[m], argTypes := #[t] }) (ht : P.underlying t = some (.map k e)) (b : Nat) (M : List (K × V)) (hm : a.eval m = .map (some b)) (h : VMap P k kl ev w b M) (hK : C (a.put o.dst (.int .i64 M.length)) w) : Oper.wp P o a w C Q := by
  have hrun := h.len ht o.type
  unfold Oper.wp
  simp [execOp, hop, resolve, invoke, builtin, hm, hrun, Result.andThen]
  exact hK
theorem wpList_vlen (w : World) (hg : o.guard = none) (m : Operand) (hop : o.op = Op.call { callee := Callee.builtin Builtin.len, args := #[m], argTypes := #[t] }) (ht : P.underlying t = some (.map k e)) (b : Nat) (M : List (K × V)) (hm : a.eval m = .map (some b)) (h : VMap P k kl ev w b M) (hK : wpList P ops Q rest (a.put o.dst (.int .i64 M.length)) w) : wpList P ops Q (o :: rest) a w :=
  wpList_plain hg fun _ hC => wp_vlen w m hop ht b M hm h (hC _ _ (hK))
theorem step_vlen (w : World) (hg : o.guard = none) (m : Operand) (hop : o.op = Op.call { callee := Callee.builtin Builtin.len, args := #[m], argTypes := #[t] }) (ht : P.underlying t = some (.map k e)) (b : Nat) (M : List (K × V)) (hm : a.eval m = .map (some b)) (h : VMap P k kl ev w b M) (hK : C (a.put o.dst (.int .i64 M.length)) w) : if Region.wanted o (yielded ops a.tmps) = true then Oper.wp P o a w C Q else E :=
  step_of_wp hg (wp_vlen w m hop ht b M hm h hK)
theorem wp_vrange (w : World) (m : Operand) (hop : o.op = Op.range t m) (T : MT P t k e ek kl ev ok z) (b : Nat) (M : List (K × V)) (hm : a.eval m = .map (some b)) (h : VMap P k kl ev w b M) (hK : ∀ w', Iter P k kl ev w' b w.heap.size M M → Fr [] w w' → w'.heap.size = w.heap.size + 1 → C (a.put o.dst (.pointer (some ⟨w.heap.size, 0, none⟩))) w') : Oper.wp P o a w C Q := by
  obtain ⟨w', hrun, r1, r2, r3⟩ := h.range T
  unfold Oper.wp
  simp [execOp, hop, hm, hrun, Result.andThen]
  exact hK w' r1 r2 r3
theorem wpList_vrange (w : World) (hg : o.guard = none) (m : Operand) (hop : o.op = Op.range t m) (T : MT P t k e ek kl ev ok z) (b : Nat) (M : List (K × V)) (hm : a.eval m = .map (some b)) (h : VMap P k kl ev w b M) (hK : ∀ w', Iter P k kl ev w' b w.heap.size M M → Fr [] w w' → w'.heap.size = w.heap.size + 1 → wpList P ops Q rest (a.put o.dst (.pointer (some ⟨w.heap.size, 0, none⟩))) w') : wpList P ops Q (o :: rest) a w :=
  wpList_plain hg fun _ hC => wp_vrange w m hop T b M hm h (fun w' h1 h2 h3 => hC _ _ (hK w' h1 h2 h3))
theorem step_vrange (w : World) (hg : o.guard = none) (m : Operand) (hop : o.op = Op.range t m) (T : MT P t k e ek kl ev ok z) (b : Nat) (M : List (K × V)) (hm : a.eval m = .map (some b)) (h : VMap P k kl ev w b M) (hK : ∀ w', Iter P k kl ev w' b w.heap.size M M → Fr [] w w' → w'.heap.size = w.heap.size + 1 → C (a.put o.dst (.pointer (some ⟨w.heap.size, 0, none⟩))) w') : if Region.wanted o (yielded ops a.tmps) = true then Oper.wp P o a w C Q else E :=
  step_of_wp hg (wp_vrange w m hop T b M hm h hK)
theorem wp_vdel_iter [DecidableEq K] (w : World) (m x : Operand) (hop : o.op = Op.call { callee := Callee.builtin Builtin.delete, args := #[m, x], argTypes := #[t, k] }) (T : MT P t k e ek kl ev ok z) (b r : Nat) (M left : List (K × V)) (hm : a.eval m = .map (some b)) (h : Iter P k kl ev w b r M left) (x0 : K) (hx : a.eval x = ek x0) (hok : ok x0) (hK : ∀ w', Iter P k kl ev w' b r (mdel M x0) (mdel left x0) → w.mapTurned w' b → C (a.put o.dst (.tuple #[])) w') : Oper.wp P o a w C Q := by
  obtain ⟨w', hrun, r1, r2⟩ := h.drop T x0 hok o.type
  unfold Oper.wp
  simp [execOp, hop, resolve, invoke, builtin, hm, hx, hrun, Result.andThen]
  exact hK w' r1 r2
theorem wpList_vdel_iter [DecidableEq K] (w : World) (hg : o.guard = none) (m x : Operand) (hop : o.op = Op.call { callee := Callee.builtin Builtin.delete, args := #[m, x], argTypes := #[t, k] }) (T : MT P t k e ek kl ev ok z) (b r : Nat) (M left : List (K × V)) (hm : a.eval m = .map (some b)) (h : Iter P k kl ev w b r M left) (x0 : K) (hx : a.eval x = ek x0) (hok : ok x0) (hK : ∀ w', Iter P k kl ev w' b r (mdel M x0) (mdel left x0) → w.mapTurned w' b → wpList P ops Q rest (a.put o.dst (.tuple #[])) w') : wpList P ops Q (o :: rest) a w :=
  wpList_plain hg fun _ hC => wp_vdel_iter w m x hop T b r M left hm h x0 hx hok (fun w' h1 h2 => hC _ _ (hK w' h1 h2))
theorem step_vdel_iter [DecidableEq K] (w : World) (hg : o.guard = none) (m x : Operand) (hop : o.op = Op.call { callee := Callee.builtin Builtin.delete, args := #[m, x], argTypes := #[t, k] }) (T : MT P t k e ek kl ev ok z) (b r : Nat) (M left : List (K × V)) (hm : a.eval m = .map (some b)) (h : Iter P k kl ev w b r M left) (x0 : K) (hx : a.eval x = ek x0) (hok : ok x0) (hK : ∀ w', Iter P k kl ev w' b r (mdel M x0) (mdel left x0) → w.mapTurned w' b → C (a.put o.dst (.tuple #[])) w') : if Region.wanted o (yielded ops a.tmps) = true then Oper.wp P o a w C Q else E :=
  step_of_wp hg (wp_vdel_iter w m x hop T b r M left hm h x0 hx hok hK)
theorem wpList_vnext (w : World) (hg : o.guard = none) (it : Operand) (hop : o.op = Op.next it false) (T : MT P t k e ek kl ev ok z) (b r : Nat) (M left : List (K × V)) (hkv : ∀ q ∈ M, ok q.1)
    (hit : a.eval it = .pointer (some ⟨r, 0, none⟩)) (h : Iter P k kl ev w b r M left)
    (hDone : left = [] → wpList P ops Q rest (a.put o.dst (.tuple #[.bool false])) w)
    (hMore : ∀ (x : K) (u : V) (left' : List (K × V)) (w' : World), left.Perm ((x, u) :: left') → (x, u) ∈ M → Iter P k kl ev w' b r M left' → Fr [r] w w' → w'.heap.size = w.heap.size →
      (Instr.entry (.pointer (some ⟨r, 0, none⟩))).run P w' = .ok (.tuple #[ek x, ev u]) w' → wpList P ops Q rest (a.put o.dst (.tuple #[.bool true, ek x, ev u])) w') :
    wpList P ops Q (o :: rest) a w := by
  refine wpList_plain hg fun K' hK' => ?_
  unfold Oper.wp
  rcases h.next T hkv o.type with ⟨h0, hrun⟩ | ⟨x, u, left', w', hp, hm, hrun, hi, hf, hs, hen⟩
  · simp [execOp, hop, hit, hrun, Result.andThen]
    exact hK' _ _ (hDone h0)
  · simp [execOp, hop, hit, hrun, Result.andThen]
    exact hK' _ _ (hMore x u left' w' hp hm hi hf hs hen)
end
end Go.Proofs.YthiaaminkfkjpaaGreat
namespace Go.Proofs.YthiaaminkfkjpaaGreat

/-- A world behind W: what is old there is as it was. -/
structure Later (W : World) where
  w : World
  fr : Fr [] W w
instance (W : World) : Nonempty (Later W) := ⟨⟨W, Fr.refl [] W⟩⟩
theorem Later.cell {W : World} (p : Later W) {b o : Nat} {v : Value} (hb : b < W.heap.size) (h : W.cell? ⟨b, o, none⟩ = some v) : p.w.cell? ⟨b, o, none⟩ = some v := (p.fr.rules.1 b o hb).trans h
theorem Later.calls {P : Program} {f : FuncId} {args : Array Value} {W : World} {v : Value} {p : Later W} (h : Calls P f args p.w fun e w' => e = .returned v ∧ Fr [] p.w w') :
    Calls P f args p.w fun e w'' => e = .returned v ∧ ∃ q : Later W, w'' = q.w :=
  h.mono fun _ w' hh => ⟨hh.1, ⟨w', p.fr.trans hh.2⟩, rfl⟩
theorem wp_region_later {P : Program} {id : Nat} {Q : Exit → Act → World → Prop} {a : Act} {w : World} {l : List Oper} (hm : P.follows .mixedOrders = true) (hB : Region.lexB .any l.toArray = true)
    (h : wpQuiet P l.toArray (fun w' => ∃ p : Later w, w' = p.w) (fun a' => ∀ w', (∃ p : Later w, w' = p.w) → Q .normal a' w') l a) : (Code.region id l.toArray true).wp P Q a w :=
  wp_region_quiet (C := fun w' => ∃ p : Later w, w' = p.w) hm hB ⟨⟨_, (Fr.refl [] w).drew⟩, rfl⟩ (by simpa using h)
end Go.Proofs.YthiaaminkfkjpaaGreat
namespace Go.Proofs.YthiaaminkfkjpaaGreat
open Go.RowKit Go.WideShapes Go.ChangeShapes

/-- n elements of six integers each. -/
structure SixAt (w : World) (b off n : Nat) : Prop where
  cell : ∀ i, i < n → ∀ j, j < 6 → ∃ z, w.cell? ⟨b, off + i * 6 + j, none⟩ = some (.int .i64 z) ∧ okI z
  lt : b < w.heap.size
theorem SixAt.fr0 {w w' : World} {b off n : Nat} (h : SixAt w b off n) (hf : Fr [] w w') : SixAt w' b off n :=
  ⟨fun i hi j hj => by
    obtain ⟨z, h1, h2⟩ := h.cell i hi j hj
    exact ⟨z, (hf.rules.1 b _ h.lt).trans h1, h2⟩, Nat.lt_of_lt_of_le h.lt hf.size⟩
theorem SixAt.le {w : World} {b off n m : Nat} (h : SixAt w b off n) (hm : m ≤ n) : SixAt w b off m := ⟨fun i hi => h.cell i (by omega), h.lt⟩

set_option maxRecDepth 100000 in
theorem sixCells : Tryz.prog.cellsOf 62 = 6 := by kernel_rfl
set_option maxRecDepth 100000 in
theorem sixInt : Tryz.prog.cellsOf 3 = 1 := by kernel_rfl
set_option maxRecDepth 100000 in
theorem open_sixes {H : Type} {enc : TypeId × Value → H} {W : World} {base : Nat} {v : Value} {d : DataW H} {p : List MemPlace} (hv : Value.okWide Tryz.prog W .any base 22 v)
    (h : DataW.Trod enc Tryz.prog W 0 (fun _ => true) true 22 v d p) :
    ∃ A n cap, v = .slice A n cap ∧ n ≤ cap ∧ cap ≤ maxLen ∧ (n = 0 ∨ ∃ b off, A = some ⟨b, off, none⟩ ∧ SixAt W b off n) := by
  obtain ⟨a0, len, cap, rfl⟩ := okWide_slice Tryz.underlying22 hv
  obtain ⟨fuel, hf⟩ := h
  rcases Go.Deep.open_slice Tryz.underlying22 hf with ⟨hcs, hx⟩ | ⟨a, len', cap', m, n, D, Pl, hcs, _, hl, hm, hmm, hx, hi⟩
  · simp [Value.cells] at hcs
    obtain ⟨rfl, rfl, rfl⟩ := hcs
    exact ⟨_, _, _, rfl, Nat.le_refl _, by simp [maxLen], .inl rfl⟩
  · simp [Value.cells] at hcs
    obtain ⟨rfl, rfl, rfl⟩ := hcs
    simp only [if_true] at hmm
    subst hmm
    refine ⟨_, _, _, rfl, hl, hm, ?_⟩
    rcases Nat.eq_zero_or_pos len with h0 | h0
    · exact .inl h0
    · right
      have each : ∀ i, i < len → ∀ j, j < 6 → ∃ z, W.cell? ((a.add (i * 6)).add j) = some (.int .i64 z) ∧ okI z := fun i hil j hj => by
        obtain ⟨cs', hc, ht⟩ := hi i (by omega)
        rw [sixCells] at hc
        obtain ⟨xs, q, _, _, hlen, hxl, hat⟩ := DataW.trod_array Tryz.underlying62 ht
        obtain ⟨_, hcl, hcell⟩ := World.cells?_some hc
        have h1 := hat j hj
        rw [sixInt] at h1
        have hjl : j < cs'.length := by omega
        have hone : (cs'.drop (j * 1)).take 1 = [cs'[j]] := by
          rw [Nat.mul_one, List.drop_eq_getElem_cons hjl]
          rfl
        rw [hone, List.getElem?_eq_getElem (by omega)] at h1
        obtain ⟨z, hz, _, hw⟩ := DataW.trod_int Tryz.underlying3 h1
        have h2 := hcell j hj
        rw [List.getElem?_eq_getElem hjl] at h2
        injection hz with hz
        exact ⟨z, by rw [h2, hz], hw⟩
      obtain ⟨b, off, spot⟩ := a
      obtain ⟨z0, hz0, _⟩ := each 0 h0 0 (by decide)
      have hspot : spot = none := by simpa [Addr.add] using World.cell?_spot hz0
      subst hspot
      have hadd : ∀ o j, (⟨b, o, none⟩ : Addr).add j = ⟨b, o + j, none⟩ := fun o j => by unfold Addr.add; split <;> simp_all
      refine ⟨b, off, rfl, fun i hil j hj => ?_, ?_⟩
      · have h3 := each i hil j hj
        rwa [hadd, hadd] at h3
      · have h4 := World.block_lt_of_cell? W _ hz0
        simpa [Addr.add] using h4
end Go.Proofs.YthiaaminkfkjpaaGreat

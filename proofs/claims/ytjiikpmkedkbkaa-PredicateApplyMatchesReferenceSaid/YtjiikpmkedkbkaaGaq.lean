/-
  Touches.
-/
import Derived.Test.YtjiikpmkedkbkaaGan
import Derived.Test.YtjiikpmkedkbkaaGac
import Derived.Deep.RegionHeld3
namespace Go.Proofs.Ytjiikpmkedkbkaa
open Go.RowKit Go.ChangeMaps

section
variable {K V : Type} {P : Program} {t k e : TypeId} {ek : K → Value} {kl : K → Lit} {ev : V → Value} {ok : K → Prop} {z : Value} {o : Oper} {a : Act} {Q : Exit → Act → World → Prop} {ops : Array Oper} {rest : List Oper}
/-- An entry of a map's literal. -/
theorem wpList_vins [DecidableEq K] (w : World) (hg : o.guard = none) (m x v : Operand) (hop : o.op = Op.insert t m x v) (T : MT P t k e ek kl ev ok z) (b : Nat) (M : List (K × V)) (hm : a.eval m = .map (some b)) (h : VMap P k kl ev w b M) (x0 : K) (u0 : V) (hx : a.eval x = ek x0) (hv : a.eval v = ev u0) (hok : ok x0) (hn : M.length < maxLen)
    (hK : ∀ w', VMap P k kl ev w' b (mput M x0 u0) → w.mapTurned w' b → wpList P ops Q rest (a.put o.dst undef) w') : wpList P ops Q (o :: rest) a w :=
  wpList_plain hg fun _ hC => by
    obtain ⟨w', hrun, r1, r2⟩ := h.store T x0 hok u0 hn
    unfold Oper.wp
    simp [execOp, hop, hm, hx, hv, hrun, Result.andThen]
    exact hC _ _ (hK w' r1 r2)
end
theorem Blk.newP {w : World} {g t : Nat} {cs : Array Value} (h : g = w.heap.size) : Blk (w.alloc (.cells cs t)) g t cs := by
  subst h
  exact Blk.new w t cs
abbrev evK (p : Value × Value) : Value := .agg #[p.1, p.2]
theorem tyKind : MT Try.prog 74 3 73 (Value.int .i64) (Lit.int .i64) evK okI (.agg #[.nilFunc, .nilFunc]) where
  keyed := Maps.int_keyed Try.underlying3
  ht := Try.underlying74
  key := fun x hx => Maps.keyOf_int_mk Try.underlying3 hx
  inj := fun x y h => by injection h
  zero := fun w => by kernel_rfl
/-- What the map holds. -/
def KM (g5 g6 : Nat) : List (Int × Value × Value) := (mput (mput (mput (mput (mput (mput (mput ([] : List (Int × Value × Value)) 1 (fnV 48, fnV 49)) 2 (fnV 48, fnV 49)) 3 (fnV 50, fnV 51)) 4 (fnV 52, fnV 53)) 5 (fnV 54, .func (.func 74) #[] #[.pointer (some ⟨g5, 0, none⟩)])) 6 (fnV 57, .func (.func 74) #[] #[.pointer (some ⟨g6, 0, none⟩)])) 7 (fnV 59, fnV 60))
theorem KM.get (g5 g6 : Nat) : mget (KM g5 g6) 1 = some (fnV 48, fnV 49) ∧ mget (KM g5 g6) 2 = some (fnV 48, fnV 49) ∧ mget (KM g5 g6) 3 = some (fnV 50, fnV 51) ∧ mget (KM g5 g6) 4 = some (fnV 52, fnV 53) ∧ mget (KM g5 g6) 5 = some (fnV 54, .func (.func 74) #[] #[.pointer (some ⟨g5, 0, none⟩)]) ∧ mget (KM g5 g6) 6 = some (fnV 57, .func (.func 74) #[] #[.pointer (some ⟨g6, 0, none⟩)]) ∧ mget (KM g5 g6) 7 = some (fnV 59, fnV 60) := by
  refine ⟨by simp [KM, mget, mput, mdel], by simp [KM, mget, mput, mdel], by simp [KM, mget, mput, mdel], by simp [KM, mget, mput, mdel], by simp [KM, mget, mput, mdel], by simp [KM, mget, mput, mdel], by simp [KM, mget, mput, mdel]⟩
set_option maxRecDepth 100000 in
set_option maxHeartbeats 4000000 in
theorem kinds_any (w : World) : Calls Try.prog 29 #[] w fun e w' => ∃ b g5 g6, e = .returned (.map (some b)) ∧ VMap Try.prog 3 (Lit.int .i64) evK w' b (KM g5 g6) ∧ Blk w' g5 95 #[fnV 56] ∧ Blk w' g6 95 #[fnV 58] ∧ Fr [] w w' := by
  have V0 : Hid (VMap Try.prog 3 (Lit.int .i64) evK (w.alloc (.map #[] 0)) w.heap.size []) := Lib.hid (VMap.made _ _ _)
  have F0 : Hid (Fr [] w (w.alloc (.map #[] 0))) := Lib.hid ((Fr.refl _ _).alloc _)
  have S0 : Hid (w.heap.size < (w.alloc (.map #[] 0)).heap.size) := Lib.hid (by simp [World.size_alloc])
  have HX := Lib.hid pextreme_any
  have hmm := @run_makeMap Try.prog
  go_enter Try.func29, Try.ntmps29
  go_wp2_with (first
    | (refine wpList_vins _ rfl _ (.const (.int .i64 1)) _ rfl tyKind w.heap.size ([] : List (Int × Value × Value)) rfl V0.out 1 (fnV 48, fnV 49) rfl rfl (okI_mk (by decide) (by decide)) (by simp [maxLen]) ?_; intro w1 h1 t1; have V1 := Lib.hid h1; have F1 := Lib.hid (F0.out.trans' (turned_fr t1 (List.mem_singleton.2 rfl)) (fun i hi => .inr (by rw [List.mem_singleton] at hi; omega))); have S1 : Hid (w.heap.size < w1.heap.size) := Lib.hid (VMap.lt h1); clear h1 t1)
    | (refine wpList_vins _ rfl _ (.const (.int .i64 2)) _ rfl tyKind w.heap.size (mput ([] : List (Int × Value × Value)) 1 (fnV 48, fnV 49)) rfl V1.out 2 (fnV 48, fnV 49) rfl rfl (okI_mk (by decide) (by decide)) (by simp [mput, mdel, maxLen]) ?_; intro w2 h2 t2; have V2 := Lib.hid h2; have F2 := Lib.hid (F1.out.trans' (turned_fr t2 (List.mem_singleton.2 rfl)) (fun i hi => .inr (by rw [List.mem_singleton] at hi; omega))); have S2 : Hid (w.heap.size < w2.heap.size) := Lib.hid (VMap.lt h2); clear h2 t2)
    | (refine wpList_vins _ rfl _ (.const (.int .i64 3)) _ rfl tyKind w.heap.size (mput (mput ([] : List (Int × Value × Value)) 1 (fnV 48, fnV 49)) 2 (fnV 48, fnV 49)) rfl V2.out 3 (fnV 50, fnV 51) rfl rfl (okI_mk (by decide) (by decide)) (by simp [mput, mdel, maxLen]) ?_; intro w3 h3 t3; have V3 := Lib.hid h3; have F3 := Lib.hid (F2.out.trans' (turned_fr t3 (List.mem_singleton.2 rfl)) (fun i hi => .inr (by rw [List.mem_singleton] at hi; omega))); have S3 : Hid (w.heap.size < w3.heap.size) := Lib.hid (VMap.lt h3); clear h3 t3)
    | (refine wpList_vins _ rfl _ (.const (.int .i64 4)) _ rfl tyKind w.heap.size (mput (mput (mput ([] : List (Int × Value × Value)) 1 (fnV 48, fnV 49)) 2 (fnV 48, fnV 49)) 3 (fnV 50, fnV 51)) rfl V3.out 4 (fnV 52, fnV 53) rfl rfl (okI_mk (by decide) (by decide)) (by simp [mput, mdel, maxLen]) ?_; intro w4 h4 t4; have V4 := Lib.hid h4; have F4 := Lib.hid (F3.out.trans' (turned_fr t4 (List.mem_singleton.2 rfl)) (fun i hi => .inr (by rw [List.mem_singleton] at hi; omega))); have S4 : Hid (w.heap.size < w4.heap.size) := Lib.hid (VMap.lt h4); clear h4 t4)
    | (go_at_call 55; refine (HX.out 56 w4).mono ?_; rintro e wx ⟨rfl, rfl⟩; have V4b := Lib.hid (V4.out.alloc (.cells #[fnV 56] 95)); have F4b := Lib.hid (F4.out.alloc (.cells #[fnV 56] 95)); obtain ⟨g5, hg5⟩ : ∃ g, w4.heap.size = g := ⟨_, rfl⟩; have N5 : Hid (¬ g5 = w.heap.size) := Lib.hid (by have := S4.out; omega); have B5_4 := Lib.hid (Blk.newP (w := w4) (t := 95) (cs := #[fnV 56]) hg5.symm); rw [hg5]; clear hg5)
    | (refine wpList_vins _ rfl _ (.const (.int .i64 5)) _ rfl tyKind w.heap.size (mput (mput (mput (mput ([] : List (Int × Value × Value)) 1 (fnV 48, fnV 49)) 2 (fnV 48, fnV 49)) 3 (fnV 50, fnV 51)) 4 (fnV 52, fnV 53)) rfl V4b.out 5 (fnV 54, .func (.func 74) #[] #[.pointer (some ⟨g5, 0, none⟩)]) rfl rfl (okI_mk (by decide) (by decide)) (by simp [mput, mdel, maxLen]) ?_; intro w5 h5 t5; have V5 := Lib.hid h5; have F5 := Lib.hid (F4b.out.trans' (turned_fr t5 (List.mem_singleton.2 rfl)) (fun i hi => .inr (by rw [List.mem_singleton] at hi; omega))); have S5 : Hid (w.heap.size < w5.heap.size) := Lib.hid (VMap.lt h5); have B5_5 := Lib.hid (B5_4.out.fr (turned_fr t5 (List.mem_singleton.2 rfl)) (by rw [List.mem_singleton]; exact N5.out)); clear h5 t5)
    | (go_at_call 55; refine (HX.out 58 w5).mono ?_; rintro e wx ⟨rfl, rfl⟩; have V5b := Lib.hid (V5.out.alloc (.cells #[fnV 58] 95)); have F5b := Lib.hid (F5.out.alloc (.cells #[fnV 58] 95)); obtain ⟨g6, hg6⟩ : ∃ g, w5.heap.size = g := ⟨_, rfl⟩; have N6 : Hid (¬ g6 = w.heap.size) := Lib.hid (by have := S5.out; omega); have B6_5 := Lib.hid (Blk.newP (w := w5) (t := 95) (cs := #[fnV 58]) hg6.symm); have B5_5b := Lib.hid (B5_5.out.alloc (.cells #[fnV 58] 95)); rw [hg6]; clear hg6)
    | (refine wpList_vins _ rfl _ (.const (.int .i64 6)) _ rfl tyKind w.heap.size (mput (mput (mput (mput (mput ([] : List (Int × Value × Value)) 1 (fnV 48, fnV 49)) 2 (fnV 48, fnV 49)) 3 (fnV 50, fnV 51)) 4 (fnV 52, fnV 53)) 5 (fnV 54, .func (.func 74) #[] #[.pointer (some ⟨g5, 0, none⟩)])) rfl V5b.out 6 (fnV 57, .func (.func 74) #[] #[.pointer (some ⟨g6, 0, none⟩)]) rfl rfl (okI_mk (by decide) (by decide)) (by simp [mput, mdel, maxLen]) ?_; intro w6 h6 t6; have V6 := Lib.hid h6; have F6 := Lib.hid (F5b.out.trans' (turned_fr t6 (List.mem_singleton.2 rfl)) (fun i hi => .inr (by rw [List.mem_singleton] at hi; omega))); have S6 : Hid (w.heap.size < w6.heap.size) := Lib.hid (VMap.lt h6); have B5_6 := Lib.hid (B5_5b.out.fr (turned_fr t6 (List.mem_singleton.2 rfl)) (by rw [List.mem_singleton]; exact N5.out)); have B6_6 := Lib.hid (B6_5.out.fr (turned_fr t6 (List.mem_singleton.2 rfl)) (by rw [List.mem_singleton]; exact N6.out)); clear h6 t6)
    | (refine wpList_vins _ rfl _ (.const (.int .i64 7)) _ rfl tyKind w.heap.size (mput (mput (mput (mput (mput (mput ([] : List (Int × Value × Value)) 1 (fnV 48, fnV 49)) 2 (fnV 48, fnV 49)) 3 (fnV 50, fnV 51)) 4 (fnV 52, fnV 53)) 5 (fnV 54, .func (.func 74) #[] #[.pointer (some ⟨g5, 0, none⟩)])) 6 (fnV 57, .func (.func 74) #[] #[.pointer (some ⟨g6, 0, none⟩)])) rfl V6.out 7 (fnV 59, fnV 60) rfl rfl (okI_mk (by decide) (by decide)) (by simp [mput, mdel, maxLen]) ?_; intro w7 h7 t7; have V7 := Lib.hid h7; have F7 := Lib.hid (F6.out.trans' (turned_fr t7 (List.mem_singleton.2 rfl)) (fun i hi => .inr (by rw [List.mem_singleton] at hi; omega))); have S7 : Hid (w.heap.size < w7.heap.size) := Lib.hid (VMap.lt h7); have B5_7 := Lib.hid (B5_6.out.fr (turned_fr t7 (List.mem_singleton.2 rfl)) (by rw [List.mem_singleton]; exact N5.out)); have B6_7 := Lib.hid (B6_6.out.fr (turned_fr t7 (List.mem_singleton.2 rfl)) (by rw [List.mem_singleton]; exact N6.out)); clear h7 t7)
    )
  go_ret
  exact ⟨_, g5, g6, rfl, V7.out, B5_7.out, B6_7.out, F7.out⟩
end Go.Proofs.Ytjiikpmkedkbkaa
namespace Go.Proofs.Ytjiikpmkedkbkaa
open Go.RowKit

namespace Pm
/-- Whether the rows of an effect touch a query of a kind. -/
def tkE (k t o : Int) (p r : Bool) (u v : Int) : Bool :=
  if k = 3 then (p != r) else if k = 4 then !decide (u = v) else if k = 5 ∨ k = 6 then ((p != r) || !decide (u = v)) else if k = 7 then ((p || r) || decide (t = o)) else (p || r)
theorem tkE_tk (q : Qry) (c : Chg) : tkE q.kind c.t q.other (B q c).isSome (A q c).isSome (old q c) (now q c) = tk q c := rfl
theorem valid_kind {q : Qry} (h : Em.valid q = true) : q.kind = 1 ∨ q.kind = 2 ∨ q.kind = 3 ∨ q.kind = 4 ∨ q.kind = 5 ∨ q.kind = 6 ∨ q.kind = 7 := by
  unfold Em.valid at h
  split at h <;> rename_i h1
  · exact .inl h1
  · split at h <;> rename_i h2
    · omega
    · split at h <;> rename_i h3
      · omega
      · split at h <;> rename_i h4
        · omega
        · cases h
end Pm
/-- The function that says whether a query of a kind is touched. -/
theorem kindT {q : Qry} (hk : Em.valid q = true) : ∃ n : Nat, (∀ args w, (callFunc n args).run Try.prog w = .ok (.enter n args) w) ∧ (∀ (c : Chg) (pb pa : Option Addr) (u v : Int) (w : World), Calls Try.prog n #[.agg (effArr q c pb pa u v)] w fun e w' => e = .returned (.bool (Pm.tkE q.kind c.t q.other pb.isSome pa.isSome u v)) ∧ Fr [] w w') ∧
    ∀ g5 g6, ∃ p, mget (KM g5 g6) q.kind = some (fnV n, p) := by
  have hg := fun g5 g6 => KM.get g5 g6
  rcases Pm.valid_kind hk with h | h | h | h | h | h | h
  · refine ⟨48, enters_of Try.func48 (by kernel_rfl) rfl, fun c pb pa u v w => (pany_any q c pb pa u v w).mono fun e w' hh => ⟨hh.1.trans (by rw [h]; simp [Pm.tkE]), hh.2⟩, fun g5 g6 => ⟨_, by rw [h]; exact (hg g5 g6).1⟩⟩
  · refine ⟨48, enters_of Try.func48 (by kernel_rfl) rfl, fun c pb pa u v w => (pany_any q c pb pa u v w).mono fun e w' hh => ⟨hh.1.trans (by rw [h]; simp [Pm.tkE]), hh.2⟩, fun g5 g6 => ⟨_, by rw [h]; exact (hg g5 g6).2.1⟩⟩
  · refine ⟨50, enters_of Try.func50 (by kernel_rfl) rfl, fun c pb pa u v w => (pone_any q c pb pa u v w).mono fun e w' hh => ⟨hh.1.trans (by rw [h]; simp [Pm.tkE]), hh.2⟩, fun g5 g6 => ⟨_, by rw [h]; exact (hg g5 g6).2.2.1⟩⟩
  · refine ⟨52, enters_of Try.func52 (by kernel_rfl) rfl, fun c pb pa u v w => (psum_t q c pb pa u v w).mono fun e w' hh => ⟨hh.1.trans (by rw [h]; simp [Pm.tkE]), hh.2⟩, fun g5 g6 => ⟨_, by rw [h]; exact (hg g5 g6).2.2.2.1⟩⟩
  · refine ⟨54, enters_of Try.func54 (by kernel_rfl) rfl, fun c pb pa u v w => (pmin_t q c pb pa u v w).mono fun e w' hh => ⟨hh.1.trans (by rw [h]; simp [Pm.tkE]), hh.2⟩, fun g5 g6 => ⟨_, by rw [h]; exact (hg g5 g6).2.2.2.2.1⟩⟩
  · refine ⟨57, enters_of Try.func57 (by kernel_rfl) rfl, fun c pb pa u v w => (pmax_t q c pb pa u v w).mono fun e w' hh => ⟨hh.1.trans (by rw [h]; simp [Pm.tkE]), hh.2⟩, fun g5 g6 => ⟨_, by rw [h]; exact (hg g5 g6).2.2.2.2.2.1⟩⟩
  · refine ⟨59, enters_of Try.func59 (by kernel_rfl) rfl, fun c pb pa u v w => (pjoin_t q c pb pa u v w).mono fun e w' hh => ⟨hh.1.trans (by rw [h]; simp [Pm.tkE]), hh.2⟩, fun g5 g6 => ⟨_, by rw [h]; exact (hg g5 g6).2.2.2.2.2.2⟩⟩
set_option maxRecDepth 100000 in
set_option maxHeartbeats 8000000 in
/-- Whether a change touches a query. -/
theorem touches_any (q : Qry) (c : Chg) (hok : okI q.kind) (w : World) : Calls Try.prog 13 #[q.val, c.val] w fun e w' => e = .returned (.bool (Pm.touches q c)) ∧ Fr [] w w' := by
  have HQV := Lib.hid (qvalid_any q)
  have HCV := Lib.hid (validChange_any c)
  have HEF := Lib.hid (effectOf_any q c)
  have hf0 : Fr [] w ((w.alloc (.cells #[.int .i64 q.kind, .int .i64 q.table, .int .i64 q.column, .int .i64 q.low, .int .i64 q.high, .int .i64 q.by_, .int .i64 q.other] 24)).alloc (.cells #[.int .i64 c.t, .int .i64 c.k, .bool c.had, .int .i64 c.o0, .int .i64 c.o1, .int .i64 c.o2, .bool c.has, .int .i64 c.n0, .int .i64 c.n1, .int .i64 c.n2] 30)) := ((Fr.refl _ _).alloc _).alloc _
  have hq := (QAt.new w q).fr ((Fr.refl [] _).alloc (.cells #[.int .i64 c.t, .int .i64 c.k, .bool c.had, .int .i64 c.o0, .int .i64 c.o1, .int .i64 c.o2, .bool c.has, .int .i64 c.n0, .int .i64 c.n1, .int .i64 c.n2] 30)) (by simp)
  have hc := Blk.new (w.alloc (.cells #[.int .i64 q.kind, .int .i64 q.table, .int .i64 q.column, .int .i64 q.low, .int .i64 q.high, .int .i64 q.by_, .int .i64 q.other] 24)) 30 #[.int .i64 c.t, .int .i64 c.k, .bool c.had, .int .i64 c.o0, .int .i64 c.o1, .int .i64 c.o2, .bool c.has, .int .i64 c.n0, .int .i64 c.n1, .int .i64 c.n2]
  rw [World.size_alloc] at hc
  have HF0 := Lib.hid hf0
  have HQ := Lib.hid hq
  have HC := Lib.hid hc
  clear hf0 hq hc
  go_enter Try.func13, Try.ntmps13
  go_upto_region 1 with (fail)
  generalize (w.alloc (.cells #[.int .i64 q.kind, .int .i64 q.table, .int .i64 q.column, .int .i64 q.low, .int .i64 q.high, .int .i64 q.by_, .int .i64 q.other] 24)).alloc (.cells #[.int .i64 c.t, .int .i64 c.k, .bool c.had, .int .i64 c.o0, .int .i64 c.o1, .int .i64 c.o2, .bool c.has, .int .i64 c.n0, .int .i64 c.n1, .int .i64 c.n2] 30) = w1 at *
  have HS : Hid (∀ W, Fr [] w1 W → W.cell? ⟨w.heap.size, 0, none⟩ = some (.int .i64 q.kind) ∧ W.cell? ⟨w.heap.size, 1, none⟩ = some (.int .i64 q.table) ∧ W.cell? ⟨w.heap.size, 2, none⟩ = some (.int .i64 q.column) ∧ W.cell? ⟨w.heap.size, 3, none⟩ = some (.int .i64 q.low) ∧ W.cell? ⟨w.heap.size, 4, none⟩ = some (.int .i64 q.high) ∧ W.cell? ⟨w.heap.size, 5, none⟩ = some (.int .i64 q.by_) ∧ W.cell? ⟨w.heap.size, 6, none⟩ = some (.int .i64 q.other) ∧ W.cell? ⟨w.heap.size + 1, 0, none⟩ = some (.int .i64 c.t) ∧ W.cell? ⟨w.heap.size + 1, 1, none⟩ = some (.int .i64 c.k) ∧ W.cell? ⟨w.heap.size + 1, 2, none⟩ = some (.bool c.had) ∧ W.cell? ⟨w.heap.size + 1, 3, none⟩ = some (.int .i64 c.o0) ∧ W.cell? ⟨w.heap.size + 1, 4, none⟩ = some (.int .i64 c.o1) ∧ W.cell? ⟨w.heap.size + 1, 5, none⟩ = some (.int .i64 c.o2) ∧ W.cell? ⟨w.heap.size + 1, 6, none⟩ = some (.bool c.has) ∧ W.cell? ⟨w.heap.size + 1, 7, none⟩ = some (.int .i64 c.n0) ∧ W.cell? ⟨w.heap.size + 1, 8, none⟩ = some (.int .i64 c.n1) ∧ W.cell? ⟨w.heap.size + 1, 9, none⟩ = some (.int .i64 c.n2)) := Lib.hid (fun W hf => ⟨(HQ.out.fr hf (by simp)).c0, (HQ.out.fr hf (by simp)).c1, (HQ.out.fr hf (by simp)).c2, (HQ.out.fr hf (by simp)).c3, (HQ.out.fr hf (by simp)).c4, (HQ.out.fr hf (by simp)).c5, (HQ.out.fr hf (by simp)).c6, (HC.out.fr hf (by simp)).cell 0, (HC.out.fr hf (by simp)).cell 1, (HC.out.fr hf (by simp)).cell 2, (HC.out.fr hf (by simp)).cell 3, (HC.out.fr hf (by simp)).cell 4, (HC.out.fr hf (by simp)).cell 5, (HC.out.fr hf (by simp)).cell 6, (HC.out.fr hf (by simp)).cell 7, (HC.out.fr hf (by simp)).cell 8, (HC.out.fr hf (by simp)).cell 9⟩)
  cases hv : Em.valid q with
  | false =>
    have HV := Lib.hid hv
    have E : Hid (Pm.touches q c = false) := Lib.hid (by simp [Pm.touches, hv])
    have HQF : Hid (∀ W, Calls Try.prog 37 #[q.val] W fun e w' => e = .returned (.bool false) ∧ Fr [] W w') := Lib.hid (fun W => by rw [← hv]; exact HQV.out W)
    clear hv
    have l0 : ∀ p : Later w1, p.w.cell? ⟨w.heap.size, 0, none⟩ = some (.int .i64 q.kind) := fun p => (HS.out _ p.fr).1
    have l1 : ∀ p : Later w1, p.w.cell? ⟨w.heap.size, 1, none⟩ = some (.int .i64 q.table) := fun p => (HS.out _ p.fr).2.1
    have l2 : ∀ p : Later w1, p.w.cell? ⟨w.heap.size, 2, none⟩ = some (.int .i64 q.column) := fun p => (HS.out _ p.fr).2.2.1
    have l3 : ∀ p : Later w1, p.w.cell? ⟨w.heap.size, 3, none⟩ = some (.int .i64 q.low) := fun p => (HS.out _ p.fr).2.2.2.1
    have l4 : ∀ p : Later w1, p.w.cell? ⟨w.heap.size, 4, none⟩ = some (.int .i64 q.high) := fun p => (HS.out _ p.fr).2.2.2.2.1
    have l5 : ∀ p : Later w1, p.w.cell? ⟨w.heap.size, 5, none⟩ = some (.int .i64 q.by_) := fun p => (HS.out _ p.fr).2.2.2.2.2.1
    have l6 : ∀ p : Later w1, p.w.cell? ⟨w.heap.size, 6, none⟩ = some (.int .i64 q.other) := fun p => (HS.out _ p.fr).2.2.2.2.2.2.1
    have l7 : ∀ p : Later w1, p.w.cell? ⟨w.heap.size + 1, 0, none⟩ = some (.int .i64 c.t) := fun p => (HS.out _ p.fr).2.2.2.2.2.2.2.1
    have l8 : ∀ p : Later w1, p.w.cell? ⟨w.heap.size + 1, 1, none⟩ = some (.int .i64 c.k) := fun p => (HS.out _ p.fr).2.2.2.2.2.2.2.2.1
    have l9 : ∀ p : Later w1, p.w.cell? ⟨w.heap.size + 1, 2, none⟩ = some (.bool c.had) := fun p => (HS.out _ p.fr).2.2.2.2.2.2.2.2.2.1
    have l10 : ∀ p : Later w1, p.w.cell? ⟨w.heap.size + 1, 3, none⟩ = some (.int .i64 c.o0) := fun p => (HS.out _ p.fr).2.2.2.2.2.2.2.2.2.2.1
    have l11 : ∀ p : Later w1, p.w.cell? ⟨w.heap.size + 1, 4, none⟩ = some (.int .i64 c.o1) := fun p => (HS.out _ p.fr).2.2.2.2.2.2.2.2.2.2.2.1
    have l12 : ∀ p : Later w1, p.w.cell? ⟨w.heap.size + 1, 5, none⟩ = some (.int .i64 c.o2) := fun p => (HS.out _ p.fr).2.2.2.2.2.2.2.2.2.2.2.2.1
    have l13 : ∀ p : Later w1, p.w.cell? ⟨w.heap.size + 1, 6, none⟩ = some (.bool c.has) := fun p => (HS.out _ p.fr).2.2.2.2.2.2.2.2.2.2.2.2.2.1
    have l14 : ∀ p : Later w1, p.w.cell? ⟨w.heap.size + 1, 7, none⟩ = some (.int .i64 c.n0) := fun p => (HS.out _ p.fr).2.2.2.2.2.2.2.2.2.2.2.2.2.2.1
    have l15 : ∀ p : Later w1, p.w.cell? ⟨w.heap.size + 1, 8, none⟩ = some (.int .i64 c.n1) := fun p => (HS.out _ p.fr).2.2.2.2.2.2.2.2.2.2.2.2.2.2.2.1
    have l16 : ∀ p : Later w1, p.w.cell? ⟨w.heap.size + 1, 9, none⟩ = some (.int .i64 c.n2) := fun p => (HS.out _ p.fr).2.2.2.2.2.2.2.2.2.2.2.2.2.2.2.2
    refine wp_region_later (by kernel_rfl) (by kernel_rfl) ?_
    repeat (go_big_quiet_step (with_reducible exact Later.calls (HQF.out _)))
    refine wpQuiet_nil ?_
    rintro w' ⟨⟨wq, fq⟩, rfl⟩
    go_wp2
    go_ret
    exact ⟨by rw [E.out]; rfl, HF0.out.trans fq⟩
  | true =>
    cases hcv : Rw.chg c with
    | false =>
      have E : Hid (Pm.touches q c = false) := Lib.hid (by simp [Pm.touches, hcv])
      have HQF : Hid (∀ W, Calls Try.prog 37 #[q.val] W fun e w' => e = .returned (.bool true) ∧ Fr [] W w') := Lib.hid (fun W => by rw [← hv]; exact HQV.out W)
      have HCF : Hid (∀ W, Calls Try.prog 38 #[c.val] W fun e w' => e = .returned (.bool false) ∧ Fr [] W w') := Lib.hid (fun W => by rw [← hcv]; exact HCV.out W)
      clear hv hcv
      have l0 : ∀ p : Later w1, p.w.cell? ⟨w.heap.size, 0, none⟩ = some (.int .i64 q.kind) := fun p => (HS.out _ p.fr).1
      have l1 : ∀ p : Later w1, p.w.cell? ⟨w.heap.size, 1, none⟩ = some (.int .i64 q.table) := fun p => (HS.out _ p.fr).2.1
      have l2 : ∀ p : Later w1, p.w.cell? ⟨w.heap.size, 2, none⟩ = some (.int .i64 q.column) := fun p => (HS.out _ p.fr).2.2.1
      have l3 : ∀ p : Later w1, p.w.cell? ⟨w.heap.size, 3, none⟩ = some (.int .i64 q.low) := fun p => (HS.out _ p.fr).2.2.2.1
      have l4 : ∀ p : Later w1, p.w.cell? ⟨w.heap.size, 4, none⟩ = some (.int .i64 q.high) := fun p => (HS.out _ p.fr).2.2.2.2.1
      have l5 : ∀ p : Later w1, p.w.cell? ⟨w.heap.size, 5, none⟩ = some (.int .i64 q.by_) := fun p => (HS.out _ p.fr).2.2.2.2.2.1
      have l6 : ∀ p : Later w1, p.w.cell? ⟨w.heap.size, 6, none⟩ = some (.int .i64 q.other) := fun p => (HS.out _ p.fr).2.2.2.2.2.2.1
      have l7 : ∀ p : Later w1, p.w.cell? ⟨w.heap.size + 1, 0, none⟩ = some (.int .i64 c.t) := fun p => (HS.out _ p.fr).2.2.2.2.2.2.2.1
      have l8 : ∀ p : Later w1, p.w.cell? ⟨w.heap.size + 1, 1, none⟩ = some (.int .i64 c.k) := fun p => (HS.out _ p.fr).2.2.2.2.2.2.2.2.1
      have l9 : ∀ p : Later w1, p.w.cell? ⟨w.heap.size + 1, 2, none⟩ = some (.bool c.had) := fun p => (HS.out _ p.fr).2.2.2.2.2.2.2.2.2.1
      have l10 : ∀ p : Later w1, p.w.cell? ⟨w.heap.size + 1, 3, none⟩ = some (.int .i64 c.o0) := fun p => (HS.out _ p.fr).2.2.2.2.2.2.2.2.2.2.1
      have l11 : ∀ p : Later w1, p.w.cell? ⟨w.heap.size + 1, 4, none⟩ = some (.int .i64 c.o1) := fun p => (HS.out _ p.fr).2.2.2.2.2.2.2.2.2.2.2.1
      have l12 : ∀ p : Later w1, p.w.cell? ⟨w.heap.size + 1, 5, none⟩ = some (.int .i64 c.o2) := fun p => (HS.out _ p.fr).2.2.2.2.2.2.2.2.2.2.2.2.1
      have l13 : ∀ p : Later w1, p.w.cell? ⟨w.heap.size + 1, 6, none⟩ = some (.bool c.has) := fun p => (HS.out _ p.fr).2.2.2.2.2.2.2.2.2.2.2.2.2.1
      have l14 : ∀ p : Later w1, p.w.cell? ⟨w.heap.size + 1, 7, none⟩ = some (.int .i64 c.n0) := fun p => (HS.out _ p.fr).2.2.2.2.2.2.2.2.2.2.2.2.2.2.1
      have l15 : ∀ p : Later w1, p.w.cell? ⟨w.heap.size + 1, 8, none⟩ = some (.int .i64 c.n1) := fun p => (HS.out _ p.fr).2.2.2.2.2.2.2.2.2.2.2.2.2.2.2.1
      have l16 : ∀ p : Later w1, p.w.cell? ⟨w.heap.size + 1, 9, none⟩ = some (.int .i64 c.n2) := fun p => (HS.out _ p.fr).2.2.2.2.2.2.2.2.2.2.2.2.2.2.2.2
      refine wp_region_later (by kernel_rfl) (by kernel_rfl) ?_
      repeat (go_big_quiet_step (first | (with_reducible exact Later.calls (HQF.out _)) | (with_reducible exact Later.calls (HCF.out _))))
      refine wpQuiet_nil ?_
      rintro w' ⟨⟨wq, fq⟩, rfl⟩
      go_wp2
      go_ret
      exact ⟨by rw [E.out]; rfl, HF0.out.trans fq⟩
    | true =>
      have E : Hid (Pm.touches q c = Pm.tk q c) := Lib.hid (by simp [Pm.touches, hv, hcv])
      have HQF : Hid (∀ W, Calls Try.prog 37 #[q.val] W fun e w' => e = .returned (.bool true) ∧ Fr [] W w') := Lib.hid (fun W => by rw [← hv]; exact HQV.out W)
      have HCF : Hid (∀ W, Calls Try.prog 38 #[c.val] W fun e w' => e = .returned (.bool true) ∧ Fr [] W w') := Lib.hid (fun W => by rw [← hcv]; exact HCV.out W)
      obtain ⟨n, eg, hT, hM⟩ := kindT hv
      have HT := Lib.hid hT
      have HM := Lib.hid hM
      have HOK := Lib.hid hok
      clear hT hM hv hcv hok
      obtain ⟨s0, s1, s2, s3, s4, s5, s6, s7, s8, s9, s10, s11, s12, s13, s14, s15, s16⟩ := HS.out w1 (Fr.refl _ _)
      go_region_held3 (fun W => W.cell? ⟨w.heap.size, 0, none⟩ = some (.int .i64 q.kind) ∧ W.cell? ⟨w.heap.size, 1, none⟩ = some (.int .i64 q.table) ∧ W.cell? ⟨w.heap.size, 2, none⟩ = some (.int .i64 q.column) ∧ W.cell? ⟨w.heap.size, 3, none⟩ = some (.int .i64 q.low) ∧ W.cell? ⟨w.heap.size, 4, none⟩ = some (.int .i64 q.high) ∧ W.cell? ⟨w.heap.size, 5, none⟩ = some (.int .i64 q.by_) ∧ W.cell? ⟨w.heap.size, 6, none⟩ = some (.int .i64 q.other) ∧ W.cell? ⟨w.heap.size + 1, 0, none⟩ = some (.int .i64 c.t) ∧ W.cell? ⟨w.heap.size + 1, 1, none⟩ = some (.int .i64 c.k) ∧ W.cell? ⟨w.heap.size + 1, 2, none⟩ = some (.bool c.had) ∧ W.cell? ⟨w.heap.size + 1, 3, none⟩ = some (.int .i64 c.o0) ∧ W.cell? ⟨w.heap.size + 1, 4, none⟩ = some (.int .i64 c.o1) ∧ W.cell? ⟨w.heap.size + 1, 5, none⟩ = some (.int .i64 c.o2) ∧ W.cell? ⟨w.heap.size + 1, 6, none⟩ = some (.bool c.has) ∧ W.cell? ⟨w.heap.size + 1, 7, none⟩ = some (.int .i64 c.n0) ∧ W.cell? ⟨w.heap.size + 1, 8, none⟩ = some (.int .i64 c.n1) ∧ W.cell? ⟨w.heap.size + 1, 9, none⟩ = some (.int .i64 c.n2))
        (first | exact HS.out _ (Fr.refl [] _) | exact HS.out _ (Fr.refl [] _).drew | exact HS.out _ VF.out | exact HS.out _ CF.out | exact HS.out _ KF.out | exact HS.out _ EF.out | exact HS.out _ TF.out | go_keep)
        ((first
          | (go_at_call 37; (with_reducible refine (HQF.out _).mono ?_); rintro e wv ⟨rfl, fv⟩; have VF : Hid (Fr [] w1 wv) := Lib.hid (Fr.trans (by first | exact Fr.refl _ _ | exact (Fr.refl _ _).drew) fv); clear fv)
          | (go_at_call 38; (with_reducible refine (HCF.out _).mono ?_); rintro e wc ⟨rfl, fv⟩; have CF : Hid (Fr [] w1 wc) := Lib.hid (VF.out.trans fv); clear fv)
          | (go_at_call 29; (with_reducible refine (kinds_any _).mono ?_); rintro e wk ⟨b, g5, g6, rfl, hvm, -, -, fv⟩; have KF : Hid (Fr [] w1 wk) := Lib.hid (CF.out.trans fv); have VK := Lib.hid hvm; obtain ⟨pp, hpp⟩ := HM.out g5 g6; have hlk : (Instr.lookup 74 (.map (some b)) (.int .i64 q.kind) false).run Try.prog wk = .ok (.agg #[fnV n, pp]) wk := (by have h9 := VK.out.look tyKind q.kind HOK.out false; rw [hpp] at h9; exact h9); have HPP := Lib.hid hpp; have hfd : ∀ W, (Instr.field 73 (.agg #[fnV n, pp]) 0).run Try.prog W = .ok (fnV n) W := (fun W => by kernel_rfl); clear fv hvm hpp)
          | (go_at_call 30; (with_reducible refine (HEF.out _).mono ?_); rintro e we ⟨pb, pa, rfl, hpb, hpa, fv⟩; have EF : Hid (Fr [] w1 we) := Lib.hid (KF.out.trans fv); have IB := Lib.hid hpb.isSome; have IA := Lib.hid hpa.isSome; have hlk2 : (Instr.lookup 74 (.map (some b)) (.int .i64 q.kind) false).run Try.prog we = .ok (.agg #[fnV n, pp]) we := (by have h9 := (VK.out.fr fv (by simp)).look tyKind q.kind HOK.out false; rw [HPP.out] at h9; exact h9); clear fv hpb hpa)
          | (go_at_fn n; (with_reducible refine (HT.out c _ _ _ _ _).mono ?_); rintro e wt ⟨rfl, fv⟩; have TF : Hid (Fr [] w1 wt) := Lib.hid (EF.out.trans fv); clear fv)))
      all_goals
        go_wp2
        go_ret
        exact ⟨by rw [E.out, ← Pm.tkE_tk q c, ← IB.out, ← IA.out]; rfl, HF0.out.trans TF.out⟩
end Go.Proofs.Ytjiikpmkedkbkaa

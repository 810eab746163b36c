/-
  A drawn region's head where two operations may come up: both orders.
-/
import Derived.Test.YtjiikpmkedkbkaaGreatRows
import Derived.Test.YtjiikpmkedkbkaaGreatMaa
import Derived.ProofKit
import Derived.OpenShut
import Derived.SizedLaws
import Derived.Deep.Slices
import Derived.Deep.Fields
import Derived.Test.YtjiikpmkedkbkaaGreatMab
namespace Go.Proofs.YtjiikpmkedkbkaaGreat
open Go.RowKit Go.WideShapes Go.ChangeShapes Go.ChangeAt

section
variable {H : Type} {enc : TypeId × Value → H} {P : Program} {w : World} {base : Nat} {spare : Nat → Bool} {held : Bool}
open Go.Deep
theorem open_slice_fields {t e : TypeId} {fs : Array Field} {fuel : Nat} {cs : List Value} {x : DataW H × List MemPlace} (ht : P.underlying t = some (.slice e)) (he : P.underlying e = some (.struct fs))
    (hone : oneCellFields P fs = true) (hC : P.cellsOf e = fs.size) (h : DataW.trod enc P w base spare held fuel t cs = some x) :
    (cs = [.slice none 0 0] ∧ x = (.nil, [])) ∨
    ∃ (a : Addr) (len cap m : Nat) (D : Nat → DataW H) (Pl : Nat → List MemPlace), cs = [.slice (some a) len cap] ∧ base ≤ a.block ∧ len ≤ cap ∧ cap ≤ maxLen ∧ m = (if spare a.block then cap else len) ∧
      x = (.slice ((List.range len).map D) ((List.range (m - len)).map fun j => D (len + j)), MemPlace.row a (m * fs.size) ++ (List.range m).flatMap Pl) ∧
      ∀ i, i < m → ∃ (ys : List (DataW H × List MemPlace)) (n : Nat), D i = .agg (ys.map (·.1)) ∧ Pl i = ys.flatMap (·.2) ∧ ys.length = fs.size ∧
        ∀ (j : Nat) (f : Field), fs[j]? = some f → ∃ (v : Value) (y : DataW H × List MemPlace), w.cell? (a.add (i * fs.size + j)) = some v ∧ ys[j]? = some y ∧ DataW.trod enc P w base spare held n f.type [v] = some y := by
  rcases open_slice ht h with h0 | ⟨a, len, cap, m, n, D, Pl, hcs, hb, hl, hm, hmm, hx, hi⟩
  · exact .inl h0
  · refine .inr ⟨a, len, cap, m, D, Pl, hcs, hb, hl, hm, hmm, by rw [hC] at hx; exact hx, fun i him => ?_⟩
    obtain ⟨cs', hc, ht'⟩ := hi i him
    rw [hC] at hc
    obtain ⟨ys, n', hn', hy, hlen, hyl, hf⟩ := DataW.trod_struct he ht'
    obtain ⟨_, hcl, hat⟩ := World.cells?_some hc
    simp only [Prod.mk.injEq] at hy
    refine ⟨ys, n', hy.1, hy.2, hyl, fun j f hj => ?_⟩
    obtain ⟨ho, hk⟩ := hone_of hone j f hj
    have hjl : j < fs.size := (Array.getElem?_eq_some_iff.1 hj).1
    have hcell := hat j hjl
    have hv : cs'[j]? = some (cs'[j]'(by omega)) := List.getElem?_eq_getElem (by omega)
    have h1 := hf j f hj
    rw [ho, hk] at h1
    have hone' : (cs'.drop j).take 1 = [cs'[j]'(by omega)] := by
      rw [List.drop_eq_getElem_cons (by omega)]
      rfl
    rw [hone'] at h1
    have hys : ys[j]? = some (ys[j]'(by omega)) := List.getElem?_eq_getElem (by omega)
    refine ⟨_, _, ?_, hys, h1.trans hys⟩
    rw [← Go.Deep.add_add, hcell, hv]
end

section
variable {H : Type} {enc : TypeId × Value → H} {P : Program}
theorem post_of_below {f : Func} {s : ChangeSpec} {apart fresh handsOn again : Bool} {W W' : World} {args : Array Value} {v : Value} {ds gs : List (DataW H)} {before pa pv : List MemPlace}
    (hW : DataW.Whole enc P f.params.toList s.vars apart W args.toList ds gs before)
    (hres : ∀ (b : Nat) (sp : Nat → Bool) (hd : Bool), DataW.TrodAll enc P W' b sp hd f.resultTypes.toList (v.resultList f.resultTypes.size) (s.fn H (ds ++ gs)).results [])
    (hargs : ∀ sp : Nat → Bool, (∀ p ∈ before, sp p.block = true) → DataW.TrodAll enc P W' 0 sp true f.params.toList args.toList (s.fn H (ds ++ gs)).args pa)
    (hvars : ∀ sp : Nat → Bool, (∀ p ∈ before, sp p.block = true) → DataW.TrodVars enc P W' sp s.vars (s.fn H (ds ++ gs)).vars pv)
    (hps : before = pa ++ pv) (hb : Below W.heap.size W W')
    (hok : ∀ (j : Nat) (t : TypeId) (r : Value), f.resultTypes[j]? = some t → (v.resultList f.resultTypes.size)[j]? = some r → Value.okWide P W' .any 0 t r) :
    s.post enc P f apart fresh handsOn again W args v W' := by
  have hlt : ∀ p ∈ before, p.block < W.heap.size := fun p hp => hW.lt p hp
  have hold : ∀ p ∈ before, (fun b => decide (b < W.heap.size)) p.block = true := fun p hp => by simpa using hlt p hp
  refine ⟨ds, gs, before, [], pa, pv, hW, hres _ _ _, hargs _ hold, hvars _ hold, World.keptBut_mono (fun p hp => ⟨hp, ?_⟩) (hb.frame (· ∈ before)), fun _ => ?_⟩
  · rw [hps, List.mem_append] at hp
    exact Or.inr hp
  · obtain ⟨_, _, _, _, _, hz, hn⟩ := hW
    refine ⟨hok, _, _, ([] ++ pa) ++ pv, ⟨[] ++ pa, pv, trodAll_append (hargs _ (fun _ _ => rfl)) (hres _ _ _), hvars _ (fun _ _ => rfl), rfl, ?_, ?_⟩, ?_⟩
    · intro b off hp
      have hin : MemPlace.cell b off ∈ before := by rw [hps]; simpa using hp
      rw [hb.frozen (hlt _ hin)]
      exact hz b off hin
    · intro ha
      have := hn ha
      rw [hps] at this
      simpa using this
    · intro p hp _
      rw [hps]
      simpa using hp
end

/-- Arguments read as before. -/
theorem trodAll_below {H : Type} {enc : TypeId × Value → H} {P : Program} (hl : laidOutB P = true) {W W' : World} (hb : Below W.heap.size W W') {sp : Nat → Bool} : ∀ (ts : List TypeId) (vs : List Value) (ds : List (DataW H)) (ps : List MemPlace),
    (∀ t ∈ ts, P.readableRec t = true ∧ t < P.types.size) → DataW.TrodAll enc P W 0 (fun _ => true) true ts vs ds ps → (∀ x ∈ ps, x.block < W.heap.size) → (∀ x ∈ ps, sp x.block = true) → DataW.TrodAll enc P W' 0 sp true ts vs ds ps
  | [], vs, ds, ps, _, h, _, _ => by
    cases vs <;> cases ds <;> simp_all [DataW.TrodAll]
  | t :: ts, vs, ds, ps, ht, h, hlt, hsp => by
    obtain ⟨v, vs', d, ds', p, q, rfl, rfl, rfl, h1, h2⟩ := trodAll_cons h
    exact trodAll_cons_mk (WideElems.Trod_stays hl (ht t (by simp)).1 (ht t (by simp)).2 h1 (fun x hx => hb.same (hlt x (by simp [hx]))) (fun x hx => hsp x (by simp [hx])))
      (trodAll_below hl hb ts vs' ds' q (fun t' h' => ht t' (by simp [h'])) h2 (fun x hx => hlt x (by simp [hx])) (fun x hx => hsp x (by simp [hx])))

theorem trodAll_length {H : Type} {enc : TypeId × Value → H} {P : Program} {W : World} {b : Nat} {sp : Nat → Bool} {hd : Bool} : ∀ (ts : List TypeId) (vs : List Value) (ds : List (DataW H)) (ps : List MemPlace), DataW.TrodAll enc P W b sp hd ts vs ds ps → ds.length = ts.length
  | [], vs, ds, _, h => by cases vs <;> cases ds <;> simp_all [DataW.TrodAll]
  | t :: ts, vs, ds, ps, h => by
    obtain ⟨v, vs', d, ds', p, q, rfl, rfl, rfl, _, h2⟩ := trodAll_cons h
    simp [trodAll_length ts vs' ds' q h2]

set_option maxRecDepth 100000 in
theorem own : ownKnob Tryz.prog.godebug = none := by kernel_rfl
set_option maxRecDepth 100000 in
theorem laidOut : laidOutB Tryz.prog = true := by kernel_rfl

/-- What a law's walk owes: from the arguments' readings to 'true', what was there as it was. -/
def LawWalk (f : FuncId) (fn : Func) : Prop := ∀ (H : Type) (enc : TypeId × Value → H) (W : World) (base : Nat) (args : Array Value) (ds : List (DataW H)) (p : List MemPlace),
  (∀ (j : Nat) t v, fn.params[j]? = some t → args[j]? = some v → Value.okWide Tryz.prog W .any base t v) → DataW.TrodAll enc Tryz.prog W 0 (fun _ => true) true fn.params.toList args.toList ds p →
  (∀ x ∈ p, x.block < W.heap.size) → (DataW.weightsEach Tryz.prog fn.params.toList ds).all (· ≤ reachBytes) = true →
  Calls Tryz.prog f args W fun e W' => e = .returned (.bool true) ∧ Below W.heap.size W W'

set_option maxRecDepth 100000 in
theorem law_lifted {f : FuncId} {fn : Func} {s : ChangeSpec} {conds : List PathCond} (hfn : Tryz.prog.funcs[f]? = some fn) (noInit : Tryz.prog.inits.idxOf? f = none) (hvars : s.vars = [])
    (hrt : fn.resultTypes = #[4]) (hts : ∀ t ∈ fn.params.toList, Tryz.prog.readableRec t = true ∧ t < Tryz.prog.types.size)
    (hs : ∀ (H : Type) (ds : List (DataW H)), ds.length = fn.params.toList.length → (s.fn H (ds ++ [])).results = [.lit (.bool true)] ∧ (s.fn H (ds ++ [])).args = ds ∧ (s.fn H (ds ++ [])).vars = [])
    (walk : LawWalk f fn) (os : Os) (started : os.Started) (H : Type) (enc : TypeId × Value → H)
    (witness : ∃ (w : World) (tape : Tape) (i : Input), w.os = os ∧ (w.forCall tape i).Shaped Tryz.prog ∧ i.vars = [] ∧ Input.okWide Tryz.prog (w.forCall tape i) .any w.heap.size f i ∧
      s.pre6 enc Tryz.prog fn conds false (w.forCall tape i).memory i.args ∧ ({} : Assume).holds Tryz.prog (lone (Frame.enter Tryz.prog f i.args .normal) [] (w.forCall tape i))) :
    ReturnsInHanded {} Tryz.checked os f .any (s.pre6 enc Tryz.prog fn conds false) (s.post enc Tryz.prog fn false true false false) := by
  refine returnsInHanded_of_change_sized (C := Tryz.checked) own started noInit hfn witness ?_
  intro W base args ds gs before hval hW _ hsz _
  have hW' := hW
  obtain ⟨p, q, hA, hV, rfl, hfz, hnd⟩ := hW
  rw [hvars] at hV
  obtain ⟨rfl, rfl⟩ := trodVars_none hV
  rw [List.append_nil] at hW' hfz hnd
  have hlt : ∀ x ∈ p, x.block < W.heap.size := fun x hx => hW'.lt x hx
  have hvt : s.plain.varTypes Tryz.prog = [] := by
    simp [DataSpec.varTypes, ChangeSpec.plain, hvars]
  have hsz' : (DataW.weightsEach Tryz.prog fn.params.toList ds).all (· ≤ reachBytes) = true := by
    have := hsz
    rw [show s.plain.varTypes Tryz.checked.prog = [] from hvt, List.append_nil, List.append_nil] at this
    exact this
  refine (walk H enc W base args ds p hval hA hlt hsz').mono fun e W' ⟨he, hb⟩ => ?_
  subst he
  have hlen : ds.length = fn.params.toList.length := trodAll_length _ _ _ _ hA
  obtain ⟨s1, s2, s3⟩ := hs H ds hlen
  refine ⟨_, rfl, post_of_below (pa := p) (pv := []) hW' (fun b sp hd => ?_) (fun sp hsp => ?_) (fun sp _ => ?_) (by simp) hb ?_⟩
  · rw [s1, hrt]
    exact trodAll_mk1 (shut_bool Tryz.underlying4 _)
  · rw [s2]
    exact trodAll_below laidOut hb _ _ _ _ hts hA hlt hsp
  · rw [hvars, s3]; rfl
  · rw [hrt]
    intro j t r hj hr
    match j, hj, hr with
    | 0, hj, hr =>
      simp only [List.getElem?_toArray, List.getElem?_cons_zero, Option.some.injEq] at hj
      subst hj
      have hr' : some (Value.bool true) = some r := hr
      cases hr'
      exact okWide_bool_mk Tryz.underlying4 true
    | j + 1, hj, _ => simp at hj

/-- A list from what holds at each index. -/
theorem list_of_all {α : Type} {P : Nat → α → Prop} : ∀ (n : Nat), (∀ i, i < n → ∃ x, P i x) → ∃ xs : List α, xs.length = n ∧ ∀ i (h : i < xs.length), P i xs[i]
  | 0, _ => ⟨[], rfl, fun i h => by simp at h⟩
  | n + 1, h => by
    obtain ⟨xs, hl, hx⟩ := list_of_all n (fun i hi => h i (by omega))
    obtain ⟨x, hp⟩ := h n (by omega)
    refine ⟨xs ++ [x], by simp [hl], fun i hi => ?_⟩
    rcases Nat.lt_or_ge i xs.length with h1 | h1
    · rw [List.getElem_append_left h1]; exact hx i h1
    · have e : i = n := by simp at hi; omega
      subst e
      rw [List.getElem_append_right (by omega)]
      simpa using hp
end Go.Proofs.YtjiikpmkedkbkaaGreat
namespace Go.Proofs.YtjiikpmkedkbkaaGreat
open Go.RowKit Go.WideShapes Go.ChangeShapes

def okI (x : Int) : Prop := (Lit.int .i64 x).wf = true
theorem okI_mk {x : Int} (h1 : -9223372036854775808 ≤ x) (h2 : x ≤ 9223372036854775807) : okI x := WalkArith.wf_i64 ⟨h1, h2⟩
theorem okI_bounds {x : Int} (h : okI x) : -9223372036854775808 ≤ x ∧ x ≤ 9223372036854775807 := by
  have h1 : IntKind.i64.min ≤ x ∧ x ≤ IntKind.i64.max := by simpa [okI, Lit.wf] using h
  exact h1

/-- The elements of a slice of integers. -/
structure IntsAt (w : World) (b off : Nat) (xs : List Int) : Prop where
  cell : ∀ i (h : i < xs.length), w.cell? ⟨b, off + i, none⟩ = some (.int .i64 xs[i])
  wf : ∀ x ∈ xs, okI x
  lt : 0 < xs.length → b < w.heap.size
theorem IntsAt.fr {w w' : World} {b off : Nat} {xs : List Int} (h : IntsAt w b off xs) (hf : Fr [] w w') : IntsAt w' b off xs :=
  ⟨fun i hi => (hf.rules.1 b _ (h.lt (by omega))).trans (h.cell i hi), h.wf, fun hl => Nat.lt_of_lt_of_le (h.lt hl) hf.size⟩
set_option maxRecDepth 100000 in
theorem intCells : Tryz.prog.cellsOf 3 = 1 := by kernel_rfl
set_option maxRecDepth 100000 in
theorem open_intsAt {H : Type} {enc : TypeId × Value → H} {W : World} {base : Nat} {v : Value} {d : DataW H} {p : List MemPlace} (hv : Value.okWide Tryz.prog W .any base 96 v)
    (h : DataW.Trod enc Tryz.prog W 0 (fun _ => true) true 96 v d p) :
    ∃ A n cap xs, v = .slice A n cap ∧ xs.length = n ∧ n ≤ maxLen ∧ (n = 0 ∨ ∃ b off, A = some ⟨b, off, none⟩ ∧ IntsAt W b off xs) := by
  obtain ⟨a0, len, cap, rfl⟩ := okWide_slice Tryz.underlying96 hv
  obtain ⟨fuel, hf⟩ := h
  rcases open_ints Tryz.underlying96 Tryz.underlying3 intCells hf with ⟨hcs, hx⟩ | ⟨a, len', cap', zs, hcs, _, hl, hm, hz, hx, hcell, hwz⟩
  · simp [Value.cells] at hcs
    obtain ⟨rfl, rfl, rfl⟩ := hcs
    exact ⟨_, _, _, [], rfl, rfl, by simp [maxLen], .inl rfl⟩
  · simp [Value.cells] at hcs
    obtain ⟨rfl, rfl, rfl⟩ := hcs
    simp only [if_true] at hz
    have hlen : (zs.take len).length = len := by rw [List.length_take]; omega
    refine ⟨_, _, _, zs.take len, rfl, hlen, by omega, ?_⟩
    rcases Nat.eq_zero_or_pos len with h0 | h0
    · exact .inl h0
    · right
      obtain ⟨b, off, spot⟩ := a
      have hspot : spot = none := by simpa [Addr.add] using World.cell?_spot (hcell 0 (by omega))
      subst hspot
      have hadd : ∀ j, (⟨b, off, none⟩ : Addr).add j = ⟨b, off + j, none⟩ := fun j => by unfold Addr.add; split <;> simp_all
      refine ⟨b, off, rfl, fun i hi => ?_, fun x hx => hwz x (List.mem_of_mem_take hx), fun _ => World.block_lt_of_cell? W _ (hcell 0 (by omega))⟩
      have := hcell i (by omega)
      rw [hadd] at this
      rw [this, List.getElem_take]
      simp [List.getD_eq_getElem?_getD, List.getElem?_eq_getElem (show i < zs.length by omega)]
end Go.Proofs.YtjiikpmkedkbkaaGreat
namespace Go.Proofs.YtjiikpmkedkbkaaGreat

/-- A row. -/
structure RowV where
  t : Int
  k : Int
  x : Int
  y : Int
  z : Int
  deriving DecidableEq
@[reducible] def RowV.val (r : RowV) : Value := .agg #[.int .i64 r.t, .int .i64 r.k, .int .i64 r.x, .int .i64 r.y, .int .i64 r.z]
/-- What identifies a row: integers that fit. -/
abbrev IdK := { x : Int × Int // okI x.1 ∧ okI x.2 }
@[reducible] def IdK.val (x : IdK) : Value := .agg #[.int .i64 x.1.1, .int .i64 x.1.2]

instance (x : Int) : Decidable (okI x) := inferInstanceAs (Decidable ((Lit.int .i64 x).wf = true))
/-- The key that a change is about. -/
def idOf (t k : Int) : IdK := if h : okI t ∧ okI k then ⟨(t, k), h⟩ else ⟨(0, 0), okI_mk (by decide) (by decide), okI_mk (by decide) (by decide)⟩
theorem idOf_val {t k : Int} (h1 : okI t) (h2 : okI k) : (idOf t k).1 = (t, k) := by
  unfold idOf
  rw [dif_pos ⟨h1, h2⟩]

namespace Sm
structure Sta where
  M : List (IdK × RowV)
  pos : Int

def new : Sta := ⟨[], 0⟩
/-- Whether a change meets what is there. -/
def meets (M : List (IdK × RowV)) (c : Chg) : Bool := match mget M (idOf c.t c.k) with
  | some r => c.had && decide (r.x = c.o0 ∧ r.y = c.o1 ∧ r.z = c.o2)
  | none => !c.had
def grow (n : Int) (c : Chg) : Int := (if c.had = true then n - 1 else n) + (if c.has = true then 1 else 0)
def after (c : Chg) : RowV := ⟨c.t, c.k, c.n0, c.n1, c.n2⟩
def put1 (M : List (IdK × RowV)) (c : Chg) : List (IdK × RowV) := if c.has = true then mput M (idOf c.t c.k) (after c) else mdel M (idOf c.t c.k)
/-- The changes' part of 'fits', from a size on. -/
def fitsGo (M : List (IdK × RowV)) (n : Int) : List Chg → Bool
  | [] => decide (n ≤ 2000)
  | c :: cs => meets M c && fitsGo M (grow n c) cs
def fits (s : Sta) (r : Rec) : Bool := Rw.valid r && decide (r.p = s.pos + 1) && fitsGo s.M s.M.length r.cs
def apply (s : Sta) (r : Rec) : Sta := if fits s r = true then ⟨r.cs.foldl put1 s.M, r.p⟩ else s
def code (s : Sta) (r : Rec) : Int := if fits s r = true then 0 else 40
/-- What a state keeps to. -/
structure Ok (s : Sta) : Prop where
  p0 : 0 ≤ s.pos
  p1 : s.pos ≤ 10000
  nd : Nd s.M
  key : ∀ e ∈ s.M, e.1.1 = (e.2.t, e.2.k)
  len : s.M.length ≤ 2000
end Sm
end Go.Proofs.YtjiikpmkedkbkaaGreat
namespace Go.Proofs.YtjiikpmkedkbkaaGreat
open Go.RowKit Go.WideShapes Go.ChangeShapes

/-- n elements of six integers each. -/
structure SixAt (w : World) (b off n : Nat) : Prop where
  cell : ∀ i, i < n → ∀ j, j < 6 → ∃ z, w.cell? ⟨b, off + i * 6 + j, none⟩ = some (.int .i64 z) ∧ okI z
  lt : b < w.heap.size
theorem SixAt.fr0 {w w' : World} {b off n : Nat} (h : SixAt w b off n) (hf : Fr [] w w') : SixAt w' b off n :=
  ⟨fun i hi j hj => by
    obtain ⟨z, h1, h2⟩ := h.cell i hi j hj
    exact ⟨z, (hf.rules.1 b _ h.lt).trans h1, h2⟩, Nat.lt_of_lt_of_le h.lt hf.size⟩
theorem SixAt.le {w : World} {b off n m : Nat} (h : SixAt w b off n) (hm : m ≤ n) : SixAt w b off m := ⟨fun i hi => h.cell i (by omega), h.lt⟩

set_option maxRecDepth 100000 in
theorem sixCells : Tryz.prog.cellsOf 63 = 6 := by kernel_rfl
set_option maxRecDepth 100000 in
theorem sixInt : Tryz.prog.cellsOf 3 = 1 := by kernel_rfl
set_option maxRecDepth 100000 in
theorem open_sixes {H : Type} {enc : TypeId × Value → H} {W : World} {base : Nat} {v : Value} {d : DataW H} {p : List MemPlace} (hv : Value.okWide Tryz.prog W .any base 22 v)
    (h : DataW.Trod enc Tryz.prog W 0 (fun _ => true) true 22 v d p) :
    ∃ A n cap, v = .slice A n cap ∧ n ≤ cap ∧ cap ≤ maxLen ∧ (n = 0 ∨ ∃ b off, A = some ⟨b, off, none⟩ ∧ SixAt W b off n) := by
  obtain ⟨a0, len, cap, rfl⟩ := okWide_slice Tryz.underlying22 hv
  obtain ⟨fuel, hf⟩ := h
  rcases Go.Deep.open_slice Tryz.underlying22 hf with ⟨hcs, hx⟩ | ⟨a, len', cap', m, n, D, Pl, hcs, _, hl, hm, hmm, hx, hi⟩
  · simp [Value.cells] at hcs
    obtain ⟨rfl, rfl, rfl⟩ := hcs
    exact ⟨_, _, _, rfl, Nat.le_refl _, by simp [maxLen], .inl rfl⟩
  · simp [Value.cells] at hcs
    obtain ⟨rfl, rfl, rfl⟩ := hcs
    simp only [if_true] at hmm
    subst hmm
    refine ⟨_, _, _, rfl, hl, hm, ?_⟩
    rcases Nat.eq_zero_or_pos len with h0 | h0
    · exact .inl h0
    · right
      have each : ∀ i, i < len → ∀ j, j < 6 → ∃ z, W.cell? ((a.add (i * 6)).add j) = some (.int .i64 z) ∧ okI z := fun i hil j hj => by
        obtain ⟨cs', hc, ht⟩ := hi i (by omega)
        rw [sixCells] at hc
        obtain ⟨xs, q, _, _, hlen, hxl, hat⟩ := DataW.trod_array Tryz.underlying63 ht
        obtain ⟨_, hcl, hcell⟩ := World.cells?_some hc
        have h1 := hat j hj
        rw [sixInt] at h1
        have hjl : j < cs'.length := by omega
        have hone : (cs'.drop (j * 1)).take 1 = [cs'[j]] := by
          rw [Nat.mul_one, List.drop_eq_getElem_cons hjl]
          rfl
        rw [hone, List.getElem?_eq_getElem (by omega)] at h1
        obtain ⟨z, hz, _, hw⟩ := DataW.trod_int Tryz.underlying3 h1
        have h2 := hcell j hj
        rw [List.getElem?_eq_getElem hjl] at h2
        injection hz with hz
        exact ⟨z, by rw [h2, hz], hw⟩
      obtain ⟨b, off, spot⟩ := a
      obtain ⟨z0, hz0, _⟩ := each 0 h0 0 (by decide)
      have hspot : spot = none := by simpa [Addr.add] using World.cell?_spot hz0
      subst hspot
      have hadd : ∀ o j, (⟨b, o, none⟩ : Addr).add j = ⟨b, o + j, none⟩ := fun o j => by unfold Addr.add; split <;> simp_all
      refine ⟨b, off, rfl, fun i hil j hj => ?_, ?_⟩
      · have h3 := each i hil j hj
        rwa [hadd, hadd] at h3
      · have h4 := World.block_lt_of_cell? W _ hz0
        simpa [Addr.add] using h4
end Go.Proofs.YtjiikpmkedkbkaaGreat
namespace Go.Proofs.YtjiikpmkedkbkaaGreat
open Go

section
variable {P : Program} {md : Region.Mode} {ops : Array Oper} {Q : Exit → Act → World → Prop} {S : World → Prop}
/-- Two operations may come up: each is carried out, S shown anew. -/
theorem wpHead_two {n i j : Nat} {oi oj : Oper} {f : Nat} {done : Array Bool} {a : Act} {w : World} (hoi : ops[i]? = some oi) (hoj : ops[j]? = some oj) (hr : Region.ready md ops done = [i, j]) (hin : i < n) (hjn : j < n)
    (h1 : ∀ K' : Act → World → Prop, Shut (∀ a w, S w → (S w → wpHead P md ops Q S n f (done.setIfInBounds i true) a w) → K' a w) → if Region.wanted oi (yielded ops a.tmps) = true then Oper.wp P oi a w K' Q else K' (a.put oi.dst undef) w)
    (h2 : ∀ K' : Act → World → Prop, Shut (∀ a w, S w → (S w → wpHead P md ops Q S n f (done.setIfInBounds j true) a w) → K' a w) → if Region.wanted oj (yielded ops a.tmps) = true then Oper.wp P oj a w K' Q else K' (a.put oj.dst undef) w) :
    wpHead P md ops Q S n (f + 1) done a w := fun inv => by
  refine ⟨by rw [hr]; simp, fun k hk => ?_⟩
  have hk' : k = i ∨ k = j := by rw [hr] at hk; simpa using hk
  rcases hk' with hk' | hk'
  · subst hk'
    exact ⟨hin, wpOp_step hoi (fun K' hK => h1 K' (fun a w hS hW => hK a w ⟨hS, hW hS (inv.set hk hin)⟩))⟩
  · subst hk'
    exact ⟨hjn, wpOp_step hoj (fun K' hK => h2 K' (fun a w hS hW => hK a w ⟨hS, hW hS (inv.set hk hjn)⟩))⟩
end
end Go.Proofs.YtjiikpmkedkbkaaGreat

/-
  What the function does that patches a query of a kind.
-/
import Derived.Test.YtjiikpmkedkbkaaGreatMbl
namespace Go.Proofs.YtjiikpmkedkbkaaGreat
open Go.RowKit

namespace Pm
theorem value_bound {r : RowV} (h : Rw.row r.t r.k r.x r.y r.z = true) (c : Int) : -1000000000 ≤ r.value c ∧ r.value c ≤ 1000000000 := by
  obtain ⟨t, k, x, y, z⟩ := r
  simp only [Rw.row, Rw.inI, Bool.and_eq_true, decide_eq_true_eq] at h
  unfold RowV.value
  dsimp only
  repeat' split
  all_goals omega
theorem me_bound {q : Qry} {o : Option RowV} (h : ∀ r, o = some r → Rw.row r.t r.k r.x r.y r.z = true) : -1000000000 ≤ me q (sc q o) ∧ me q (sc q o) ≤ 1000000000 := by
  cases o with
  | none => simp [me, sc]
  | some r =>
    unfold sc
    rw [Option.filter]
    split
    · exact value_bound (h r rfl) _
    · simp [me]
theorem old_bound (q : Qry) {c : Chg} (hc : Rw.chg c = true) : -1000000000 ≤ old q c ∧ old q c ≤ 1000000000 := by
  refine me_bound (fun r hr => ?_)
  unfold bef at hr
  split at hr <;> rename_i hh
  · injection hr with hr
    subst hr
    simp only [Rw.chg, Rw.sound, Bool.and_eq_true, hh, if_true] at hc
    exact hc.1.2
  · cases hr
theorem now_bound (q : Qry) {c : Chg} (hc : Rw.chg c = true) : -1000000000 ≤ now q c ∧ now q c ≤ 1000000000 := by
  refine me_bound (fun r hr => ?_)
  unfold aft at hr
  split at hr <;> rename_i hh
  · injection hr with hr
    subst hr
    simp only [Rw.chg, Rw.sound, Bool.and_eq_true, hh, if_true] at hc
    exact hc.2
  · cases hr
theorem ins_len {X : Type} (p : X → Bool) (x : X) (l : List X) : (ins p x l).length = l.length + 1 := by
  induction l with
  | nil => rfl
  | cons z l ih =>
    rw [ins]
    split <;> simp [ih]
theorem rows_len (q : Qry) (l : List RowV) (c : Chg) : (rows q l c).length ≤ l.length + 1 := by
  unfold rows
  have h := List.length_filter_le (fun x => !own c x) l
  split
  · rw [ins_len]; omega
  · omega
theorem ext_extE (q : Qry) (r : Res) (c : Chg) : ext q r c = (if (extE (better q.kind) (B q c).isSome (A q c).isSome r.found r.value (old q c) (now q c)).2.2 = true then some ⟨r.rows, (extE (better q.kind) (B q c).isSome (A q c).isSome r.found r.value (old q c) (now q c)).1, (extE (better q.kind) (B q c).isSome (A q c).isSome r.found r.value (old q c) (now q c)).2.1⟩ else none) := by
  unfold ext extE
  split
  · rfl
  · split
    · rfl
    · rfl
end Pm
/-- What the patch of a result leaves. -/
def PK (w w' : World) (J : Option Res) (A : Option Addr) (n : Nat) (m : Int) (f k : Bool) (b : Nat) : Prop :=
  (k = true → ∃ L', J = some ⟨L', m, f⟩ ∧ AtL RowV.cells 5 w' A L' ∧ n = L'.length ∧ n ≤ b) ∧ (k = false → J = none) ∧ Fr [] w w'
abbrev PFun (n : Nat) (cb : Array Value) (q : Qry) (W : World) : Prop :=
  ∀ (c : Chg) (pb pa : Option Addr) (u v : Int) (X : Option Addr) (nx cap : Nat) (m : Int) (f : Bool) (L : List RowV), u = Pm.old q c → v = Pm.now q c → AtL RowV.cells 5 W X L → nx = L.length → nx ≤ 50000 → -4000000000000000000 ≤ m → m ≤ 4000000000000000000 → PtrR W pb (Pm.B q c) → PtrR W pa (Pm.A q c) → Rw.chg c = true →
    Calls Tryz.prog n (#[.agg (effArr q c pb pa u v), .agg #[.slice X nx cap, .int .i64 m, .bool f]] ++ cb) W fun e w' => ∃ A' n' c' m' f' k, e = .returned (.tuple #[.agg #[.slice A' n' c', .int .i64 m', .bool f'], .bool k]) ∧ PK W w' (Pm.pk q ⟨L, m, f⟩ c) A' n' m' f' k (nx + 2)
theorem pk_rows {q : Qry} (hk : q.kind = 1 ∨ q.kind = 2) (W : World) : PFun 60 #[] q W := by
  intro c pb pa u v X nx cap m f L hu hv hx hn hl h1 h2 hpb hpa hc
  refine (prows_any q c pb pa u v X nx cap m f L W hx hn (by omega) hpa).mono ?_
  rintro e w' ⟨A', n', c', rfl, ho, hf⟩
  have hat := ho.at1 RowV.cells_len
  refine ⟨A', n', c', m, f, true, rfl, fun _ => ⟨Pm.rows q L c, ?_, hat.1, hat.2, ?_⟩, fun h => (by cases h), hf⟩
  · unfold Pm.pk
    rw [if_neg (by omega), if_neg (by omega), if_neg (by omega), if_neg (by omega)]
  · rw [hat.2, hn]
    exact Nat.le_succ_of_le (Pm.rows_len q L c)
theorem pk_count {q : Qry} (hk : q.kind = 3) (W : World) : PFun 62 #[] q W := by
  intro c pb pa u v X nx cap m f L hu hv hx hn hl h1 h2 hpb hpa hc
  refine (pcount_any q c pb pa u v X nx cap m f W).mono ?_
  rintro e w' ⟨rfl, hf⟩
  refine ⟨X, nx, cap, _, f, true, rfl, fun _ => ⟨L, ?_, hx.fr0 hf, hn, by omega⟩, fun h => (by cases h), hf⟩
  unfold Pm.pk
  rw [if_pos hk, hpa.isSome]
  dsimp only
  congr 2
  split
  · exact (IntWalk.wrap64_in _ ⟨by omega, by omega⟩).symm
  · exact (IntWalk.wrap64_in _ ⟨by omega, by omega⟩).symm
theorem pk_sum {q : Qry} (hk : q.kind = 4) (W : World) : PFun 64 #[] q W := by
  intro c pb pa u v X nx cap m f L hu hv hx hn hl h1 h2 hpb hpa hc
  refine (psum_any q c pb pa u v X nx cap m f W).mono ?_
  rintro e w' ⟨rfl, hf⟩
  refine ⟨X, nx, cap, _, f, true, rfl, fun _ => ⟨L, ?_, hx.fr0 hf, hn, by omega⟩, fun h => (by cases h), hf⟩
  unfold Pm.pk
  have b1 := Pm.old_bound q hc
  have b2 := Pm.now_bound q hc
  rw [if_neg (by omega), if_pos hk, ← hu, ← hv]
  rw [← hu] at b1
  rw [← hv] at b2
  rw [IntWalk.wrap64_in (v - u) ⟨by omega, by omega⟩, IntWalk.wrap64_in _ ⟨by omega, by omega⟩]
theorem pk_ext {q : Qry} (hk : q.kind = 5 ∨ q.kind = 6) (W : World) (lf gb : Nat) (eg : ∀ args w, (callFunc lf args).run Tryz.prog w = .ok (.enter lf args) w) (hbt : ∀ a b w, Calls Tryz.prog lf #[.int .i64 a, .int .i64 b] w fun e w' => e = .returned (.bool (Pm.better q.kind a b)) ∧ w = w') (hg : Blk W gb 100 #[fnV lf]) : PFun 86 #[.pointer (some ⟨gb, 0, none⟩)] q W := by
  intro c pb pa u v X nx cap m f L hu hv hx hn hl h1 h2 hpb hpa hc
  refine (pext_any lf gb (Pm.better q.kind) q c pb pa u v X nx cap m f W eg hbt hg).mono ?_
  rintro e w' ⟨rfl, hf⟩
  have hj : Pm.pk q ⟨L, m, f⟩ c = Pm.ext q ⟨L, m, f⟩ c := by
    unfold Pm.pk
    rw [if_neg (by omega), if_neg (by omega), if_pos hk]
  have hext := Pm.ext_extE q ⟨L, m, f⟩ c
  rw [← hpb.isSome, ← hpa.isSome, ← hu, ← hv] at hext
  refine ⟨X, nx, cap, _, _, _, rfl, fun h => ⟨L, ?_, hx.fr0 hf, hn, by omega⟩, fun h => ?_, hf⟩
  · rw [hj, hext, if_pos h]
  · rw [hj, hext, if_neg (by rw [h]; simp)]
theorem pk_join {q : Qry} (hk : q.kind = 7) (W : World) : PFun 71 #[] q W := by
  intro c pb pa u v X nx cap m f L hu hv hx hn hl h1 h2 hpb hpa hc
  refine (pjoinP_any q c pb pa u v hu hv X nx cap m f L W hx hn hl hpb hpa).mono ?_
  rintro e w' ⟨A', n', c', k, rfl, g1, g2, hf⟩
  have hj : Pm.pk q ⟨L, m, f⟩ c = (if q.table = q.other then none else (Pm.join q (Pm.pairs L) c).map Pm.flat).map (fun l => ⟨l, m, f⟩) := by
    unfold Pm.pk
    rw [if_neg (by omega), if_neg (by omega), if_neg (by omega), if_pos hk]
    split
    · rfl
    · cases Pm.join q (Pm.pairs L) c <;> rfl
  refine ⟨A', n', c', m, f, k, rfl, fun h => ?_, fun h => ?_, hf⟩
  · obtain ⟨L', e1, e2, e3, e4⟩ := g1 h
    exact ⟨L', by rw [hj, e1]; rfl, e2, e3, e4⟩
  · rw [hj, g2 h]
    rfl
/-- The function that patches the results of a kind. -/
theorem kindP {q : Qry} (hk : Em.valid q = true) : ∃ n : Nat, (∀ args w, (callFunc n args).run Tryz.prog w = .ok (.enter n args) w) ∧ ∀ g5 g6, ∃ t cb, mget (KM g5 g6) q.kind = some (t, .func (.func n) #[] cb) ∧
    ∀ W, Blk W g5 100 #[fnV 67] → Blk W g6 100 #[fnV 69] → PFun n cb q W := by
  have hg := fun g5 g6 => KM.get g5 g6
  rcases Pm.valid_kind hk with h | h | h | h | h | h | h
  · exact ⟨60, enters_of Tryz.func60 (by kernel_rfl) rfl, fun g5 g6 => ⟨_, #[], by rw [h]; exact (hg g5 g6).1, fun W _ _ => pk_rows (.inl h) W⟩⟩
  · exact ⟨60, enters_of Tryz.func60 (by kernel_rfl) rfl, fun g5 g6 => ⟨_, #[], by rw [h]; exact (hg g5 g6).2.1, fun W _ _ => pk_rows (.inr h) W⟩⟩
  · exact ⟨62, enters_of Tryz.func62 (by kernel_rfl) rfl, fun g5 g6 => ⟨_, #[], by rw [h]; exact (hg g5 g6).2.2.1, fun W _ _ => pk_count h W⟩⟩
  · exact ⟨64, enters_of Tryz.func64 (by kernel_rfl) rfl, fun g5 g6 => ⟨_, #[], by rw [h]; exact (hg g5 g6).2.2.2.1, fun W _ _ => pk_sum h W⟩⟩
  · exact ⟨86, enters_of Tryz.func86 (by kernel_rfl) rfl, fun g5 g6 => ⟨_, #[.pointer (some ⟨g5, 0, none⟩)], by rw [h]; exact (hg g5 g6).2.2.2.2.1, fun W b5 _ => pk_ext (.inl h) W 67 g5 (enters_of Tryz.func67 (by kernel_rfl) rfl) (fun a b w => (pless_any a b w).mono fun e w' hh => ⟨hh.1.trans (by rw [h]; rfl), hh.2⟩) b5⟩⟩
  · exact ⟨86, enters_of Tryz.func86 (by kernel_rfl) rfl, fun g5 g6 => ⟨_, #[.pointer (some ⟨g6, 0, none⟩)], by rw [h]; exact (hg g5 g6).2.2.2.2.2.1, fun W _ b6 => pk_ext (.inr h) W 69 g6 (enters_of Tryz.func69 (by kernel_rfl) rfl) (fun a b w => (pmore_any a b w).mono fun e w' hh => ⟨hh.1.trans (by rw [h]; rfl), hh.2⟩) b6⟩⟩
  · exact ⟨71, enters_of Tryz.func71 (by kernel_rfl) rfl, fun g5 g6 => ⟨_, #[], by rw [h]; exact (hg g5 g6).2.2.2.2.2.2, fun W _ _ => pk_join h W⟩⟩
end Go.Proofs.YtjiikpmkedkbkaaGreat

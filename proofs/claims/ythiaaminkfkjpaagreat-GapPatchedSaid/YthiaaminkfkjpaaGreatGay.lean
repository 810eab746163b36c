/-
  PACKAGE gap IN PLAIN LEAN: what a receiver does.
-/
import Derived.Test.YthiaaminkfkjpaaGreatGaw
import Derived.Deep.RegionLaw
import Derived.Deep.DeepCutAuto
import Derived.Test.YthiaaminkfkjpaaGreatGab
namespace Go.Proofs.YthiaaminkfkjpaaGreat
open Go.RowKit

theorem tyIRw : MT Tryz.prog 123 3 67 (Value.int .i64) (Lit.int .i64) RowV.val okI (.agg #[.int .i64 0, .int .i64 0, .int .i64 0, .int .i64 0, .int .i64 0]) where
  keyed := Maps.int_keyed Tryz.underlying3
  ht := Tryz.underlying123
  key := fun x hx => Maps.keyOf_int_mk Tryz.underlying3 hx
  inj := fun x y h => by injection h
  zero := fun w => by kernel_rfl
namespace Em
def pstep (t : Int) (M : List (Int × RowV)) (x : RowV) : List (Int × RowV) := if x.t = t ∧ mget M x.k = none then mput M x.k x else M
def pmap (t : Int) (l : List RowV) : List (Int × RowV) := l.foldl (pstep t) []
theorem pstep_get (t : Int) (M : List (Int × RowV)) (x : RowV) (k : Int) : mget (pstep t M x) k = (mget M k).or (if (decide (x.t = t) && decide (x.k = k)) = true then some x else none) := by
  unfold pstep
  by_cases h1 : x.t = t
  · cases h2 : mget M x.k with
    | none =>
      rw [if_pos ⟨h1, rfl⟩]
      by_cases h3 : x.k = k
      · subst h3
        rw [mget_put_same, h2]
        simp [h1]
      · rw [mget_put_other (fun e => h3 e.symm)]
        simp [h3]
    | some r =>
      rw [if_neg (by simp)]
      by_cases h3 : x.k = k
      · subst h3
        rw [h2]
        rfl
      · simp [h3]
  · rw [if_neg (fun h => h1 h.1)]
    simp [h1]
theorem pmap_from (t k : Int) : ∀ (l : List RowV) (M : List (Int × RowV)), mget (l.foldl (pstep t) M) k = (mget M k).or (partner l t k)
  | [], M => by simp [partner]
  | x :: l, M => by
    rw [List.foldl_cons, pmap_from t k l, pstep_get]
    unfold partner
    rw [List.find?_cons]
    cases (decide (x.t = t) && decide (x.k = k)) <;> cases mget M k <;> simp
theorem pmap_get (t k : Int) (l : List RowV) : mget (pmap t l) k = partner l t k := by
  unfold pmap
  rw [pmap_from]
  simp [mget]
theorem pstep_len (t : Int) (M : List (Int × RowV)) (x : RowV) : (pstep t M x).length ≤ M.length + 1 := by
  unfold pstep
  split
  · show (mput M x.k x).length ≤ _
    unfold mput mdel
    rw [List.length_cons]
    exact Nat.succ_le_succ (List.length_filter_le _ _)
  · omega
theorem pmap_len (t : Int) (l : List RowV) : (pmap t l).length ≤ l.length := by
  have key : ∀ (l : List RowV) (M : List (Int × RowV)), (l.foldl (pstep t) M).length ≤ M.length + l.length := by
    intro l
    induction l with
    | nil => intro M; simp
    | cons x l ih =>
      intro M
      have h1 := ih (pstep t M x)
      have h2 := pstep_len t M x
      rw [List.foldl_cons, List.length_cons]
      omega
  have := key l []
  simpa [pmap] using this
theorem pmap_take (t : Int) (l : List RowV) {k : Nat} (hk : k < l.length) : pmap t (l.take (k + 1)) = pstep t (pmap t (l.take k)) l[k] := by
  unfold pmap
  rw [List.take_succ_eq_append_getElem hk, List.foldl_append]
  rfl
end Em
end Go.Proofs.YthiaaminkfkjpaaGreat
namespace Go.Proofs.YthiaaminkfkjpaaGreat
open Go.RowKit

/-- Between two rounds of the first loop. -/
structure JoA (w wr : World) (q : Qry) (M : List (Int × RowV)) : Prop where
  box : QAt wr w.heap.size q
  map : VMap Tryz.prog 3 (Lit.int .i64) RowV.val wr (w.heap.size + 1) M
  fr : Fr [] w wr
theorem JoA.fr0 {w wr w' : World} {q : Qry} {M : List (Int × RowV)} (h : JoA w wr q M) (hf : Fr [] wr w') : JoA w w' q M := ⟨h.box.fr hf (by simp), h.map.fr hf (by simp), h.fr.trans hf⟩
theorem JoA.turned {w wr w' : World} {q : Qry} {M M' : List (Int × RowV)} (h : JoA w wr q M) (hm : VMap Tryz.prog 3 (Lit.int .i64) RowV.val w' (w.heap.size + 1) M') (ht : wr.mapTurned w' (w.heap.size + 1)) : JoA w w' q M' := by
  have hf : Fr [w.heap.size + 1] wr w' := turned_fr ht (by simp)
  exact ⟨h.box.fr hf (by simp), hm, h.fr.trans' hf (fun x hx => .inr (by simp only [List.mem_singleton] at hx; omega))⟩
theorem Em.joined_len (q : Qry) (others : List RowV) : ∀ rows : List RowV, (Em.joined q rows others).length ≤ 2 * rows.length
  | [] => by simp [Em.joined]
  | r :: l => by
    have h := Em.joined_len q others l
    unfold Em.joined at *
    rw [List.flatMap_cons, List.length_append, List.length_cons]
    have : (Em.pair q others r).length ≤ 2 := by unfold Em.pair; split <;> simp
    omega
/-- Between two rounds of the second one. -/
structure JoB (w2 wr : World) (v : Value) (l : List RowV) : Prop where
  own : RowsOwn wr v l
  fr : Fr [] w2 wr
  new : ∀ g, v.ownBlock = some g → w2.heap.size ≤ g
theorem JoB.fr0 {w2 wr w' : World} {v : Value} {l : List RowV} (h : JoB w2 wr v l) (hf : Fr [] wr w') : JoB w2 w' v l := ⟨h.own.fr hf (by simp), h.fr.trans hf, h.new⟩
theorem JoB.grown {w2 wr w' : World} {v v' : Value} {l l' : List RowV} (h : JoB w2 wr v l) (ho : RowsOwn w' v' l') (hg : wr.grownBy w' v.ownBlock) (hat : v'.ownBlock = v.ownBlock ∨ v'.ownBlock = some wr.heap.size) : JoB w2 w' v' l' := by
  refine ⟨ho, h.fr.grown hg (fun g e => .inr (h.new g e)), fun g hgg => ?_⟩
  rcases hat with e | e
  · exact h.new g (e ▸ hgg)
  · rw [hgg] at e
    injection e with e
    have := h.fr.size
    omega
set_option maxRecDepth 100000 in
set_option maxHeartbeats 4000000 in
theorem joined_any (q : Qry) (A : Option Addr) (n cap : Nat) (rows : List RowV) (B : Option Addr) (m capB : Nat) (others : List RowV) (w : World) (hx : RowsAt w A rows) (hn : n = rows.length) (hl : n ≤ 4000) (hy : RowsAt w B others) (hm : m = others.length) (hlm : m ≤ 4000)
    (hk1 : ∀ r ∈ rows, okI (r.value q.by_)) (hk2 : ∀ r ∈ others, okI r.k) :
    Calls Tryz.prog 54 #[q.val, .slice A n cap, .slice B m capB] w fun e w' => ∃ v, e = .returned v ∧ RowsOwn w' v (Em.joined q rows others) ∧ Fr [] w w' ∧ ∀ g, v.ownBlock = some g → w.heap.size ≤ g := by
  have HX := Lib.hid hx
  have HN := Lib.hid hn
  have HY := Lib.hid hy
  have HM := Lib.hid hm
  have HK1 := Lib.hid hk1
  have HK2 := Lib.hid hk2
  clear hx hn hy hm hk1 hk2
  have hmm := @run_makeMap Tryz.prog
  have R0 : Hid (JoA w ((w.alloc (.cells #[.int .i64 q.kind, .int .i64 q.table, .int .i64 q.column, .int .i64 q.low, .int .i64 q.high, .int .i64 q.by_, .int .i64 q.other] 30)).alloc (.map #[] 0)) q []) := Lib.hid (by
    refine ⟨(QAt.new w q).fr ((Fr.refl [] _).alloc _) (by simp), ?_, ((Fr.refl _ _).alloc _).alloc _⟩
    have h := VMap.made (P := Tryz.prog) (k := 3) (Lit.int .i64) RowV.val (w.alloc (.cells #[.int .i64 q.kind, .int .i64 q.table, .int .i64 q.column, .int .i64 q.low, .int .i64 q.high, .int .i64 q.by_, .int .i64 q.other] 30))
    rw [World.size_alloc] at h
    exact h)
  obtain ⟨i0, TR⟩ := etRow
  unfold Qry.val
  go_enter Tryz.func54, Tryz.ntmps54
  go_wp2_with fail
  go_loopw [19] (fun i wr => ∃ k : Nat, k ≤ m ∧ i = .int .i64 k ∧ Hid (JoA w wr q (Em.pmap q.other (others.take k)))) (fun i _ => m - (intOf i).toNat)
  case atStart => exact ⟨0, Nat.zero_le _, rfl, R0⟩
  case round =>
    clear R0 hmm
    obtain ⟨k, hk, rfl, R⟩ := hrel
    by_cases hlt : k < m
    · obtain ⟨b, off, rfl, hb, hc⟩ := (HY.out.fr R.out.fr (by simp)) (by rw [← HM.out]; omega)
      have hkx : k < others.length := by rw [← HM.out]; exact hlt
      have c0 := hc k hkx 0 (by decide)
      have c1 := hc k hkx 1 (by decide)
      have c2 := hc k hkx 2 (by decide)
      have c3 := hc k hkx 3 (by decide)
      have c4 := hc k hkx 4 (by decide)
      have HT := Lib.hid (Em.pmap_take q.other others hkx)
      have hkey := HK2.out _ (List.getElem_mem hkx)
      have hlen := Em.pmap_len q.other (others.take k)
      have HLEN : Hid ((Em.pmap q.other (others.take k)).length < maxLen) := Lib.hid (by rw [List.length_take] at hlen; simp only [maxLen]; omega)
      clear hlen
      generalize others[k] = x at c0 c1 c2 c3 c4 HT hkey
      generalize Em.pmap q.other (others.take k) = M at R HT HLEN
      obtain ⟨rt, rk, rx, ry, rz⟩ := x
      have d0 : wr.cell? ⟨b, off + k * 5, none⟩ = some (.int .i64 rt) := c0
      have d1 : wr.cell? ⟨b, off + k * 5 + 1, none⟩ = some (.int .i64 rk) := c1
      have d2 : wr.cell? ⟨b, off + k * 5 + 2, none⟩ = some (.int .i64 rx) := c2
      have d3 : wr.cell? ⟨b, off + k * 5 + 3, none⟩ = some (.int .i64 ry) := c3
      have d4 : wr.cell? ⟨b, off + k * 5 + 4, none⟩ = some (.int .i64 rz) := c4
      clear c0 c1 c2 c3 c4 hb hc
      have RA := Lib.hid (R.out.fr0 ((Fr.refl [] wr).alloc (.cells #[.int .i64 rt, .int .i64 rk, .int .i64 rx, .int .i64 ry, .int .i64 rz] 67)))
      by_cases hto : rt = q.other
      · have HTO := Lib.hid hto
        have et : (rt == q.other) = true := by simp [hto]
        clear hto
        cases hmg : mget M rk with
        | none =>
          have HMG := Lib.hid hmg
          clear hmg
          have RB := Lib.hid (RA.out.fr0 ((Fr.refl [] (wr.alloc (.cells #[.int .i64 rt, .int .i64 rk, .int .i64 rx, .int .i64 ry, .int .i64 rz] 67))).alloc (.cells #[.int .i64 0, .int .i64 0, .int .i64 0, .int .i64 0, .int .i64 0] 67)))
          have q6 : ((wr.alloc (.cells #[.int .i64 rt, .int .i64 rk, .int .i64 rx, .int .i64 ry, .int .i64 rz] 67)).alloc (.cells #[.int .i64 0, .int .i64 0, .int .i64 0, .int .i64 0, .int .i64 0] 67)).cell? ⟨w.heap.size, 6, none⟩ = some (.int .i64 q.other) := RB.out.box.c6
          go_wp2_with (first | (at_lookup; refine wpList_vlook _ rfl _ _ true rfl tyIRw (w.heap.size + 1) M rfl RA.out.map rk rfl hkey ?_; rw [HMG.out]) | (at_mapUpdate; refine wpList_vstore _ rfl _ _ _ rfl tyIRw (w.heap.size + 1) M rfl RB.out.map rk ⟨rt, rk, rx, ry, rz⟩ rfl rfl hkey HLEN.out ?_; intro w6 hm6 ht6; have R6 := Lib.hid (RB.out.turned hm6 ht6); clear hm6 ht6))
          go_roundw
          case rel => exact ⟨k + 1, by omega, by go_num, by rw [HT.out]; unfold Em.pstep; rw [if_pos ⟨HTO.out, HMG.out⟩]; exact R6⟩
          case measure => simp [intOf]; omega
        | some r2 =>
          obtain ⟨t2, k2, x2, y2, z2⟩ := r2
          have HMG := Lib.hid hmg
          clear hmg
          have RB := Lib.hid (RA.out.fr0 ((Fr.refl [] (wr.alloc (.cells #[.int .i64 rt, .int .i64 rk, .int .i64 rx, .int .i64 ry, .int .i64 rz] 67))).alloc (.cells #[.int .i64 t2, .int .i64 k2, .int .i64 x2, .int .i64 y2, .int .i64 z2] 67)))
          have q6 : ((wr.alloc (.cells #[.int .i64 rt, .int .i64 rk, .int .i64 rx, .int .i64 ry, .int .i64 rz] 67)).alloc (.cells #[.int .i64 t2, .int .i64 k2, .int .i64 x2, .int .i64 y2, .int .i64 z2] 67)).cell? ⟨w.heap.size, 6, none⟩ = some (.int .i64 q.other) := RB.out.box.c6
          go_wp2_with (at_lookup; refine wpList_vlook _ rfl _ _ true rfl tyIRw (w.heap.size + 1) M rfl RA.out.map rk rfl hkey ?_; rw [HMG.out])
          go_roundw
          case rel => exact ⟨k + 1, by omega, by go_num, by rw [HT.out]; unfold Em.pstep; rw [if_neg (by simp [HMG.out])]; exact RB⟩
          case measure => simp [intOf]; omega
      · have HTO := Lib.hid hto
        have et : (rt == q.other) = false := by simp [hto]
        clear hto
        cases hmg : mget M rk with
        | none =>
          have HMG := Lib.hid hmg
          clear hmg
          have RB := Lib.hid (RA.out.fr0 ((Fr.refl [] (wr.alloc (.cells #[.int .i64 rt, .int .i64 rk, .int .i64 rx, .int .i64 ry, .int .i64 rz] 67))).alloc (.cells #[.int .i64 0, .int .i64 0, .int .i64 0, .int .i64 0, .int .i64 0] 67)))
          have q6 : ((wr.alloc (.cells #[.int .i64 rt, .int .i64 rk, .int .i64 rx, .int .i64 ry, .int .i64 rz] 67)).alloc (.cells #[.int .i64 0, .int .i64 0, .int .i64 0, .int .i64 0, .int .i64 0] 67)).cell? ⟨w.heap.size, 6, none⟩ = some (.int .i64 q.other) := RB.out.box.c6
          go_wp2_with (at_lookup; refine wpList_vlook _ rfl _ _ true rfl tyIRw (w.heap.size + 1) M rfl RA.out.map rk rfl hkey ?_; rw [HMG.out])
          go_roundw
          case rel => exact ⟨k + 1, by omega, by go_num, by rw [HT.out]; unfold Em.pstep; rw [if_neg (by simp [HTO.out])]; exact RB⟩
          case measure => simp [intOf]; omega
        | some r2 =>
          obtain ⟨t2, k2, x2, y2, z2⟩ := r2
          have HMG := Lib.hid hmg
          clear hmg
          have RB := Lib.hid (RA.out.fr0 ((Fr.refl [] (wr.alloc (.cells #[.int .i64 rt, .int .i64 rk, .int .i64 rx, .int .i64 ry, .int .i64 rz] 67))).alloc (.cells #[.int .i64 t2, .int .i64 k2, .int .i64 x2, .int .i64 y2, .int .i64 z2] 67)))
          have q6 : ((wr.alloc (.cells #[.int .i64 rt, .int .i64 rk, .int .i64 rx, .int .i64 ry, .int .i64 rz] 67)).alloc (.cells #[.int .i64 t2, .int .i64 k2, .int .i64 x2, .int .i64 y2, .int .i64 z2] 67)).cell? ⟨w.heap.size, 6, none⟩ = some (.int .i64 q.other) := RB.out.box.c6
          go_wp2_with (at_lookup; refine wpList_vlook _ rfl _ _ true rfl tyIRw (w.heap.size + 1) M rfl RA.out.map rk rfl hkey ?_; rw [HMG.out])
          go_roundw
          case rel => exact ⟨k + 1, by omega, by go_num, by rw [HT.out]; unfold Em.pstep; rw [if_neg (by simp [HTO.out])]; exact RB⟩
          case measure => simp [intOf]; omega
    · obtain rfl : k = m := by omega
      have RM : Hid (JoA w wr q (Em.pmap q.other others)) := Lib.hid (by
        have h := R.out
        rwa [HM.out, List.take_length] at h)
      clear R
      have HME := Lib.hid (measures_any q A n cap rows wr (HX.out.fr RM.out.fr (by simp)) HN.out hl)
      have q0 := RM.out.box.c0
      have q1 := RM.out.box.c1
      have q2 := RM.out.box.c2
      have q3 := RM.out.box.c3
      have q4 := RM.out.box.c4
      have q5 := RM.out.box.c5
      have q6 := RM.out.box.c6
      go_wp2_with (go_at_call 49; refine HME.out.mono ?_; rintro e w2 ⟨A2, c2, rfl, ho2, f2, -⟩; have HI := Lib.hid (IntRow.of_own ho2).1; have R2 := Lib.hid (RM.out.fr0 f2); clear ho2 f2)
      clear HME RM q0 q1 q2 q3 q4 q5 q6
      go_loopw [6, 48] (fun v i wr => ∃ (k : Nat) (A3 : Option Addr) (n3 c3 : Nat), k ≤ n ∧ i = .int .i64 k ∧ v = .slice A3 n3 c3 ∧ Hid (JoB w2 wr (.slice A3 n3 c3) (Em.joined q (rows.take k) others))) (fun _ i _ => n - (intOf i).toNat)
      case atStart => exact ⟨0, none, 0, 0, Nat.zero_le _, rfl, rfl, Lib.hid ⟨OwnL.nil, Fr.refl _ _, by simp [Value.ownBlock]⟩⟩
      case round =>
        obtain ⟨k2, A3, n3, c3, hk2, rfl, rfl, RB⟩ := hrel
        by_cases hlt2 : k2 < n
        · skip
          have hml : (Em.meas q rows).length = rows.length := by unfold Em.meas; rw [List.length_map]
          have hkx : k2 < rows.length := by rw [← HN.out]; exact hlt2
          have hki : k2 < (Em.meas q rows).length := by rw [hml]; exact hkx
          obtain ⟨b, off, rfl, hb, hc⟩ := (HX.out.fr (R2.out.fr.trans RB.out.fr) (by simp)) (by omega)
          obtain ⟨b2, off2, rfl, hb2, hi⟩ := (HI.out.fr0 RB.out.fr) (by omega)
          have ci := hi k2 hki
          have hmk : (Em.meas q rows)[k2] = rows[k2].value q.by_ := by simp [Em.meas]
          rw [hmk] at ci
          have c0 := hc k2 hkx 0 (by decide)
          have c1 := hc k2 hkx 1 (by decide)
          have c2 := hc k2 hkx 2 (by decide)
          have c3' := hc k2 hkx 3 (by decide)
          have c4 := hc k2 hkx 4 (by decide)
          have HT : Hid (Em.joined q (rows.take (k2 + 1)) others = Em.joined q (rows.take k2) others ++ Em.pair q others rows[k2]) := Lib.hid (by unfold Em.joined; rw [List.take_succ_eq_append_getElem hkx, List.flatMap_append]; simp)
          have hkey := HK1.out _ (List.getElem_mem hkx)
          have HJL : Hid ((Em.joined q (rows.take k2) others).length ≤ 2 * k2) := Lib.hid (by
            have h := Em.joined_len q others (rows.take k2)
            rw [List.length_take] at h
            omega)
          generalize rows[k2] = x at c0 c1 c2 c3' c4 HT hkey ci
          generalize Em.joined q (rows.take k2) others = J at RB HT HJL
          obtain ⟨rt, rk, rx, ry, rz⟩ := x
          have d0 : wr.cell? ⟨b, off + k2 * 5, none⟩ = some (.int .i64 rt) := c0
          have d1 : wr.cell? ⟨b, off + k2 * 5 + 1, none⟩ = some (.int .i64 rk) := c1
          have d2 : wr.cell? ⟨b, off + k2 * 5 + 2, none⟩ = some (.int .i64 rx) := c2
          have d3 : wr.cell? ⟨b, off + k2 * 5 + 3, none⟩ = some (.int .i64 ry) := c3'
          have d4 : wr.cell? ⟨b, off + k2 * 5 + 4, none⟩ = some (.int .i64 rz) := c4
          obtain ⟨y, HYY⟩ : ∃ y, Hid (RowV.value ⟨rt, rk, rx, ry, rz⟩ q.by_ = y) := ⟨_, Lib.hid rfl⟩
          rw [HYY.out] at hkey ci
          have RJ := Lib.hid (R2.out.fr0 RB.out.fr)
          have hpg := Em.pmap_get q.other y others
          have HBB := Lib.hid hb
          clear c0 c1 c2 c3' c4 hb hc hb2 hi hmk hki hml
          cases hmg : mget (Em.pmap q.other others) y with
          | none =>
            have HMG := Lib.hid hmg
            have HP : Hid (Em.pair q others ⟨rt, rk, rx, ry, rz⟩ = []) := Lib.hid (by unfold Em.pair; rw [HYY.out, ← hpg, hmg])
            clear hmg hpg
            have RN := Lib.hid (RB.out.fr0 ((Fr.refl [] wr).alloc (.cells #[.int .i64 0, .int .i64 0, .int .i64 0, .int .i64 0, .int .i64 0] 67)))
            go_wp2_with (at_lookup; refine wpList_vlook _ rfl _ _ true rfl tyIRw (w.heap.size + 1) _ rfl RJ.out.map y rfl hkey ?_; rw [HMG.out])
            go_roundw
            case rel => exact ⟨k2 + 1, A3, n3, c3, by omega, by go_num, rfl, by rw [HT.out, HP.out, List.append_nil]; exact RN⟩
            case measure => simp [intOf]; omega
          | some r2 =>
            obtain ⟨t2, k3, x2, y2, z2⟩ := r2
            have HMG := Lib.hid hmg
            have HP : Hid (Em.pair q others ⟨rt, rk, rx, ry, rz⟩ = [⟨rt, rk, rx, ry, rz⟩, ⟨t2, k3, x2, y2, z2⟩]) := Lib.hid (by unfold Em.pair; rw [HYY.out, ← hpg, hmg])
            clear hmg hpg
            have g0 : (wr.alloc (.cells #[.int .i64 t2, .int .i64 k3, .int .i64 x2, .int .i64 y2, .int .i64 z2] 67)).cell? ⟨b, off + k2 * 5, none⟩ = some (.int .i64 rt) := (World.cell?_alloc_lt _ _ _ HBB.out).trans d0
            have g1 : (wr.alloc (.cells #[.int .i64 t2, .int .i64 k3, .int .i64 x2, .int .i64 y2, .int .i64 z2] 67)).cell? ⟨b, off + k2 * 5 + 1, none⟩ = some (.int .i64 rk) := (World.cell?_alloc_lt _ _ _ HBB.out).trans d1
            have g2 : (wr.alloc (.cells #[.int .i64 t2, .int .i64 k3, .int .i64 x2, .int .i64 y2, .int .i64 z2] 67)).cell? ⟨b, off + k2 * 5 + 2, none⟩ = some (.int .i64 rx) := (World.cell?_alloc_lt _ _ _ HBB.out).trans d2
            have g3 : (wr.alloc (.cells #[.int .i64 t2, .int .i64 k3, .int .i64 x2, .int .i64 y2, .int .i64 z2] 67)).cell? ⟨b, off + k2 * 5 + 3, none⟩ = some (.int .i64 ry) := (World.cell?_alloc_lt _ _ _ HBB.out).trans d3
            have g4 : (wr.alloc (.cells #[.int .i64 t2, .int .i64 k3, .int .i64 x2, .int .i64 y2, .int .i64 z2] 67)).cell? ⟨b, off + k2 * 5 + 4, none⟩ = some (.int .i64 rz) := (World.cell?_alloc_lt _ _ _ HBB.out).trans d4
            have RN := Lib.hid ((RB.out.fr0 ((Fr.refl [] wr).alloc (.cells #[.int .i64 t2, .int .i64 k3, .int .i64 x2, .int .i64 y2, .int .i64 z2] 67))).fr0 ((Fr.refl [] (wr.alloc (.cells #[.int .i64 t2, .int .i64 k3, .int .i64 x2, .int .i64 y2, .int .i64 z2] 67))).alloc (.cells #[.int .i64 rt, .int .i64 rk, .int .i64 rx, .int .i64 ry, .int .i64 rz, .int .i64 t2, .int .i64 k3, .int .i64 x2, .int .i64 y2, .int .i64 z2] 67)).drew)
            have hbn := Blk.new (wr.alloc (.cells #[.int .i64 t2, .int .i64 k3, .int .i64 x2, .int .i64 y2, .int .i64 z2] 67)) 67 #[.int .i64 rt, .int .i64 rk, .int .i64 rx, .int .i64 ry, .int .i64 rz, .int .i64 t2, .int .i64 k3, .int .i64 x2, .int .i64 y2, .int .i64 z2]
            rw [World.size_alloc] at hbn
            have HRD := Lib.hid ((reads_of_rows (AtL.of_blk (L := [(⟨rt, rk, rx, ry, rz⟩ : RowV), ⟨t2, k3, x2, y2, z2⟩]) RowV.cells_len hbn rfl)).drew)
            clear hbn
            go_wp2_with (at_lookup; refine wpList_vlook _ rfl _ _ true rfl tyIRw (w.heap.size + 1) _ rfl RJ.out.map y rfl hkey ?_; rw [HMG.out])
            go_upto_region 14 with (fail)
            have hl1 : Hid (J.length + [(⟨rt, rk, rx, ry, rz⟩ : RowV), ⟨t2, k3, x2, y2, z2⟩].length ≤ 100000) := Lib.hid (by have := HJL.out; simp only [List.length_cons, List.length_nil]; omega)
            have hmx : Hid ((100000 : Nat) ≤ maxLen) := Lib.hid (by decide)
            go_region_law (refine step_appendL rfl _ _ rfl TR RowV.cells_len RowV.cells_one rfl RN.out.own _ _ _ _ [(⟨rt, rk, rx, ry, rz⟩ : RowV), ⟨t2, k3, x2, y2, z2⟩] rfl rfl HRD.out (Nat.le_trans hl1.out hmx.out) (Nat.le_trans (Nat.mul_le_mul_right 40 hl1.out) (by decide)) ?_; intro v5 w5 hown5 hg5 hat5; have R5 := Lib.hid (RN.out.grown hown5 hg5 hat5); obtain ⟨A5, n5, c5, hv5⟩ : ∃ A n c, v5 = .slice A n c := (match hown5.val with | ⟨_, _, hv⟩ => ⟨_, _, _, hv⟩); subst hv5; clear hown5 hg5 hat5)
            all_goals
              go_wp2_with fail
              go_roundw
              case rel => exact ⟨k2 + 1, A5, n5, c5, by omega, by go_num, rfl, by rw [HT.out, HP.out]; exact R5⟩
              case measure => simp [intOf]; omega
        · obtain rfl : k2 = n := by omega
          have ho : RowsOwn wr (.slice A3 n3 c3) (Em.joined q rows others) := by
            have h := RB.out.own
            rwa [HN.out, List.take_length] at h
          have HO := Lib.hid ho
          have hw2 := R2.out.fr.size
          clear ho
          go_wp2_with fail
          go_ret
          exact ⟨_, rfl, HO.out, R2.out.fr.trans RB.out.fr, fun g hg => Nat.le_trans hw2 (RB.out.new g hg)⟩
end Go.Proofs.YthiaaminkfkjpaaGreat
namespace Go.Proofs.YthiaaminkfkjpaaGreat.Gm

structure Rcv where
  pos : Int
  high : Int
  L : List (Int × Rec)

def mx (a b : Int) : Int := if a < b then b else a
def new (p : Int) : Rcv := ⟨p, p, []⟩
/-- Whether a record is taken up as valid and new. -/
def sees (c : Rcv) (r : Rec) : Bool := Rw.valid r && decide (c.pos < r.p)
/-- Whether it then waits. -/
def keeps (c : Rcv) (r : Rec) : Bool := (mget c.L r.p).isNone && decide (r.p - c.pos ≤ 256)
def kept (c : Rcv) (r : Rec) : Rcv := ⟨c.pos, c.high, if keeps c r = true then mput c.L r.p r else c.L⟩
def receive (c : Rcv) (r : Rec) : Rcv := if sees c r = true then kept ⟨c.pos, mx c.high r.p, c.L⟩ r else c
def took (c : Rcv) (r : Rec) : Bool := sees c r && keeps c r
def announce (c : Rcv) (p : Int) : Rcv := if p ≤ 10000 then { c with high := mx c.high p } else c
/-- What 'Take' hands out in at most n rounds, and what is left. -/
def take : Nat → Rcv → List Rec × Rcv
  | 0, c => ([], c)
  | n + 1, c => match mget c.L (c.pos + 1) with
    | none => ([], c)
    | some r => (r :: (take n ⟨r.p, c.high, mdel c.L r.p⟩).1, (take n ⟨r.p, c.high, mdel c.L r.p⟩).2)
/-- A span widened by a position, or a new one. -/
def widen (l : List (Int × Int)) (p : Int) : List (Int × Int) :=
  match l.getLast? with
  | some x => if x.2 = p - 1 then l.dropLast ++ [(x.1, p)] else l ++ [(p, p)]
  | none => [(p, p)]
/-- The missing spans among the next n positions behind p. -/
def missing (L : List (Int × Rec)) (p : Int) : Nat → List (Int × Int)
  | 0 => []
  | n + 1 => if (mget L (p + n + 1)).isSome = true then missing L p n else widen (missing L p n) (p + n + 1)

/-- What a receiver keeps to. -/
structure Ok (c : Rcv) : Prop where
  p0 : 0 ≤ c.pos
  ph : c.pos ≤ c.high
  hi : c.high ≤ 10000
  key : ∀ e ∈ c.L, e.1 = e.2.p ∧ c.pos < e.1 ∧ e.1 ≤ c.high ∧ e.1 - c.pos ≤ 256
  nd : Nd c.L
end Go.Proofs.YthiaaminkfkjpaaGreat.Gm

/-
  eval.From.
-/
import Derived.Test.YtciaallekkdnhaaGreatKa
import Derived.Deep.RegionLaw
import Derived.Deep.DeepCutAuto
import Derived.Deep.RegionHeld3
import Derived.IntWalk
namespace Go.Proofs.YtciaallekkdnhaaGreat
open Go.RowKit

/-- Between two rounds of the first loop. -/
structure JoA (w wr : World) (q : Qry) (M : List (Int × RowV)) : Prop where
  box : QAt wr w.heap.size q
  map : VMap Tryz.prog 3 (Lit.int .i64) RowV.val wr (w.heap.size + 1) M
  fr : Fr [] w wr
theorem JoA.fr0 {w wr w' : World} {q : Qry} {M : List (Int × RowV)} (h : JoA w wr q M) (hf : Fr [] wr w') : JoA w w' q M := ⟨h.box.fr hf (by simp), h.map.fr hf (by simp), h.fr.trans hf⟩
theorem JoA.turned {w wr w' : World} {q : Qry} {M M' : List (Int × RowV)} (h : JoA w wr q M) (hm : VMap Tryz.prog 3 (Lit.int .i64) RowV.val w' (w.heap.size + 1) M') (ht : wr.mapTurned w' (w.heap.size + 1)) : JoA w w' q M' := by
  have hf : Fr [w.heap.size + 1] wr w' := turned_fr ht (by simp)
  exact ⟨h.box.fr hf (by simp), hm, h.fr.trans' hf (fun x hx => .inr (by simp only [List.mem_singleton] at hx; omega))⟩
theorem Em.joined_len (q : Qry) (others : List RowV) : ∀ rows : List RowV, (Em.joined q rows others).length ≤ 2 * rows.length
  | [] => by simp [Em.joined]
  | r :: l => by
    have h := Em.joined_len q others l
    unfold Em.joined at *
    rw [List.flatMap_cons, List.length_append, List.length_cons]
    have : (Em.pair q others r).length ≤ 2 := by unfold Em.pair; split <;> simp
    omega
/-- Between two rounds of the second one. -/
structure JoB (w2 wr : World) (v : Value) (l : List RowV) : Prop where
  own : RowsOwn wr v l
  fr : Fr [] w2 wr
  new : ∀ g, v.ownBlock = some g → w2.heap.size ≤ g
theorem JoB.fr0 {w2 wr w' : World} {v : Value} {l : List RowV} (h : JoB w2 wr v l) (hf : Fr [] wr w') : JoB w2 w' v l := ⟨h.own.fr hf (by simp), h.fr.trans hf, h.new⟩
theorem JoB.grown {w2 wr w' : World} {v v' : Value} {l l' : List RowV} (h : JoB w2 wr v l) (ho : RowsOwn w' v' l') (hg : wr.grownBy w' v.ownBlock) (hat : v'.ownBlock = v.ownBlock ∨ v'.ownBlock = some wr.heap.size) : JoB w2 w' v' l' := by
  refine ⟨ho, h.fr.grown hg (fun g e => .inr (h.new g e)), fun g hgg => ?_⟩
  rcases hat with e | e
  · exact h.new g (e ▸ hgg)
  · rw [hgg] at e
    injection e with e
    have := h.fr.size
    omega
set_option maxRecDepth 100000 in
set_option maxHeartbeats 4000000 in
theorem joined_any (q : Qry) (A : Option Addr) (n cap : Nat) (rows : List RowV) (B : Option Addr) (m capB : Nat) (others : List RowV) (w : World) (hx : RowsAt w A rows) (hn : n = rows.length) (hl : n ≤ 4000) (hy : RowsAt w B others) (hm : m = others.length) (hlm : m ≤ 4000)
    (hk1 : ∀ r ∈ rows, okI (r.value q.by_)) (hk2 : ∀ r ∈ others, okI r.k) :
    Calls Tryz.prog 102 #[q.val, .slice A n cap, .slice B m capB] w fun e w' => ∃ v, e = .returned v ∧ RowsOwn w' v (Em.joined q rows others) ∧ Fr [] w w' ∧ ∀ g, v.ownBlock = some g → w.heap.size ≤ g := by
  have HX := Lib.hid hx
  have HN := Lib.hid hn
  have HY := Lib.hid hy
  have HM := Lib.hid hm
  have HK1 := Lib.hid hk1
  have HK2 := Lib.hid hk2
  clear hx hn hy hm hk1 hk2
  have hmm := @run_makeMap Tryz.prog
  have R0 : Hid (JoA w ((w.alloc (.cells #[.int .i64 q.kind, .int .i64 q.table, .int .i64 q.column, .int .i64 q.low, .int .i64 q.high, .int .i64 q.by_, .int .i64 q.other] 35)).alloc (.map #[] 0)) q []) := Lib.hid (by
    refine ⟨(QAt.new w q).fr ((Fr.refl [] _).alloc _) (by simp), ?_, ((Fr.refl _ _).alloc _).alloc _⟩
    have h := VMap.made (P := Tryz.prog) (k := 3) (Lit.int .i64) RowV.val (w.alloc (.cells #[.int .i64 q.kind, .int .i64 q.table, .int .i64 q.column, .int .i64 q.low, .int .i64 q.high, .int .i64 q.by_, .int .i64 q.other] 35))
    rw [World.size_alloc] at h
    exact h)
  obtain ⟨i0, TR⟩ := etRow
  unfold Qry.val
  go_enter Tryz.func102, Tryz.ntmps102
  go_wp2_with fail
  go_loopw [19] (fun i wr => ∃ k : Nat, k ≤ m ∧ i = .int .i64 k ∧ Hid (JoA w wr q (Em.pmap q.other (others.take k)))) (fun i _ => m - (intOf i).toNat)
  case atStart => exact ⟨0, Nat.zero_le _, rfl, R0⟩
  case round =>
    clear R0 hmm
    obtain ⟨k, hk, rfl, R⟩ := hrel
    by_cases hlt : k < m
    · obtain ⟨b, off, rfl, hb, hc⟩ := (HY.out.fr R.out.fr (by simp)) (by rw [← HM.out]; omega)
      have hkx : k < others.length := by rw [← HM.out]; exact hlt
      have c0 := hc k hkx 0 (by decide)
      have c1 := hc k hkx 1 (by decide)
      have c2 := hc k hkx 2 (by decide)
      have c3 := hc k hkx 3 (by decide)
      have c4 := hc k hkx 4 (by decide)
      have HT := Lib.hid (Em.pmap_take q.other others hkx)
      have hkey := HK2.out _ (List.getElem_mem hkx)
      have hlen := Em.pmap_len q.other (others.take k)
      have HLEN : Hid ((Em.pmap q.other (others.take k)).length < maxLen) := Lib.hid (by rw [List.length_take] at hlen; simp only [maxLen]; omega)
      clear hlen
      generalize others[k] = x at c0 c1 c2 c3 c4 HT hkey
      generalize Em.pmap q.other (others.take k) = M at R HT HLEN
      obtain ⟨rt, rk, rx, ry, rz⟩ := x
      have d0 : wr.cell? ⟨b, off + k * 5, none⟩ = some (.int .i64 rt) := c0
      have d1 : wr.cell? ⟨b, off + k * 5 + 1, none⟩ = some (.int .i64 rk) := c1
      have d2 : wr.cell? ⟨b, off + k * 5 + 2, none⟩ = some (.int .i64 rx) := c2
      have d3 : wr.cell? ⟨b, off + k * 5 + 3, none⟩ = some (.int .i64 ry) := c3
      have d4 : wr.cell? ⟨b, off + k * 5 + 4, none⟩ = some (.int .i64 rz) := c4
      clear c0 c1 c2 c3 c4 hb hc
      have RA := Lib.hid (R.out.fr0 ((Fr.refl [] wr).alloc (.cells #[.int .i64 rt, .int .i64 rk, .int .i64 rx, .int .i64 ry, .int .i64 rz] 116)))
      by_cases hto : rt = q.other
      · have HTO := Lib.hid hto
        have et : (rt == q.other) = true := by simp [hto]
        clear hto
        cases hmg : mget M rk with
        | none =>
          have HMG := Lib.hid hmg
          clear hmg
          have RB := Lib.hid (RA.out.fr0 ((Fr.refl [] (wr.alloc (.cells #[.int .i64 rt, .int .i64 rk, .int .i64 rx, .int .i64 ry, .int .i64 rz] 116))).alloc (.cells #[.int .i64 0, .int .i64 0, .int .i64 0, .int .i64 0, .int .i64 0] 116)))
          have q6 : ((wr.alloc (.cells #[.int .i64 rt, .int .i64 rk, .int .i64 rx, .int .i64 ry, .int .i64 rz] 116)).alloc (.cells #[.int .i64 0, .int .i64 0, .int .i64 0, .int .i64 0, .int .i64 0] 116)).cell? ⟨w.heap.size, 6, none⟩ = some (.int .i64 q.other) := RB.out.box.c6
          go_wp2_with (first | (at_lookup; refine wpList_vlook _ rfl _ _ true rfl tyIRw (w.heap.size + 1) M rfl RA.out.map rk rfl hkey ?_; rw [HMG.out]) | (at_mapUpdate; refine wpList_vstore _ rfl _ _ _ rfl tyIRw (w.heap.size + 1) M rfl RB.out.map rk ⟨rt, rk, rx, ry, rz⟩ rfl rfl hkey HLEN.out ?_; intro w6 hm6 ht6; have R6 := Lib.hid (RB.out.turned hm6 ht6); clear hm6 ht6))
          go_roundw
          case rel => exact ⟨k + 1, by omega, by go_num, by rw [HT.out]; unfold Em.pstep; rw [if_pos ⟨HTO.out, HMG.out⟩]; exact R6⟩
          case measure => simp [intOf]; omega
        | some r2 =>
          obtain ⟨t2, k2, x2, y2, z2⟩ := r2
          have HMG := Lib.hid hmg
          clear hmg
          have RB := Lib.hid (RA.out.fr0 ((Fr.refl [] (wr.alloc (.cells #[.int .i64 rt, .int .i64 rk, .int .i64 rx, .int .i64 ry, .int .i64 rz] 116))).alloc (.cells #[.int .i64 t2, .int .i64 k2, .int .i64 x2, .int .i64 y2, .int .i64 z2] 116)))
          have q6 : ((wr.alloc (.cells #[.int .i64 rt, .int .i64 rk, .int .i64 rx, .int .i64 ry, .int .i64 rz] 116)).alloc (.cells #[.int .i64 t2, .int .i64 k2, .int .i64 x2, .int .i64 y2, .int .i64 z2] 116)).cell? ⟨w.heap.size, 6, none⟩ = some (.int .i64 q.other) := RB.out.box.c6
          go_wp2_with (at_lookup; refine wpList_vlook _ rfl _ _ true rfl tyIRw (w.heap.size + 1) M rfl RA.out.map rk rfl hkey ?_; rw [HMG.out])
          go_roundw
          case rel => exact ⟨k + 1, by omega, by go_num, by rw [HT.out]; unfold Em.pstep; rw [if_neg (by simp [HMG.out])]; exact RB⟩
          case measure => simp [intOf]; omega
      · have HTO := Lib.hid hto
        have et : (rt == q.other) = false := by simp [hto]
        clear hto
        cases hmg : mget M rk with
        | none =>
          have HMG := Lib.hid hmg
          clear hmg
          have RB := Lib.hid (RA.out.fr0 ((Fr.refl [] (wr.alloc (.cells #[.int .i64 rt, .int .i64 rk, .int .i64 rx, .int .i64 ry, .int .i64 rz] 116))).alloc (.cells #[.int .i64 0, .int .i64 0, .int .i64 0, .int .i64 0, .int .i64 0] 116)))
          have q6 : ((wr.alloc (.cells #[.int .i64 rt, .int .i64 rk, .int .i64 rx, .int .i64 ry, .int .i64 rz] 116)).alloc (.cells #[.int .i64 0, .int .i64 0, .int .i64 0, .int .i64 0, .int .i64 0] 116)).cell? ⟨w.heap.size, 6, none⟩ = some (.int .i64 q.other) := RB.out.box.c6
          go_wp2_with (at_lookup; refine wpList_vlook _ rfl _ _ true rfl tyIRw (w.heap.size + 1) M rfl RA.out.map rk rfl hkey ?_; rw [HMG.out])
          go_roundw
          case rel => exact ⟨k + 1, by omega, by go_num, by rw [HT.out]; unfold Em.pstep; rw [if_neg (by simp [HTO.out])]; exact RB⟩
          case measure => simp [intOf]; omega
        | some r2 =>
          obtain ⟨t2, k2, x2, y2, z2⟩ := r2
          have HMG := Lib.hid hmg
          clear hmg
          have RB := Lib.hid (RA.out.fr0 ((Fr.refl [] (wr.alloc (.cells #[.int .i64 rt, .int .i64 rk, .int .i64 rx, .int .i64 ry, .int .i64 rz] 116))).alloc (.cells #[.int .i64 t2, .int .i64 k2, .int .i64 x2, .int .i64 y2, .int .i64 z2] 116)))
          have q6 : ((wr.alloc (.cells #[.int .i64 rt, .int .i64 rk, .int .i64 rx, .int .i64 ry, .int .i64 rz] 116)).alloc (.cells #[.int .i64 t2, .int .i64 k2, .int .i64 x2, .int .i64 y2, .int .i64 z2] 116)).cell? ⟨w.heap.size, 6, none⟩ = some (.int .i64 q.other) := RB.out.box.c6
          go_wp2_with (at_lookup; refine wpList_vlook _ rfl _ _ true rfl tyIRw (w.heap.size + 1) M rfl RA.out.map rk rfl hkey ?_; rw [HMG.out])
          go_roundw
          case rel => exact ⟨k + 1, by omega, by go_num, by rw [HT.out]; unfold Em.pstep; rw [if_neg (by simp [HTO.out])]; exact RB⟩
          case measure => simp [intOf]; omega
    · obtain rfl : k = m := by omega
      have RM : Hid (JoA w wr q (Em.pmap q.other others)) := Lib.hid (by
        have h := R.out
        rwa [HM.out, List.take_length] at h)
      clear R
      have HME := Lib.hid (measures_any q A n cap rows wr (HX.out.fr RM.out.fr (by simp)) HN.out hl)
      have q0 := RM.out.box.c0
      have q1 := RM.out.box.c1
      have q2 := RM.out.box.c2
      have q3 := RM.out.box.c3
      have q4 := RM.out.box.c4
      have q5 := RM.out.box.c5
      have q6 := RM.out.box.c6
      go_wp2_with (go_at_call 97; refine HME.out.mono ?_; rintro e w2 ⟨A2, c2, rfl, ho2, f2, -⟩; have HI := Lib.hid (IntRow.of_own ho2).1; have R2 := Lib.hid (RM.out.fr0 f2); clear ho2 f2)
      clear HME RM q0 q1 q2 q3 q4 q5 q6
      go_loopw [6, 48] (fun v i wr => ∃ (k : Nat) (A3 : Option Addr) (n3 c3 : Nat), k ≤ n ∧ i = .int .i64 k ∧ v = .slice A3 n3 c3 ∧ Hid (JoB w2 wr (.slice A3 n3 c3) (Em.joined q (rows.take k) others))) (fun _ i _ => n - (intOf i).toNat)
      case atStart => exact ⟨0, none, 0, 0, Nat.zero_le _, rfl, rfl, Lib.hid ⟨OwnL.nil, Fr.refl _ _, by simp [Value.ownBlock]⟩⟩
      case round =>
        obtain ⟨k2, A3, n3, c3, hk2, rfl, rfl, RB⟩ := hrel
        by_cases hlt2 : k2 < n
        · skip
          have hml : (Em.meas q rows).length = rows.length := by unfold Em.meas; rw [List.length_map]
          have hkx : k2 < rows.length := by rw [← HN.out]; exact hlt2
          have hki : k2 < (Em.meas q rows).length := by rw [hml]; exact hkx
          obtain ⟨b, off, rfl, hb, hc⟩ := (HX.out.fr (R2.out.fr.trans RB.out.fr) (by simp)) (by omega)
          obtain ⟨b2, off2, rfl, hb2, hi⟩ := (HI.out.fr0 RB.out.fr) (by omega)
          have ci := hi k2 hki
          have hmk : (Em.meas q rows)[k2] = rows[k2].value q.by_ := by simp [Em.meas]
          rw [hmk] at ci
          have c0 := hc k2 hkx 0 (by decide)
          have c1 := hc k2 hkx 1 (by decide)
          have c2 := hc k2 hkx 2 (by decide)
          have c3' := hc k2 hkx 3 (by decide)
          have c4 := hc k2 hkx 4 (by decide)
          have HT : Hid (Em.joined q (rows.take (k2 + 1)) others = Em.joined q (rows.take k2) others ++ Em.pair q others rows[k2]) := Lib.hid (by unfold Em.joined; rw [List.take_succ_eq_append_getElem hkx, List.flatMap_append]; simp)
          have hkey := HK1.out _ (List.getElem_mem hkx)
          have HJL : Hid ((Em.joined q (rows.take k2) others).length ≤ 2 * k2) := Lib.hid (by
            have h := Em.joined_len q others (rows.take k2)
            rw [List.length_take] at h
            omega)
          generalize rows[k2] = x at c0 c1 c2 c3' c4 HT hkey ci
          generalize Em.joined q (rows.take k2) others = J at RB HT HJL
          obtain ⟨rt, rk, rx, ry, rz⟩ := x
          have d0 : wr.cell? ⟨b, off + k2 * 5, none⟩ = some (.int .i64 rt) := c0
          have d1 : wr.cell? ⟨b, off + k2 * 5 + 1, none⟩ = some (.int .i64 rk) := c1
          have d2 : wr.cell? ⟨b, off + k2 * 5 + 2, none⟩ = some (.int .i64 rx) := c2
          have d3 : wr.cell? ⟨b, off + k2 * 5 + 3, none⟩ = some (.int .i64 ry) := c3'
          have d4 : wr.cell? ⟨b, off + k2 * 5 + 4, none⟩ = some (.int .i64 rz) := c4
          obtain ⟨y, HYY⟩ : ∃ y, Hid (RowV.value ⟨rt, rk, rx, ry, rz⟩ q.by_ = y) := ⟨_, Lib.hid rfl⟩
          rw [HYY.out] at hkey ci
          have RJ := Lib.hid (R2.out.fr0 RB.out.fr)
          have hpg := Em.pmap_get q.other y others
          have HBB := Lib.hid hb
          clear c0 c1 c2 c3' c4 hb hc hb2 hi hmk hki hml
          cases hmg : mget (Em.pmap q.other others) y with
          | none =>
            have HMG := Lib.hid hmg
            have HP : Hid (Em.pair q others ⟨rt, rk, rx, ry, rz⟩ = []) := Lib.hid (by unfold Em.pair; rw [HYY.out, ← hpg, hmg])
            clear hmg hpg
            have RN := Lib.hid (RB.out.fr0 ((Fr.refl [] wr).alloc (.cells #[.int .i64 0, .int .i64 0, .int .i64 0, .int .i64 0, .int .i64 0] 116)))
            go_wp2_with (at_lookup; refine wpList_vlook _ rfl _ _ true rfl tyIRw (w.heap.size + 1) _ rfl RJ.out.map y rfl hkey ?_; rw [HMG.out])
            go_roundw
            case rel => exact ⟨k2 + 1, A3, n3, c3, by omega, by go_num, rfl, by rw [HT.out, HP.out, List.append_nil]; exact RN⟩
            case measure => simp [intOf]; omega
          | some r2 =>
            obtain ⟨t2, k3, x2, y2, z2⟩ := r2
            have HMG := Lib.hid hmg
            have HP : Hid (Em.pair q others ⟨rt, rk, rx, ry, rz⟩ = [⟨rt, rk, rx, ry, rz⟩, ⟨t2, k3, x2, y2, z2⟩]) := Lib.hid (by unfold Em.pair; rw [HYY.out, ← hpg, hmg])
            clear hmg hpg
            have g0 : (wr.alloc (.cells #[.int .i64 t2, .int .i64 k3, .int .i64 x2, .int .i64 y2, .int .i64 z2] 116)).cell? ⟨b, off + k2 * 5, none⟩ = some (.int .i64 rt) := (World.cell?_alloc_lt _ _ _ HBB.out).trans d0
            have g1 : (wr.alloc (.cells #[.int .i64 t2, .int .i64 k3, .int .i64 x2, .int .i64 y2, .int .i64 z2] 116)).cell? ⟨b, off + k2 * 5 + 1, none⟩ = some (.int .i64 rk) := (World.cell?_alloc_lt _ _ _ HBB.out).trans d1
            have g2 : (wr.alloc (.cells #[.int .i64 t2, .int .i64 k3, .int .i64 x2, .int .i64 y2, .int .i64 z2] 116)).cell? ⟨b, off + k2 * 5 + 2, none⟩ = some (.int .i64 rx) := (World.cell?_alloc_lt _ _ _ HBB.out).trans d2
            have g3 : (wr.alloc (.cells #[.int .i64 t2, .int .i64 k3, .int .i64 x2, .int .i64 y2, .int .i64 z2] 116)).cell? ⟨b, off + k2 * 5 + 3, none⟩ = some (.int .i64 ry) := (World.cell?_alloc_lt _ _ _ HBB.out).trans d3
            have g4 : (wr.alloc (.cells #[.int .i64 t2, .int .i64 k3, .int .i64 x2, .int .i64 y2, .int .i64 z2] 116)).cell? ⟨b, off + k2 * 5 + 4, none⟩ = some (.int .i64 rz) := (World.cell?_alloc_lt _ _ _ HBB.out).trans d4
            have RN := Lib.hid ((RB.out.fr0 ((Fr.refl [] wr).alloc (.cells #[.int .i64 t2, .int .i64 k3, .int .i64 x2, .int .i64 y2, .int .i64 z2] 116))).fr0 ((Fr.refl [] (wr.alloc (.cells #[.int .i64 t2, .int .i64 k3, .int .i64 x2, .int .i64 y2, .int .i64 z2] 116))).alloc (.cells #[.int .i64 rt, .int .i64 rk, .int .i64 rx, .int .i64 ry, .int .i64 rz, .int .i64 t2, .int .i64 k3, .int .i64 x2, .int .i64 y2, .int .i64 z2] 116)).drew)
            have hbn := Blk.new (wr.alloc (.cells #[.int .i64 t2, .int .i64 k3, .int .i64 x2, .int .i64 y2, .int .i64 z2] 116)) 116 #[.int .i64 rt, .int .i64 rk, .int .i64 rx, .int .i64 ry, .int .i64 rz, .int .i64 t2, .int .i64 k3, .int .i64 x2, .int .i64 y2, .int .i64 z2]
            rw [World.size_alloc] at hbn
            have HRD := Lib.hid ((reads_of_rows (AtL.of_blk (L := [(⟨rt, rk, rx, ry, rz⟩ : RowV), ⟨t2, k3, x2, y2, z2⟩]) RowV.cells_len hbn rfl)).drew)
            clear hbn
            go_wp2_with (at_lookup; refine wpList_vlook _ rfl _ _ true rfl tyIRw (w.heap.size + 1) _ rfl RJ.out.map y rfl hkey ?_; rw [HMG.out])
            go_upto_region 14 with (fail)
            have hl1 : Hid (J.length + [(⟨rt, rk, rx, ry, rz⟩ : RowV), ⟨t2, k3, x2, y2, z2⟩].length ≤ 100000) := Lib.hid (by have := HJL.out; simp only [List.length_cons, List.length_nil]; omega)
            have hmx : Hid ((100000 : Nat) ≤ maxLen) := Lib.hid (by decide)
            go_region_law (refine step_appendL rfl _ _ rfl TR RowV.cells_len RowV.cells_one rfl RN.out.own _ _ _ _ [(⟨rt, rk, rx, ry, rz⟩ : RowV), ⟨t2, k3, x2, y2, z2⟩] rfl rfl HRD.out (Nat.le_trans hl1.out hmx.out) (Nat.le_trans (Nat.mul_le_mul_right 40 hl1.out) (by decide)) ?_; intro v5 w5 hown5 hg5 hat5; have R5 := Lib.hid (RN.out.grown hown5 hg5 hat5); obtain ⟨A5, n5, c5, hv5⟩ : ∃ A n c, v5 = .slice A n c := (match hown5.val with | ⟨_, _, hv⟩ => ⟨_, _, _, hv⟩); subst hv5; clear hown5 hg5 hat5)
            all_goals
              go_wp2_with fail
              go_roundw
              case rel => exact ⟨k2 + 1, A5, n5, c5, by omega, by go_num, rfl, by rw [HT.out, HP.out]; exact R5⟩
              case measure => simp [intOf]; omega
        · obtain rfl : k2 = n := by omega
          have ho : RowsOwn wr (.slice A3 n3 c3) (Em.joined q rows others) := by
            have h := RB.out.own
            rwa [HN.out, List.take_length] at h
          have HO := Lib.hid ho
          have hw2 := R2.out.fr.size
          clear ho
          go_wp2_with fail
          go_ret
          exact ⟨_, rfl, HO.out, R2.out.fr.trans RB.out.fr, fun g hg => Nat.le_trans hw2 (RB.out.new g hg)⟩
end Go.Proofs.YtciaallekkdnhaaGreat
namespace Go.Proofs.YtciaallekkdnhaaGreat
open Go.RowKit

def cntG (m : Int) (f : Bool) (_ : RowV) : Int × Bool := (wrap64 (m + 1), f)
def sumG (m : Int) (f : Bool) (x : Int) : Int × Bool := (wrap64 (m + x), f)
def exG (L : Int → Int → Bool) (m : Int) (f : Bool) (x : Int) : Int × Bool := (if f = false ∨ L x m = true then x else m, true)
def ltI (a b : Int) : Bool := decide (a < b)
def gtI (a b : Int) : Bool := decide (b < a)
namespace Em
theorem fold_count : ∀ (l : List RowV) (m : Int) (f : Bool) (r : List RowV), 0 ≤ m → m + l.length ≤ 1000000 → l.foldl count ⟨r, m, f⟩ = ⟨r, (foldS cntG l (m, f)).1, (foldS cntG l (m, f)).2⟩
  | [], m, f, r, _, _ => rfl
  | x :: l, m, f, r, h0, h1 => by
    rw [List.length_cons] at h1
    have hw : wrap64 (m + 1) = m + 1 := IntWalk.wrap64_in _ ⟨by omega, by omega⟩
    have ih := fold_count l (m + 1) f r (by omega) (by omega)
    unfold foldS at *
    rw [List.foldl_cons, List.foldl_cons]
    unfold cntG at *
    rw [hw]
    exact ih
theorem fold_plus : ∀ (l : List Int) (m : Int) (f : Bool) (r : List RowV) (B : Int), (∀ x ∈ l, -1000000000000 ≤ x ∧ x ≤ 1000000000000) → -B ≤ m → m ≤ B → B + 1000000000000 * l.length ≤ 9000000000000000000 →
    l.foldl plus ⟨r, m, f⟩ = ⟨r, (foldS sumG l (m, f)).1, (foldS sumG l (m, f)).2⟩
  | [], m, f, r, B, _, _, _, _ => rfl
  | x :: l, m, f, r, B, hx, h0, h1, hB => by
    rw [List.length_cons] at hB
    have hb := hx x (by simp)
    have hw : wrap64 (m + x) = m + x := IntWalk.wrap64_in _ ⟨by omega, by omega⟩
    have ih := fold_plus l (m + x) f r (B + 1000000000000) (fun y hy => hx y (by simp [hy])) (by omega) (by omega) (by omega)
    unfold foldS at *
    rw [List.foldl_cons, List.foldl_cons]
    unfold sumG at *
    rw [hw]
    exact ih
theorem fold_least : ∀ (l : List Int) (m : Int) (f : Bool) (r : List RowV), l.foldl least ⟨r, m, f⟩ = ⟨r, (foldS (exG ltI) l (m, f)).1, (foldS (exG ltI) l (m, f)).2⟩
  | [], m, f, r => rfl
  | x :: l, m, f, r => by
    have ih := fold_least l (if f = false ∨ x < m then x else m) true r
    unfold foldS at *
    rw [List.foldl_cons, List.foldl_cons]
    unfold exG ltI at *
    simp only [decide_eq_true_eq] at *
    exact ih
theorem fold_most : ∀ (l : List Int) (m : Int) (f : Bool) (r : List RowV), l.foldl most ⟨r, m, f⟩ = ⟨r, (foldS (exG gtI) l (m, f)).1, (foldS (exG gtI) l (m, f)).2⟩
  | [], m, f, r => rfl
  | x :: l, m, f, r => by
    have ih := fold_most l (if f = false ∨ m < x then x else m) true r
    unfold foldS at *
    rw [List.foldl_cons, List.foldl_cons]
    unfold exG gtI at *
    simp only [decide_eq_true_eq] at *
    exact ih
theorem res_bad {q : Qry} {rows others : List RowV} (hv : valid q = false) : res q rows others = ⟨[], 0, false⟩ := by
  unfold res
  rw [if_neg (by simp [hv])]
  rfl
theorem res_count {q : Qry} {rows others : List RowV} (hv : valid q = true) (hk : q.kind = 3) (hl : rows.length ≤ 4000) : res q rows others = ⟨[], (foldS cntG rows (0, false)).1, (foldS cntG rows (0, false)).2⟩ := by
  unfold res
  rw [if_pos hv, if_pos hk]
  exact fold_count rows 0 false [] (by omega) (by omega)
theorem res_sum {q : Qry} {rows others : List RowV} (hv : valid q = true) (hk : q.kind = 4) (hl : rows.length ≤ 4000) (hb : ∀ r ∈ rows, -1000000000000 ≤ r.value q.by_ ∧ r.value q.by_ ≤ 1000000000000) :
    res q rows others = ⟨[], (foldS sumG (meas q rows) (0, false)).1, (foldS sumG (meas q rows) (0, false)).2⟩ := by
  unfold res
  rw [if_pos hv, if_neg (by omega), if_pos hk]
  exact fold_plus (meas q rows) 0 false [] 0 (fun x hx => by
    unfold meas at hx
    obtain ⟨r, hr, rfl⟩ := List.mem_map.1 hx
    exact hb r hr) (by omega) (by omega) (by unfold meas; rw [List.length_map]; omega)
theorem res_min {q : Qry} {rows others : List RowV} (hv : valid q = true) (hk : q.kind = 5) : res q rows others = ⟨[], (foldS (exG ltI) (meas q rows) (0, false)).1, (foldS (exG ltI) (meas q rows) (0, false)).2⟩ := by
  unfold res
  rw [if_pos hv, if_neg (by omega), if_neg (by omega), if_pos hk]
  exact fold_least _ 0 false []
theorem res_max {q : Qry} {rows others : List RowV} (hv : valid q = true) (hk : q.kind = 6) : res q rows others = ⟨[], (foldS (exG gtI) (meas q rows) (0, false)).1, (foldS (exG gtI) (meas q rows) (0, false)).2⟩ := by
  unfold res
  rw [if_pos hv, if_neg (by omega), if_neg (by omega), if_neg (by omega), if_pos hk]
  exact fold_most _ 0 false []
theorem res_join {q : Qry} {rows others : List RowV} (hv : valid q = true) (hk : q.kind = 7) : res q rows others = ⟨joined q rows others, 0, false⟩ := by
  unfold res
  rw [if_pos hv, if_neg (by omega), if_neg (by omega), if_neg (by omega), if_neg (by omega), if_pos hk]
theorem res_rows {q : Qry} {rows others : List RowV} (hv : valid q = true) (h3 : q.kind ≠ 3) (h4 : q.kind ≠ 4) (h5 : q.kind ≠ 5) (h6 : q.kind ≠ 6) (h7 : q.kind ≠ 7) : res q rows others = ⟨rows, 0, false⟩ := by
  unfold res
  rw [if_pos hv, if_neg h3, if_neg h4, if_neg h5, if_neg h6, if_neg h7]
end Em
/-- A result handed out: its rows lie in memory of their own, made behind w. -/
structure ResO (w w' : World) (v : Value) (l : List RowV) : Prop where
  own : RowsOwn w' v l
  fr : Fr [] w w'
  new : ∀ g, v.ownBlock = some g → w.heap.size ≤ g
/-- What stands between the parts of From. -/
structure FrRel (w w3 : World) (q : Qry) : Prop where
  box : QAt w3 w.heap.size q
  res : RsAt w3 (w.heap.size + 1) (.slice none 0 0) 0 false
  fr : Fr [] w w3
theorem FrRel.fr0 {w w3 w' : World} {q : Qry} (h : FrRel w w3 q) (hf : Fr [] w3 w') : FrRel w w' q := ⟨h.box.fr hf (by simp), h.res.fr hf (by simp), h.fr.trans hf⟩
theorem FrRel.new (w : World) (q : Qry) : FrRel w ((w.alloc (.cells #[.int .i64 q.kind, .int .i64 q.table, .int .i64 q.column, .int .i64 q.low, .int .i64 q.high, .int .i64 q.by_, .int .i64 q.other] 35)).alloc (.cells #[.slice none 0 0, .int .i64 0, .bool false] 71)) q := by
  refine ⟨(QAt.new w q).fr ((Fr.refl [] _).alloc _) (by simp), ?_, ((Fr.refl _ _).alloc _).alloc _⟩
  have h := RsAt.new (w.alloc (.cells #[.int .i64 q.kind, .int .i64 q.table, .int .i64 q.column, .int .i64 q.low, .int .i64 q.high, .int .i64 q.by_, .int .i64 q.other] 35)) (.slice none 0 0) 0 false
  rw [World.size_alloc] at h
  exact h
theorem FrRel.fin {w w3 : World} {q : Qry} (h : FrRel w w3 q) (v : Value) (n : Int) (f : Bool) :
    ∃ w4, ((w3.setCell ⟨w.heap.size + 1, 0, none⟩ v).setCell ⟨w.heap.size + 1, 1, none⟩ (.int .i64 n)).setCell ⟨w.heap.size + 1, 2, none⟩ (.bool f) = w4 ∧ w4.cell? ⟨w.heap.size + 1, 0, none⟩ = some v ∧ w4.cell? ⟨w.heap.size + 1, 1, none⟩ = some (.int .i64 n) ∧ w4.cell? ⟨w.heap.size + 1, 2, none⟩ = some (.bool f) ∧ Fr [] w w4 ∧ Fr [w.heap.size + 1] w3 w4 := by
  obtain ⟨w4, e4, h4, f4⟩ := h.res.fill v n f
  exact ⟨w4, e4, h4.c0, h4.c1, h4.c2, h.fr.trans' f4 (by simp), f4⟩

set_option maxRecDepth 100000 in
set_option maxHeartbeats 4000000 in
theorem efrom_any (q : Qry) (A : Option Addr) (n cap : Nat) (rows : List RowV) (B : Option Addr) (m capB : Nat) (others : List RowV) (w : World) (hx : RowsAt w A rows) (hn : n = rows.length) (hl : n ≤ 4000) (hy : RowsAt w B others) (hm : m = others.length) (hlm : m ≤ 4000)
    (hk1 : Em.valid q = true → ∀ r ∈ rows, okI (r.value q.by_)) (hk2 : ∀ r ∈ others, okI r.k) (hsum : Em.valid q = true → q.kind = 4 → ∀ r ∈ rows, -1000000000000 ≤ r.value q.by_ ∧ r.value q.by_ ≤ 1000000000000) :
    Calls Tryz.prog 51 #[q.val, .slice A n cap, .slice B m capB] w fun e w' => ∃ v, e = .returned (.agg #[v, .int .i64 (Em.res q rows others).value, .bool (Em.res q rows others).found]) ∧ ResO w w' v (Em.res q rows others).rows := by
  have HX := Lib.hid hx
  have HN := Lib.hid hn
  have HY := Lib.hid hy
  have HM := Lib.hid hm
  have HK1 := Lib.hid hk1
  have HK2 := Lib.hid hk2
  have HSUM := Lib.hid hsum
  clear hx hn hy hm hk1 hk2 hsum
  have R0 := Lib.hid (FrRel.new w q)
  obtain ⟨k, t, c, lo, hi, b, o⟩ := q
  unfold Qry.val
  dsimp only at *
  go_enter Tryz.func51, Tryz.ntmps51
  go_upto_region 1 with (fail)
  generalize (w.alloc (.cells #[.int .i64 k, .int .i64 t, .int .i64 c, .int .i64 lo, .int .i64 hi, .int .i64 b, .int .i64 o] 35)).alloc (.cells #[.slice none 0 0, .int .i64 0, .bool false] 71) = w2 at *
  have c0 : w2.cell? ⟨w.heap.size, 0, none⟩ = some (.int .i64 k) := R0.out.box.c0
  have c1 : w2.cell? ⟨w.heap.size, 1, none⟩ = some (.int .i64 t) := R0.out.box.c1
  have c2 : w2.cell? ⟨w.heap.size, 2, none⟩ = some (.int .i64 c) := R0.out.box.c2
  have c3 : w2.cell? ⟨w.heap.size, 3, none⟩ = some (.int .i64 lo) := R0.out.box.c3
  have c4 : w2.cell? ⟨w.heap.size, 4, none⟩ = some (.int .i64 hi) := R0.out.box.c4
  have c5 : w2.cell? ⟨w.heap.size, 5, none⟩ = some (.int .i64 b) := R0.out.box.c5
  have c6 : w2.cell? ⟨w.heap.size, 6, none⟩ = some (.int .i64 o) := R0.out.box.c6
  have HQV := Lib.hid (qvalid_any ⟨k, t, c, lo, hi, b, o⟩ w2)
  cases hv : Em.valid ⟨k, t, c, lo, hi, b, o⟩
  · rw [hv] at HQV
    go_upto_region 2 with (go_at_call 27; refine HQV.out.mono ?_; rintro e w3 ⟨rfl, f3⟩; have R3 := Lib.hid (R0.out.fr0 f3); clear f3)
    have z0 := R3.out.res.z 0
    have z1 := R3.out.res.z 1
    have z2 := R3.out.res.z 2
    have y0 := R3.out.res.c0
    have y1 := R3.out.res.c1
    have y2 := R3.out.res.c2
    clear HQV R0 c0 c1 c2 c3 c4 c5 c6 HX HY
    go_wp2_with fail
    obtain ⟨w4, e4, q0, q1, q2, f4, -⟩ := R3.out.fin (.slice none 0 0) 0 false
    rw [e4]
    exact bodyPost_ret (v := .agg #[.slice none 0 0, .int .i64 0, .bool false]) (by simp [results, Tryz.results51, go_sem, q0, q1, q2]) rfl ⟨_, by rw [Em.res_bad hv], by rw [Em.res_bad hv]; exact ⟨OwnL.nil, f4, by simp [Value.ownBlock]⟩⟩
  rw [hv] at HQV
  have HVV := Lib.hid hv
  clear hv
  go_upto_region 3 with (go_at_call 27; refine HQV.out.mono ?_; rintro e w3 ⟨rfl, f3⟩; have R3 := Lib.hid (R0.out.fr0 f3); clear f3)
  clear HQV R0 c0 c1 c2 c3 c4 c5 c6
  have R4 := Lib.hid (R3.out.fr0 ((Fr.refl [] w3).alloc (.cells #[.slice none 0 0, .int .i64 0, .bool false] 71)))
  have hN := RsAt.new w3 (.slice none 0 0) 0 false
  have HX4 := Lib.hid (HX.out.fr R4.out.fr (by simp))
  have HY4 := Lib.hid (HY.out.fr R4.out.fr (by simp))
  clear HX HY
  have hs3 : w.heap.size + 1 < w3.heap.size := Blk.lt R3.out.res
  go_upto_region 4 with (fail)
  clear R3
  generalize hw4 : w3.alloc (.cells #[.slice none 0 0, .int .i64 0, .bool false] 71) = w4 at *
  clear hw4
  generalize w3.heap.size = gn at *
  have c0 : w4.cell? ⟨w.heap.size, 0, none⟩ = some (.int .i64 k) := R4.out.box.c0
  have c1 : w4.cell? ⟨w.heap.size, 1, none⟩ = some (.int .i64 t) := R4.out.box.c1
  have c2 : w4.cell? ⟨w.heap.size, 2, none⟩ = some (.int .i64 c) := R4.out.box.c2
  have c3 : w4.cell? ⟨w.heap.size, 3, none⟩ = some (.int .i64 lo) := R4.out.box.c3
  have c4 : w4.cell? ⟨w.heap.size, 4, none⟩ = some (.int .i64 hi) := R4.out.box.c4
  have c5 : w4.cell? ⟨w.heap.size, 5, none⟩ = some (.int .i64 b) := R4.out.box.c5
  have c6 : w4.cell? ⟨w.heap.size, 6, none⟩ = some (.int .i64 o) := R4.out.box.c6
  have n0 := hN.c0
  have n1 := hN.c1
  have n2 := hN.c2
  have HNN := Lib.hid hN
  have HS4 : Hid (w.heap.size + 1 < w4.heap.size) := Lib.hid (Blk.lt R4.out.res)
  clear hN
  by_cases k3 : k = 3
  · subst k3
    have HF := Lib.hid (foldR_any 95 #[] cntG A n cap rows none 0 0 0 false w4 HX4.out HN.out hl (enters_of Tryz.func95 (by kernel_rfl) rfl) (fun W x m f _ => count_any none 0 0 m x f W))
    obtain ⟨⟨v1, b1⟩, HV1⟩ : ∃ p, Hid (foldS cntG rows (0, false) = p) := ⟨_, Lib.hid rfl⟩
    rw [HV1.out] at HF
    go_wp2_with (go_at_call 94; refine HF.out.mono ?_; rintro e w5 ⟨rfl, f5⟩; have R5 := Lib.hid (R4.out.fr0 f5); clear f5; have z0 := R5.out.res.z 0; have y0 := R5.out.res.c0; have z1 := R5.out.res.z 1; have y1 := R5.out.res.c1; have z2 := R5.out.res.z 2; have y2 := R5.out.res.c2)
    obtain ⟨w6, e6, q0, q1, q2, f6, g6⟩ := R5.out.fin (.slice none 0 0) v1 b1
    rw [e6]
    exact bodyPost_ret (v := .agg #[(.slice none 0 0), .int .i64 v1, .bool b1]) (by simp [results, Tryz.results51, go_sem, q0, q1, q2]) rfl ⟨_, by rw [Em.res_count HVV.out rfl (by rw [← HN.out]; exact hl), HV1.out], by rw [Em.res_count HVV.out rfl (by rw [← HN.out]; exact hl)]; exact ⟨OwnL.nil, f6, by simp [Value.ownBlock]⟩⟩
  by_cases k4 : k = 4
  · subst k4
    obtain ⟨⟨v1, b1⟩, HV1⟩ : ∃ p, Hid (foldS sumG (Em.meas ⟨4, t, c, lo, hi, b, o⟩ rows) (0, false) = p) := ⟨_, Lib.hid rfl⟩
    have Rd := Lib.hid (R4.out.fr0 (Fr.refl [] w4).drew)
    have Nd := Lib.hid (HNN.out.fr (Fr.refl [] w4).drew (by simp))
    go_upto_region 8 with (fail)
    go_region_held3 (fun w' => w'.cell? ⟨w.heap.size, 0, none⟩ = some (.int .i64 4) ∧ w'.cell? ⟨w.heap.size, 1, none⟩ = some (.int .i64 t) ∧ w'.cell? ⟨w.heap.size, 2, none⟩ = some (.int .i64 c) ∧ w'.cell? ⟨w.heap.size, 3, none⟩ = some (.int .i64 lo) ∧ w'.cell? ⟨w.heap.size, 4, none⟩ = some (.int .i64 hi) ∧ w'.cell? ⟨w.heap.size, 5, none⟩ = some (.int .i64 b) ∧ w'.cell? ⟨w.heap.size, 6, none⟩ = some (.int .i64 o) ∧ w'.cell? ⟨gn, 0, none⟩ = some (.slice none 0 0) ∧ w'.cell? ⟨gn, 1, none⟩ = some (.int .i64 0) ∧ w'.cell? ⟨gn, 2, none⟩ = some (.bool false))
      (first | exact ⟨Rd.out.box.c0, Rd.out.box.c1, Rd.out.box.c2, Rd.out.box.c3, Rd.out.box.c4, Rd.out.box.c5, Rd.out.box.c6, Nd.out.c0, Nd.out.c1, Nd.out.c2⟩ | exact ⟨R5.out.box.c0, R5.out.box.c1, R5.out.box.c2, R5.out.box.c3, R5.out.box.c4, R5.out.box.c5, R5.out.box.c6, N5.out.c0, N5.out.c1, N5.out.c2⟩ | exact ⟨R7.out.box.c0, R7.out.box.c1, R7.out.box.c2, R7.out.box.c3, R7.out.box.c4, R7.out.box.c5, R7.out.box.c6, N7.out.c0, N7.out.c1, N7.out.c2⟩ | exact S8.out)
      (first
        | (go_at_call 97; refine (measures_any ⟨4, t, c, lo, hi, b, o⟩ A n cap rows _ (HX4.out.fr (Fr.refl [] w4).drew (by simp)) HN.out hl).mono ?_; rintro e w5 ⟨A2, c2, rfl, ho2, f2, -⟩; have HI := Lib.hid (IntRow.of_own ho2); have R5 := Lib.hid (Rd.out.fr0 f2); have N5 := Lib.hid (Nd.out.fr f2 (by simp)); clear ho2 f2)
        | (go_at_call 96; refine (foldI_any 98 #[] sumG A2 n c2 (Em.meas ⟨4, t, c, lo, hi, b, o⟩ rows) none 0 0 0 false w5 HI.out.1 HI.out.2 hl (enters_of Tryz.func98 (by kernel_rfl) rfl) (fun W x m f _ => plus_any none 0 0 m x f W)).mono ?_; rintro e w7 ⟨rfl, f7⟩; rw [HV1.out]; have R7 := Lib.hid (R5.out.fr0 f7); have N7 := Lib.hid (N5.out.fr f7 (by simp)); clear f7; have z0 := R7.out.res.z 0; have y0 := R7.out.res.c0; have z1 := R7.out.res.z 1; have y1 := R7.out.res.c1; have z2 := R7.out.res.z 2; have y2 := R7.out.res.c2; obtain ⟨w8, e8, q0, q1, q2, f8, g8⟩ := R7.out.fin (.slice none 0 0) v1 b1; have S8 := Lib.hid (show (((w7.setCell ⟨w.heap.size + 1, 0, none⟩ (.slice none 0 0)).setCell ⟨w.heap.size + 1, 1, none⟩ (.int .i64 v1)).setCell ⟨w.heap.size + 1, 2, none⟩ (.bool b1)).cell? ⟨w.heap.size, 0, none⟩ = some (.int .i64 4) ∧ (((w7.setCell ⟨w.heap.size + 1, 0, none⟩ (.slice none 0 0)).setCell ⟨w.heap.size + 1, 1, none⟩ (.int .i64 v1)).setCell ⟨w.heap.size + 1, 2, none⟩ (.bool b1)).cell? ⟨w.heap.size, 1, none⟩ = some (.int .i64 t) ∧ (((w7.setCell ⟨w.heap.size + 1, 0, none⟩ (.slice none 0 0)).setCell ⟨w.heap.size + 1, 1, none⟩ (.int .i64 v1)).setCell ⟨w.heap.size + 1, 2, none⟩ (.bool b1)).cell? ⟨w.heap.size, 2, none⟩ = some (.int .i64 c) ∧ (((w7.setCell ⟨w.heap.size + 1, 0, none⟩ (.slice none 0 0)).setCell ⟨w.heap.size + 1, 1, none⟩ (.int .i64 v1)).setCell ⟨w.heap.size + 1, 2, none⟩ (.bool b1)).cell? ⟨w.heap.size, 3, none⟩ = some (.int .i64 lo) ∧ (((w7.setCell ⟨w.heap.size + 1, 0, none⟩ (.slice none 0 0)).setCell ⟨w.heap.size + 1, 1, none⟩ (.int .i64 v1)).setCell ⟨w.heap.size + 1, 2, none⟩ (.bool b1)).cell? ⟨w.heap.size, 4, none⟩ = some (.int .i64 hi) ∧ (((w7.setCell ⟨w.heap.size + 1, 0, none⟩ (.slice none 0 0)).setCell ⟨w.heap.size + 1, 1, none⟩ (.int .i64 v1)).setCell ⟨w.heap.size + 1, 2, none⟩ (.bool b1)).cell? ⟨w.heap.size, 5, none⟩ = some (.int .i64 b) ∧ (((w7.setCell ⟨w.heap.size + 1, 0, none⟩ (.slice none 0 0)).setCell ⟨w.heap.size + 1, 1, none⟩ (.int .i64 v1)).setCell ⟨w.heap.size + 1, 2, none⟩ (.bool b1)).cell? ⟨w.heap.size, 6, none⟩ = some (.int .i64 o) ∧ (((w7.setCell ⟨w.heap.size + 1, 0, none⟩ (.slice none 0 0)).setCell ⟨w.heap.size + 1, 1, none⟩ (.int .i64 v1)).setCell ⟨w.heap.size + 1, 2, none⟩ (.bool b1)).cell? ⟨gn, 0, none⟩ = some (.slice none 0 0) ∧ (((w7.setCell ⟨w.heap.size + 1, 0, none⟩ (.slice none 0 0)).setCell ⟨w.heap.size + 1, 1, none⟩ (.int .i64 v1)).setCell ⟨w.heap.size + 1, 2, none⟩ (.bool b1)).cell? ⟨gn, 1, none⟩ = some (.int .i64 0) ∧ (((w7.setCell ⟨w.heap.size + 1, 0, none⟩ (.slice none 0 0)).setCell ⟨w.heap.size + 1, 1, none⟩ (.int .i64 v1)).setCell ⟨w.heap.size + 1, 2, none⟩ (.bool b1)).cell? ⟨gn, 2, none⟩ = some (.bool false) from by rw [e8]; have B8 := R7.out.box.fr g8 (by simp); have M8 := N7.out.fr g8 (by simp; omega); exact ⟨B8.c0, B8.c1, B8.c2, B8.c3, B8.c4, B8.c5, B8.c6, M8.c0, M8.c1, M8.c2⟩); have E8 := Lib.hid e8; have Q8 := Lib.hid (And.intro q0 (And.intro q1 q2)); have F8 := Lib.hid f8; clear e8 q0 q1 q2 f8 g8))
    go_wp2_with fail
    have q0 := Q8.out.1
    have q1 := Q8.out.2.1
    have q2 := Q8.out.2.2
    rw [E8.out]
    exact bodyPost_ret (v := .agg #[.slice none 0 0, .int .i64 v1, .bool b1]) (by simp [results, Tryz.results51, go_sem, q0, q1, q2]) rfl ⟨_, by rw [Em.res_sum HVV.out rfl (by rw [← HN.out]; exact hl) (HSUM.out HVV.out (by simp)), HV1.out], by rw [Em.res_sum HVV.out rfl (by rw [← HN.out]; exact hl) (HSUM.out HVV.out (by simp))]; exact ⟨OwnL.nil, F8.out, by simp [Value.ownBlock]⟩⟩
  by_cases k5 : k = 5
  · subst k5
    obtain ⟨⟨v1, b1⟩, HV1⟩ : ∃ p, Hid (foldS (exG ltI) (Em.meas ⟨5, t, c, lo, hi, b, o⟩ rows) (0, false) = p) := ⟨_, Lib.hid rfl⟩
    have Rd := Lib.hid (R4.out.fr0 (Fr.refl [] w4).drew)
    have Nd := Lib.hid (HNN.out.fr (Fr.refl [] w4).drew (by simp))
    go_upto_region 10 with (fail)
    go_region_held3 (fun w' => w'.cell? ⟨w.heap.size, 0, none⟩ = some (.int .i64 5) ∧ w'.cell? ⟨w.heap.size, 1, none⟩ = some (.int .i64 t) ∧ w'.cell? ⟨w.heap.size, 2, none⟩ = some (.int .i64 c) ∧ w'.cell? ⟨w.heap.size, 3, none⟩ = some (.int .i64 lo) ∧ w'.cell? ⟨w.heap.size, 4, none⟩ = some (.int .i64 hi) ∧ w'.cell? ⟨w.heap.size, 5, none⟩ = some (.int .i64 b) ∧ w'.cell? ⟨w.heap.size, 6, none⟩ = some (.int .i64 o) ∧ w'.cell? ⟨gn, 0, none⟩ = some (.slice none 0 0) ∧ w'.cell? ⟨gn, 1, none⟩ = some (.int .i64 0) ∧ w'.cell? ⟨gn, 2, none⟩ = some (.bool false))
      (first | exact ⟨Rd.out.box.c0, Rd.out.box.c1, Rd.out.box.c2, Rd.out.box.c3, Rd.out.box.c4, Rd.out.box.c5, Rd.out.box.c6, Nd.out.c0, Nd.out.c1, Nd.out.c2⟩ | exact ⟨R5.out.box.c0, R5.out.box.c1, R5.out.box.c2, R5.out.box.c3, R5.out.box.c4, R5.out.box.c5, R5.out.box.c6, N5.out.c0, N5.out.c1, N5.out.c2⟩ | exact ⟨R6.out.box.c0, R6.out.box.c1, R6.out.box.c2, R6.out.box.c3, R6.out.box.c4, R6.out.box.c5, R6.out.box.c6, N6.out.c0, N6.out.c1, N6.out.c2⟩ | exact ⟨R7.out.box.c0, R7.out.box.c1, R7.out.box.c2, R7.out.box.c3, R7.out.box.c4, R7.out.box.c5, R7.out.box.c6, N7.out.c0, N7.out.c1, N7.out.c2⟩ | exact S8.out)
      (first
        | (go_at_call 97; refine (measures_any ⟨5, t, c, lo, hi, b, o⟩ A n cap rows _ (HX4.out.fr (Fr.refl [] w4).drew (by simp)) HN.out hl).mono ?_; rintro e w5 ⟨A2, c2, rfl, ho2, f2, -⟩; have HI := Lib.hid (IntRow.of_own ho2); have R5 := Lib.hid (Rd.out.fr0 f2); have N5 := Lib.hid (Nd.out.fr f2 (by simp)); clear ho2 f2)
        | (go_at_call 99; refine (extreme_any 100 w5).mono ?_; rintro e w6 ⟨rfl, hb6, f6⟩; have H6 := Lib.hid hb6; have HI6 := Lib.hid (HI.out.1.fr0 f6); have R6 := Lib.hid (R5.out.fr0 f6); have N6 := Lib.hid (N5.out.fr f6 (by simp)); clear hb6 f6)
        | (go_at_call 96; refine (foldI_any 128 #[.pointer (some ⟨w5.heap.size, 0, none⟩)] ((exG ltI)) A2 n c2 (Em.meas ⟨5, t, c, lo, hi, b, o⟩ rows) none 0 0 0 false w6 HI6.out HI.out.2 hl (enters_of Tryz.func128 (by kernel_rfl) rfl) (fun W x m f hf => extreme1_any 100 w5.heap.size ltI none 0 0 m x f W (H6.out.fr hf (by simp)) (enters_of Tryz.func100 (by kernel_rfl) rfl) less_any)).mono ?_; rintro e w7 ⟨rfl, f7⟩; rw [HV1.out]; have R7 := Lib.hid (R6.out.fr0 f7); have N7 := Lib.hid (N6.out.fr f7 (by simp)); clear f7; have z0 := R7.out.res.z 0; have y0 := R7.out.res.c0; have z1 := R7.out.res.z 1; have y1 := R7.out.res.c1; have z2 := R7.out.res.z 2; have y2 := R7.out.res.c2; obtain ⟨w8, e8, q0, q1, q2, f8, g8⟩ := R7.out.fin (.slice none 0 0) v1 b1; have S8 := Lib.hid (show (((w7.setCell ⟨w.heap.size + 1, 0, none⟩ (.slice none 0 0)).setCell ⟨w.heap.size + 1, 1, none⟩ (.int .i64 v1)).setCell ⟨w.heap.size + 1, 2, none⟩ (.bool b1)).cell? ⟨w.heap.size, 0, none⟩ = some (.int .i64 5) ∧ (((w7.setCell ⟨w.heap.size + 1, 0, none⟩ (.slice none 0 0)).setCell ⟨w.heap.size + 1, 1, none⟩ (.int .i64 v1)).setCell ⟨w.heap.size + 1, 2, none⟩ (.bool b1)).cell? ⟨w.heap.size, 1, none⟩ = some (.int .i64 t) ∧ (((w7.setCell ⟨w.heap.size + 1, 0, none⟩ (.slice none 0 0)).setCell ⟨w.heap.size + 1, 1, none⟩ (.int .i64 v1)).setCell ⟨w.heap.size + 1, 2, none⟩ (.bool b1)).cell? ⟨w.heap.size, 2, none⟩ = some (.int .i64 c) ∧ (((w7.setCell ⟨w.heap.size + 1, 0, none⟩ (.slice none 0 0)).setCell ⟨w.heap.size + 1, 1, none⟩ (.int .i64 v1)).setCell ⟨w.heap.size + 1, 2, none⟩ (.bool b1)).cell? ⟨w.heap.size, 3, none⟩ = some (.int .i64 lo) ∧ (((w7.setCell ⟨w.heap.size + 1, 0, none⟩ (.slice none 0 0)).setCell ⟨w.heap.size + 1, 1, none⟩ (.int .i64 v1)).setCell ⟨w.heap.size + 1, 2, none⟩ (.bool b1)).cell? ⟨w.heap.size, 4, none⟩ = some (.int .i64 hi) ∧ (((w7.setCell ⟨w.heap.size + 1, 0, none⟩ (.slice none 0 0)).setCell ⟨w.heap.size + 1, 1, none⟩ (.int .i64 v1)).setCell ⟨w.heap.size + 1, 2, none⟩ (.bool b1)).cell? ⟨w.heap.size, 5, none⟩ = some (.int .i64 b) ∧ (((w7.setCell ⟨w.heap.size + 1, 0, none⟩ (.slice none 0 0)).setCell ⟨w.heap.size + 1, 1, none⟩ (.int .i64 v1)).setCell ⟨w.heap.size + 1, 2, none⟩ (.bool b1)).cell? ⟨w.heap.size, 6, none⟩ = some (.int .i64 o) ∧ (((w7.setCell ⟨w.heap.size + 1, 0, none⟩ (.slice none 0 0)).setCell ⟨w.heap.size + 1, 1, none⟩ (.int .i64 v1)).setCell ⟨w.heap.size + 1, 2, none⟩ (.bool b1)).cell? ⟨gn, 0, none⟩ = some (.slice none 0 0) ∧ (((w7.setCell ⟨w.heap.size + 1, 0, none⟩ (.slice none 0 0)).setCell ⟨w.heap.size + 1, 1, none⟩ (.int .i64 v1)).setCell ⟨w.heap.size + 1, 2, none⟩ (.bool b1)).cell? ⟨gn, 1, none⟩ = some (.int .i64 0) ∧ (((w7.setCell ⟨w.heap.size + 1, 0, none⟩ (.slice none 0 0)).setCell ⟨w.heap.size + 1, 1, none⟩ (.int .i64 v1)).setCell ⟨w.heap.size + 1, 2, none⟩ (.bool b1)).cell? ⟨gn, 2, none⟩ = some (.bool false) from by rw [e8]; have B8 := R7.out.box.fr g8 (by simp); have M8 := N7.out.fr g8 (by simp; omega); exact ⟨B8.c0, B8.c1, B8.c2, B8.c3, B8.c4, B8.c5, B8.c6, M8.c0, M8.c1, M8.c2⟩); have E8 := Lib.hid e8; have Q8 := Lib.hid (And.intro q0 (And.intro q1 q2)); have F8 := Lib.hid f8; clear e8 q0 q1 q2 f8 g8))
    go_wp2_with fail
    have q0 := Q8.out.1
    have q1 := Q8.out.2.1
    have q2 := Q8.out.2.2
    rw [E8.out]
    exact bodyPost_ret (v := .agg #[.slice none 0 0, .int .i64 v1, .bool b1]) (by simp [results, Tryz.results51, go_sem, q0, q1, q2]) rfl ⟨_, by rw [Em.res_min HVV.out rfl, HV1.out], by rw [Em.res_min HVV.out rfl]; exact ⟨OwnL.nil, F8.out, by simp [Value.ownBlock]⟩⟩
  by_cases k6 : k = 6
  · subst k6
    obtain ⟨⟨v1, b1⟩, HV1⟩ : ∃ p, Hid (foldS (exG gtI) (Em.meas ⟨6, t, c, lo, hi, b, o⟩ rows) (0, false) = p) := ⟨_, Lib.hid rfl⟩
    have Rd := Lib.hid (R4.out.fr0 (Fr.refl [] w4).drew)
    have Nd := Lib.hid (HNN.out.fr (Fr.refl [] w4).drew (by simp))
    go_upto_region 12 with (fail)
    go_region_held3 (fun w' => w'.cell? ⟨w.heap.size, 0, none⟩ = some (.int .i64 6) ∧ w'.cell? ⟨w.heap.size, 1, none⟩ = some (.int .i64 t) ∧ w'.cell? ⟨w.heap.size, 2, none⟩ = some (.int .i64 c) ∧ w'.cell? ⟨w.heap.size, 3, none⟩ = some (.int .i64 lo) ∧ w'.cell? ⟨w.heap.size, 4, none⟩ = some (.int .i64 hi) ∧ w'.cell? ⟨w.heap.size, 5, none⟩ = some (.int .i64 b) ∧ w'.cell? ⟨w.heap.size, 6, none⟩ = some (.int .i64 o) ∧ w'.cell? ⟨gn, 0, none⟩ = some (.slice none 0 0) ∧ w'.cell? ⟨gn, 1, none⟩ = some (.int .i64 0) ∧ w'.cell? ⟨gn, 2, none⟩ = some (.bool false))
      (first | exact ⟨Rd.out.box.c0, Rd.out.box.c1, Rd.out.box.c2, Rd.out.box.c3, Rd.out.box.c4, Rd.out.box.c5, Rd.out.box.c6, Nd.out.c0, Nd.out.c1, Nd.out.c2⟩ | exact ⟨R5.out.box.c0, R5.out.box.c1, R5.out.box.c2, R5.out.box.c3, R5.out.box.c4, R5.out.box.c5, R5.out.box.c6, N5.out.c0, N5.out.c1, N5.out.c2⟩ | exact ⟨R6.out.box.c0, R6.out.box.c1, R6.out.box.c2, R6.out.box.c3, R6.out.box.c4, R6.out.box.c5, R6.out.box.c6, N6.out.c0, N6.out.c1, N6.out.c2⟩ | exact ⟨R7.out.box.c0, R7.out.box.c1, R7.out.box.c2, R7.out.box.c3, R7.out.box.c4, R7.out.box.c5, R7.out.box.c6, N7.out.c0, N7.out.c1, N7.out.c2⟩ | exact S8.out)
      (first
        | (go_at_call 97; refine (measures_any ⟨6, t, c, lo, hi, b, o⟩ A n cap rows _ (HX4.out.fr (Fr.refl [] w4).drew (by simp)) HN.out hl).mono ?_; rintro e w5 ⟨A2, c2, rfl, ho2, f2, -⟩; have HI := Lib.hid (IntRow.of_own ho2); have R5 := Lib.hid (Rd.out.fr0 f2); have N5 := Lib.hid (Nd.out.fr f2 (by simp)); clear ho2 f2)
        | (go_at_call 99; refine (extreme_any 101 w5).mono ?_; rintro e w6 ⟨rfl, hb6, f6⟩; have H6 := Lib.hid hb6; have HI6 := Lib.hid (HI.out.1.fr0 f6); have R6 := Lib.hid (R5.out.fr0 f6); have N6 := Lib.hid (N5.out.fr f6 (by simp)); clear hb6 f6)
        | (go_at_call 96; refine (foldI_any 128 #[.pointer (some ⟨w5.heap.size, 0, none⟩)] ((exG gtI)) A2 n c2 (Em.meas ⟨6, t, c, lo, hi, b, o⟩ rows) none 0 0 0 false w6 HI6.out HI.out.2 hl (enters_of Tryz.func128 (by kernel_rfl) rfl) (fun W x m f hf => extreme1_any 101 w5.heap.size gtI none 0 0 m x f W (H6.out.fr hf (by simp)) (enters_of Tryz.func101 (by kernel_rfl) rfl) more_any)).mono ?_; rintro e w7 ⟨rfl, f7⟩; rw [HV1.out]; have R7 := Lib.hid (R6.out.fr0 f7); have N7 := Lib.hid (N6.out.fr f7 (by simp)); clear f7; have z0 := R7.out.res.z 0; have y0 := R7.out.res.c0; have z1 := R7.out.res.z 1; have y1 := R7.out.res.c1; have z2 := R7.out.res.z 2; have y2 := R7.out.res.c2; obtain ⟨w8, e8, q0, q1, q2, f8, g8⟩ := R7.out.fin (.slice none 0 0) v1 b1; have S8 := Lib.hid (show (((w7.setCell ⟨w.heap.size + 1, 0, none⟩ (.slice none 0 0)).setCell ⟨w.heap.size + 1, 1, none⟩ (.int .i64 v1)).setCell ⟨w.heap.size + 1, 2, none⟩ (.bool b1)).cell? ⟨w.heap.size, 0, none⟩ = some (.int .i64 6) ∧ (((w7.setCell ⟨w.heap.size + 1, 0, none⟩ (.slice none 0 0)).setCell ⟨w.heap.size + 1, 1, none⟩ (.int .i64 v1)).setCell ⟨w.heap.size + 1, 2, none⟩ (.bool b1)).cell? ⟨w.heap.size, 1, none⟩ = some (.int .i64 t) ∧ (((w7.setCell ⟨w.heap.size + 1, 0, none⟩ (.slice none 0 0)).setCell ⟨w.heap.size + 1, 1, none⟩ (.int .i64 v1)).setCell ⟨w.heap.size + 1, 2, none⟩ (.bool b1)).cell? ⟨w.heap.size, 2, none⟩ = some (.int .i64 c) ∧ (((w7.setCell ⟨w.heap.size + 1, 0, none⟩ (.slice none 0 0)).setCell ⟨w.heap.size + 1, 1, none⟩ (.int .i64 v1)).setCell ⟨w.heap.size + 1, 2, none⟩ (.bool b1)).cell? ⟨w.heap.size, 3, none⟩ = some (.int .i64 lo) ∧ (((w7.setCell ⟨w.heap.size + 1, 0, none⟩ (.slice none 0 0)).setCell ⟨w.heap.size + 1, 1, none⟩ (.int .i64 v1)).setCell ⟨w.heap.size + 1, 2, none⟩ (.bool b1)).cell? ⟨w.heap.size, 4, none⟩ = some (.int .i64 hi) ∧ (((w7.setCell ⟨w.heap.size + 1, 0, none⟩ (.slice none 0 0)).setCell ⟨w.heap.size + 1, 1, none⟩ (.int .i64 v1)).setCell ⟨w.heap.size + 1, 2, none⟩ (.bool b1)).cell? ⟨w.heap.size, 5, none⟩ = some (.int .i64 b) ∧ (((w7.setCell ⟨w.heap.size + 1, 0, none⟩ (.slice none 0 0)).setCell ⟨w.heap.size + 1, 1, none⟩ (.int .i64 v1)).setCell ⟨w.heap.size + 1, 2, none⟩ (.bool b1)).cell? ⟨w.heap.size, 6, none⟩ = some (.int .i64 o) ∧ (((w7.setCell ⟨w.heap.size + 1, 0, none⟩ (.slice none 0 0)).setCell ⟨w.heap.size + 1, 1, none⟩ (.int .i64 v1)).setCell ⟨w.heap.size + 1, 2, none⟩ (.bool b1)).cell? ⟨gn, 0, none⟩ = some (.slice none 0 0) ∧ (((w7.setCell ⟨w.heap.size + 1, 0, none⟩ (.slice none 0 0)).setCell ⟨w.heap.size + 1, 1, none⟩ (.int .i64 v1)).setCell ⟨w.heap.size + 1, 2, none⟩ (.bool b1)).cell? ⟨gn, 1, none⟩ = some (.int .i64 0) ∧ (((w7.setCell ⟨w.heap.size + 1, 0, none⟩ (.slice none 0 0)).setCell ⟨w.heap.size + 1, 1, none⟩ (.int .i64 v1)).setCell ⟨w.heap.size + 1, 2, none⟩ (.bool b1)).cell? ⟨gn, 2, none⟩ = some (.bool false) from by rw [e8]; have B8 := R7.out.box.fr g8 (by simp); have M8 := N7.out.fr g8 (by simp; omega); exact ⟨B8.c0, B8.c1, B8.c2, B8.c3, B8.c4, B8.c5, B8.c6, M8.c0, M8.c1, M8.c2⟩); have E8 := Lib.hid e8; have Q8 := Lib.hid (And.intro q0 (And.intro q1 q2)); have F8 := Lib.hid f8; clear e8 q0 q1 q2 f8 g8))
    go_wp2_with fail
    have q0 := Q8.out.1
    have q1 := Q8.out.2.1
    have q2 := Q8.out.2.2
    rw [E8.out]
    exact bodyPost_ret (v := .agg #[.slice none 0 0, .int .i64 v1, .bool b1]) (by simp [results, Tryz.results51, go_sem, q0, q1, q2]) rfl ⟨_, by rw [Em.res_max HVV.out rfl, HV1.out], by rw [Em.res_max HVV.out rfl]; exact ⟨OwnL.nil, F8.out, by simp [Value.ownBlock]⟩⟩
  by_cases k7 : k = 7
  · subst k7
    have HJ := Lib.hid (joined_any ⟨7, t, c, lo, hi, b, o⟩ A n cap rows B m capB others w4 HX4.out HN.out hl HY4.out HM.out hlm (HK1.out HVV.out) HK2.out)
    go_wp2_with (go_at_call 102; refine HJ.out.mono ?_; rintro e w5 ⟨v, rfl, ho, f5, hnew⟩; obtain ⟨A5, n5, c5, hv5⟩ : ∃ A n c, v = .slice A n c := (match ho.val with | ⟨_, _, hv⟩ => ⟨_, _, _, hv⟩); subst hv5; have R5 := Lib.hid (R4.out.fr0 f5); have HO5 := Lib.hid ho; have HW5 := Lib.hid hnew; clear f5 ho hnew; have z0 := R5.out.res.z 0; have y0 := R5.out.res.c0; have z1 := R5.out.res.z 1; have y1 := R5.out.res.c1; have z2 := R5.out.res.z 2; have y2 := R5.out.res.c2)
    obtain ⟨w6, e6, q0, q1, q2, f6, g6⟩ := R5.out.fin (.slice A5 n5 c5) 0 false
    rw [e6]
    exact bodyPost_ret (v := .agg #[(.slice A5 n5 c5), .int .i64 0, .bool false]) (by simp [results, Tryz.results51, go_sem, q0, q1, q2]) rfl ⟨_, by rw [Em.res_join HVV.out rfl], by rw [Em.res_join HVV.out rfl]; exact ⟨HO5.out.fr g6 (fun g hg => by have h1 := HW5.out g hg; have h2 := HS4.out; simp only [List.mem_singleton]; omega), f6, fun g hg => by have h1 := HW5.out g hg; have h2 := HS4.out; omega⟩⟩
  have HC := Lib.hid (rclone_any A n cap rows w4 HX4.out HN.out hl)
  have e3 : (k == 3) = false := by simp [k3]
  have e4 : (k == 4) = false := by simp [k4]
  have e5 : (k == 5) = false := by simp [k5]
  have e6 : (k == 6) = false := by simp [k6]
  have e7 : (k == 7) = false := by simp [k7]
  go_wp2_with (go_at_call 55; refine HC.out.mono ?_; rintro e w5 ⟨v, rfl, ho, f5, hnew⟩; obtain ⟨A5, n5, c5, hv5⟩ : ∃ A n c, v = .slice A n c := (match ho.val with | ⟨_, _, hv⟩ => ⟨_, _, _, hv⟩); subst hv5; have R5 := Lib.hid (R4.out.fr0 f5); have HO5 := Lib.hid ho; have HW5 := Lib.hid hnew; clear f5 ho hnew; have z0 := R5.out.res.z 0; have y0 := R5.out.res.c0; have z1 := R5.out.res.z 1; have y1 := R5.out.res.c1; have z2 := R5.out.res.z 2; have y2 := R5.out.res.c2)
  obtain ⟨w6, e6, q0, q1, q2, f6, g6⟩ := R5.out.fin (.slice A5 n5 c5) 0 false
  rw [e6]
  exact bodyPost_ret (v := .agg #[(.slice A5 n5 c5), .int .i64 0, .bool false]) (by simp [results, Tryz.results51, go_sem, q0, q1, q2]) rfl ⟨_, by rw [Em.res_rows HVV.out k3 k4 k5 k6 k7], by rw [Em.res_rows HVV.out k3 k4 k5 k6 k7]; exact ⟨HO5.out.fr g6 (fun g hg => by have h1 := HW5.out g hg; have h2 := HS4.out; simp only [List.mem_singleton]; omega), f6, fun g hg => by have h1 := HW5.out g hg; have h2 := HS4.out; omega⟩⟩
end Go.Proofs.YtciaallekkdnhaaGreat

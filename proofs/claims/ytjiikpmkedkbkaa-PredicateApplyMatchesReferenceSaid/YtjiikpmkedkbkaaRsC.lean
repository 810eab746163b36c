/-
  Reference 07: rows.
-/
import Derived.Test.YtjiikpmkedkbkaaRsB
import Derived.Test.YtjiikpmkedkbkaaGal
import Derived.Test.YtjiikpmkedkbkaaGae
import Derived.Test.YtjiikpmkedkbkaaGar
import Derived.Test.YtjiikpmkedkbkaaGac
import Derived.Deep.RegionLaw
import Derived.Deep.CutBlock
import Derived.Outline
namespace Go.Proofs.Ytjiikpmkedkbkaa
open Go.RowKit

theorem Pm.ins_at2 {X : Type} {p : X → Bool} {x : X} : ∀ {R : List X} {j : Nat}, j ≤ R.length → (∀ i (h : i < R.length), i < j → p R[i] = false) → (∀ h : j < R.length, p R[j] = true) → Pm.ins p x R = (R.take j ++ [x]) ++ R.drop j
  | [], j, hj, _, _ => by
    have : j = 0 := by simpa using hj
    subst this
    rfl
  | y :: R, 0, _, _, h => by
    have := h (by simp)
    have h0 : p y = true := this
    unfold Pm.ins
    rw [if_pos h0]
    rfl
  | y :: R, j + 1, hj, h1, h2 => by
    have h0 := h1 0 (by simp) (by omega)
    have h0' : p y = false := h0
    unfold Pm.ins
    rw [if_neg (by simp [h0']), Pm.ins_at2 (R := R) (j := j) (by simpa using hj) (fun i hi hij => h1 (i + 1) (by simpa using hi) (by omega)) (fun hi => h2 (by simpa using hi))]
    rfl
theorem RtAt.grownS {w w1 w' : World} {gq gc : Nat} {q : Qry} {c : Chg} {v : Value} {R : List RowV} (h : RtAt w gq gc q c) (hf : Fr [] w w1) (hg : w1.grownBy w' v.ownBlock) (hr : RowsOwn w v R) (hq : 57 ≠ 24) (hc : 57 ≠ 30) : RtAt w' gq gc q c := by
  have h1 := h.fr0 hf
  exact ⟨Blk.grown h1.q hg (fun e => OwnL.ne hr h.q hq e.symm rfl), Blk.grown h1.c hg (fun e => OwnL.ne hr h.c hc e.symm rfl)⟩
/-- Between two rounds of the filter. -/
structure RrRel (w wr : World) (gq gc : Nat) (q : Qry) (c : Chg) (v : Value) (R : List RowV) : Prop where
  at_ : RtAt wr gq gc q c
  row : RowsOwn wr v R
  fr : Fr [] w wr
  own : ∀ g, v.ownBlock = some g → w.heap.size ≤ g
theorem RrRel.fr0 {w wr w' : World} {gq gc : Nat} {q : Qry} {c : Chg} {v : Value} {R : List RowV} (h : RrRel w wr gq gc q c v R) (hf : Fr [] wr w') : RrRel w w' gq gc q c v R := ⟨h.at_.fr0 hf, h.row.fr hf (by simp), h.fr.trans hf, h.own⟩

set_option maxRecDepth 100000 in
set_option maxHeartbeats 8000000 in
theorem rrows_any (q : Qry) (c : Chg) (A : Option Addr) (n cap : Nat) (L : List RowV) (w : World) (hx : AtL RowV.cells 5 w A L) (hn : n = L.length) (hl : n ≤ 50000) :
    Calls Try.prog 32 #[q.val, .slice A n cap, c.val] w fun e w' => ∃ v', e = .returned v' ∧ RowsOwn w' v' (Pm.rows q L c) ∧ Fr [] w w' ∧ ∀ g, v'.ownBlock = some g → w.heap.size ≤ g := by
  have F0 : Hid (Fr [] w ((w.alloc (.cells #[.int .i64 q.kind, .int .i64 q.table, .int .i64 q.column, .int .i64 q.low, .int .i64 q.high, .int .i64 q.by_, .int .i64 q.other] 24)).alloc (.cells #[.int .i64 c.t, .int .i64 c.k, .bool c.had, .int .i64 c.o0, .int .i64 c.o1, .int .i64 c.o2, .bool c.has, .int .i64 c.n0, .int .i64 c.n1, .int .i64 c.n2] 30))) := Lib.hid (((Fr.refl [] w).alloc _).alloc _)
  have hb := Blk.new (w.alloc (.cells #[.int .i64 q.kind, .int .i64 q.table, .int .i64 q.column, .int .i64 q.low, .int .i64 q.high, .int .i64 q.by_, .int .i64 q.other] 24)) 30 #[.int .i64 c.t, .int .i64 c.k, .bool c.had, .int .i64 c.o0, .int .i64 c.o1, .int .i64 c.o2, .bool c.has, .int .i64 c.n0, .int .i64 c.n1, .int .i64 c.n2]
  rw [World.size_alloc] at hb
  have AT : Hid (RtAt ((w.alloc (.cells #[.int .i64 q.kind, .int .i64 q.table, .int .i64 q.column, .int .i64 q.low, .int .i64 q.high, .int .i64 q.by_, .int .i64 q.other] 24)).alloc (.cells #[.int .i64 c.t, .int .i64 c.k, .bool c.had, .int .i64 c.o0, .int .i64 c.o1, .int .i64 c.o2, .bool c.has, .int .i64 c.n0, .int .i64 c.n1, .int .i64 c.n2] 30)) w.heap.size (w.heap.size + 1) q c) := Lib.hid ⟨Blk.alloc (QAt.new w q) _, hb⟩
  have P0 : Hid (RrRel w ((w.alloc (.cells #[.int .i64 q.kind, .int .i64 q.table, .int .i64 q.column, .int .i64 q.low, .int .i64 q.high, .int .i64 q.by_, .int .i64 q.other] 24)).alloc (.cells #[.int .i64 c.t, .int .i64 c.k, .bool c.had, .int .i64 c.o0, .int .i64 c.o1, .int .i64 c.o2, .bool c.has, .int .i64 c.n0, .int .i64 c.n1, .int .i64 c.n2] 30)) w.heap.size (w.heap.size + 1) q c (.slice none 0 0) ([] : List RowV)) := Lib.hid ⟨AT.out, OwnL.nil, F0.out, fun g hg => by simp [Value.ownBlock] at hg⟩
  have HX := Lib.hid hx
  have HN := Lib.hid hn
  have HLB : Hid (L.length ≤ 50000) := Lib.hid (by omega)
  obtain ⟨i0, TR⟩ := etRow
  clear hb hx hn AT F0
  go_enter Try.func32, Try.ntmps32
  go_upto_region 3 with (fail)
  generalize ((w.alloc (.cells #[.int .i64 q.kind, .int .i64 q.table, .int .i64 q.column, .int .i64 q.low, .int .i64 q.high, .int .i64 q.by_, .int .i64 q.other] 24)).alloc (.cells #[.int .i64 c.t, .int .i64 c.k, .bool c.had, .int .i64 c.o0, .int .i64 c.o1, .int .i64 c.o2, .bool c.has, .int .i64 c.n0, .int .i64 c.n1, .int .i64 c.n2] 30)) = w2 at *
  go_loopw [7, 8] (fun vo i wr => ∃ (k : Nat) (Ao : Option Addr) (R : List RowV) (co : Nat), vo = .slice Ao R.length co ∧ i = .int .i64 k ∧ k ≤ n ∧ Hid (R = (L.take k).filter (fun x => !Pm.own c x)) ∧ Hid (RrRel w wr w.heap.size (w.heap.size + 1) q c (.slice Ao R.length co) R)) (fun _ i _ => n - (intOf i).toNat)
  case atStart => exact ⟨0, none, [], 0, rfl, rfl, Nat.zero_le _, Lib.hid (by simp), P0⟩
  case round =>
    clear P0
    obtain ⟨k, Ao, R, co, rfl, rfl, hk, HRK, RR⟩ := hrel
    by_cases hlt : k < n
    · have hkl : k < L.length := by rw [← HN.out]; exact hlt
      obtain ⟨bA, off, hA, hbA, hcell⟩ := (HX.out.fr0 RR.out.fr) (by omega)
      subst hA
      have hck := Lib.hid (fun j (hj : j < 5) => hcell k hkl j hj)
      have HRL : Hid (R.length ≤ 50000) := Lib.hid (by
        rw [HRK.out]
        have h1 := List.length_filter_le (fun x => !Pm.own c x) (L.take k)
        rw [List.length_take] at h1
        have := HLB.out
        omega)
      have HTK : Hid ((L.take (k + 1)).filter (fun x => !Pm.own c x) = R ++ (if Pm.own c L[k] = true then [] else [L[k]])) := Lib.hid (by
        rw [List.take_succ_eq_append_getElem hkl, List.filter_append, ← HRK.out]
        congr 1
        by_cases e : Pm.own c L[k] = true
        · rw [if_pos e, List.filter_cons_of_neg (by simp [e])]; rfl
        · rw [if_neg e, List.filter_cons_of_pos (by simp [e])]; rfl)
      clear hcell
      generalize L[k] = x at *
      obtain ⟨xt, xk, xa, xb, xc⟩ := x
      have HOW : Hid (Pm.own c ⟨xt, xk, xa, xb, xc⟩ = (decide (xt = c.t) && decide (xk = c.k))) := Lib.hid rfl
      have x0 : ∀ p : Later wr, p.w.cell? ⟨bA, off + k * 5, none⟩ = some (.int .i64 xt) := fun p => p.cell hbA (hck.out 0 (by decide))
      have x1 : ∀ p : Later wr, p.w.cell? ⟨bA, off + k * 5 + 1, none⟩ = some (.int .i64 xk) := fun p => p.cell hbA (hck.out 1 (by decide))
      have c0 : ∀ p : Later wr, p.w.cell? ⟨w.heap.size + 1, 0, none⟩ = some (.int .i64 c.t) := fun p => p.cell RR.out.at_.c.lt (RR.out.at_.c.cell 0)
      have c1 : ∀ p : Later wr, p.w.cell? ⟨w.heap.size + 1, 1, none⟩ = some (.int .i64 c.k) := fun p => p.cell RR.out.at_.c.lt (RR.out.at_.c.cell 1)
      by_cases e1 : xt = c.t
      · have e1' : (xt != c.t) = false := by simpa using e1
        by_cases e2 : xk = c.k
        · have e2' : (xk != c.k) = false := by simpa using e2
          have HT2 : Hid ((L.take (k + 1)).filter (fun x => !Pm.own c x) = R) := Lib.hid (by rw [HTK.out, HOW.out, if_pos (by simp [e1, e2]), List.append_nil])
          clear e1 e2 HTK HOW hck
          go_wp2_with fail
          refine wp_region_later (by kernel_rfl) (by kernel_rfl) ?_
          repeat (go_big_quiet_step (fail))
          refine wpQuiet_nil ?_
          rintro w' ⟨⟨wq, fq⟩, rfl⟩
          have R2 := Lib.hid (RR.out.fr0 fq)
          clear fq x0 x1 c0 c1 hbA
          go_wp2_with fail
          go_roundw
          case rel => exact ⟨k + 1, Ao, R, co, rfl, by go_num, by omega, Lib.hid HT2.out.symm, R2⟩
          case measure => simp [intOf]; omega
        · have e2' : (xk != c.k) = true := by simpa using e2
          have HT2 : Hid ((L.take (k + 1)).filter (fun x => !Pm.own c x) = R ++ [(⟨xt, xk, xa, xb, xc⟩ : RowV)]) := Lib.hid (by rw [HTK.out, HOW.out, if_neg (by simp [e2])])
          have HCK : Hid (∀ W, Fr [] wr W → ∀ j, j < 5 → W.cell? ⟨bA, off + k * 5 + j, none⟩ = (RowV.cells ⟨xt, xk, xa, xb, xc⟩)[j]?) := Lib.hid (fun W hf j hj => (hf.rules.1 bA _ hbA).trans (hck.out j hj))
          clear e1 e2 HTK HOW
          clear hck
          go_wp2_with fail
          refine wp_region_later (by kernel_rfl) (by kernel_rfl) ?_
          repeat (go_big_quiet_step (fail))
          refine wpQuiet_nil ?_
          rintro w' ⟨⟨wz, fq⟩, rfl⟩
          have R2 := Lib.hid (RR.out.fr0 fq)
          have x0 := HCK.out w' fq 0 (by decide)
          have x1 := HCK.out w' fq 1 (by decide)
          have x2 := HCK.out w' fq 2 (by decide)
          have x3 := HCK.out w' fq 3 (by decide)
          have x4 := HCK.out w' fq 4 (by decide)
          have x0 : w'.cell? ⟨bA, off + k * 5, none⟩ = some (.int .i64 xt) := x0
          have x1 : w'.cell? ⟨bA, off + k * 5 + 1, none⟩ = some (.int .i64 xk) := x1
          have x2 : w'.cell? ⟨bA, off + k * 5 + 2, none⟩ = some (.int .i64 xa) := x2
          have x3 : w'.cell? ⟨bA, off + k * 5 + 3, none⟩ = some (.int .i64 xb) := x3
          have x4 : w'.cell? ⟨bA, off + k * 5 + 4, none⟩ = some (.int .i64 xc) := x4
          clear fq c0 c1 hbA RR HCK
          go_wp2_with (at_builtin; refine wpList_appendL rfl _ _ rfl TR RowV.cells_len RowV.cells_one rfl (R2.out.row.fr ((Fr.refl [] w').alloc (.cells #[.int .i64 xt, .int .i64 xk, .int .i64 xa, .int .i64 xb, .int .i64 xc] 57)) (by simp)) (w'.heap.size + 1) _ _ _ [(⟨xt, xk, xa, xb, xc⟩ : RowV)] rfl rfl (reads_new (enc := RowV.cells) w' 57 ⟨xt, xk, xa, xb, xc⟩ rfl) (Nat.le_trans (Nat.add_le_add_right HRL.out 1) (by decide)) (Nat.le_trans (Nat.mul_le_mul_right 40 (Nat.add_le_add_right HRL.out 1)) (by decide)) ?_; intro v5 w5 hrow5 (hg5 : World.grownBy _ w5 (Value.slice Ao R.length co).ownBlock) hat5; have HR5 := Lib.hid hrow5; have HG5 := Lib.hid hg5; have HA5 := Lib.hid hat5; obtain ⟨A5, n5, cap5, hv5, hn5⟩ : ∃ A n c, v5 = .slice A n c ∧ n = (R ++ [(⟨xt, xk, xa, xb, xc⟩ : RowV)]).length := (match hrow5.val with | ⟨_, _, hv⟩ => ⟨_, _, _, hv, rfl⟩); subst hv5; have HN5 := Lib.hid hn5; clear hrow5 hg5 hat5 hn5)
          have hf5 : Fr [] w w5 := (R2.out.fr.alloc (.cells #[.int .i64 xt, .int .i64 xk, .int .i64 xa, .int .i64 xb, .int .i64 xc] 57)).grown HG5.out (fun g hg => .inr (R2.out.own g hg))
          have R3 : Hid (RrRel w w5 w.heap.size (w.heap.size + 1) q c (.slice A5 n5 cap5) (R ++ [(⟨xt, xk, xa, xb, xc⟩ : RowV)])) := Lib.hid ⟨RtAt.grownS R2.out.at_ ((Fr.refl [] w').alloc (.cells #[.int .i64 xt, .int .i64 xk, .int .i64 xa, .int .i64 xb, .int .i64 xc] 57)) HG5.out R2.out.row (by decide) (by decide), HR5.out, hf5, fun g hg => by
            rcases HA5.out with h1 | h1
            · exact R2.out.own g (h1 ▸ hg)
            · rw [h1] at hg
              injection hg with hg
              rw [World.size_alloc] at hg
              have := R2.out.fr.size
              omega⟩
          clear hf5
          go_roundw
          case rel => exact ⟨k + 1, A5, R ++ [(⟨xt, xk, xa, xb, xc⟩ : RowV)], cap5, by rw [HN5.out], by go_num, by omega, Lib.hid HT2.out.symm, by rw [← HN5.out]; exact R3⟩
          case measure => simp [intOf]; omega
      · have e1' : (xt != c.t) = true := by simpa using e1
        have HT2 : Hid ((L.take (k + 1)).filter (fun x => !Pm.own c x) = R ++ [(⟨xt, xk, xa, xb, xc⟩ : RowV)]) := Lib.hid (by rw [HTK.out, HOW.out, if_neg (by simp [e1])])
        have HCK : Hid (∀ W, Fr [] wr W → ∀ j, j < 5 → W.cell? ⟨bA, off + k * 5 + j, none⟩ = (RowV.cells ⟨xt, xk, xa, xb, xc⟩)[j]?) := Lib.hid (fun W hf j hj => (hf.rules.1 bA _ hbA).trans (hck.out j hj))
        clear e1 HTK HOW
        clear hck
        go_wp2_with fail
        refine wp_region_later (by kernel_rfl) (by kernel_rfl) ?_
        repeat (go_big_quiet_step (fail))
        refine wpQuiet_nil ?_
        rintro w' ⟨⟨wz, fq⟩, rfl⟩
        have R2 := Lib.hid (RR.out.fr0 fq)
        have x0 := HCK.out w' fq 0 (by decide)
        have x1 := HCK.out w' fq 1 (by decide)
        have x2 := HCK.out w' fq 2 (by decide)
        have x3 := HCK.out w' fq 3 (by decide)
        have x4 := HCK.out w' fq 4 (by decide)
        have x0 : w'.cell? ⟨bA, off + k * 5, none⟩ = some (.int .i64 xt) := x0
        have x1 : w'.cell? ⟨bA, off + k * 5 + 1, none⟩ = some (.int .i64 xk) := x1
        have x2 : w'.cell? ⟨bA, off + k * 5 + 2, none⟩ = some (.int .i64 xa) := x2
        have x3 : w'.cell? ⟨bA, off + k * 5 + 3, none⟩ = some (.int .i64 xb) := x3
        have x4 : w'.cell? ⟨bA, off + k * 5 + 4, none⟩ = some (.int .i64 xc) := x4
        clear fq c0 c1 hbA RR HCK
        go_wp2_with (at_builtin; refine wpList_appendL rfl _ _ rfl TR RowV.cells_len RowV.cells_one rfl (R2.out.row.fr ((Fr.refl [] w').alloc (.cells #[.int .i64 xt, .int .i64 xk, .int .i64 xa, .int .i64 xb, .int .i64 xc] 57)) (by simp)) (w'.heap.size + 1) _ _ _ [(⟨xt, xk, xa, xb, xc⟩ : RowV)] rfl rfl (reads_new (enc := RowV.cells) w' 57 ⟨xt, xk, xa, xb, xc⟩ rfl) (Nat.le_trans (Nat.add_le_add_right HRL.out 1) (by decide)) (Nat.le_trans (Nat.mul_le_mul_right 40 (Nat.add_le_add_right HRL.out 1)) (by decide)) ?_; intro v5 w5 hrow5 (hg5 : World.grownBy _ w5 (Value.slice Ao R.length co).ownBlock) hat5; have HR5 := Lib.hid hrow5; have HG5 := Lib.hid hg5; have HA5 := Lib.hid hat5; obtain ⟨A5, n5, cap5, hv5, hn5⟩ : ∃ A n c, v5 = .slice A n c ∧ n = (R ++ [(⟨xt, xk, xa, xb, xc⟩ : RowV)]).length := (match hrow5.val with | ⟨_, _, hv⟩ => ⟨_, _, _, hv, rfl⟩); subst hv5; have HN5 := Lib.hid hn5; clear hrow5 hg5 hat5 hn5)
        have hf5 : Fr [] w w5 := (R2.out.fr.alloc (.cells #[.int .i64 xt, .int .i64 xk, .int .i64 xa, .int .i64 xb, .int .i64 xc] 57)).grown HG5.out (fun g hg => .inr (R2.out.own g hg))
        have R3 : Hid (RrRel w w5 w.heap.size (w.heap.size + 1) q c (.slice A5 n5 cap5) (R ++ [(⟨xt, xk, xa, xb, xc⟩ : RowV)])) := Lib.hid ⟨RtAt.grownS R2.out.at_ ((Fr.refl [] w').alloc (.cells #[.int .i64 xt, .int .i64 xk, .int .i64 xa, .int .i64 xb, .int .i64 xc] 57)) HG5.out R2.out.row (by decide) (by decide), HR5.out, hf5, fun g hg => by
          rcases HA5.out with h1 | h1
          · exact R2.out.own g (h1 ▸ hg)
          · rw [h1] at hg
            injection hg with hg
            rw [World.size_alloc] at hg
            have := R2.out.fr.size
            omega⟩
        clear hf5
        go_roundw
        case rel => exact ⟨k + 1, A5, R ++ [(⟨xt, xk, xa, xb, xc⟩ : RowV)], cap5, by rw [HN5.out], by go_num, by omega, Lib.hid HT2.out.symm, by rw [← HN5.out]; exact R3⟩
        case measure => simp [intOf]; omega
    · have hke : L.take k = L := List.take_of_length_le (by have := HN.out; omega)
      rw [hke] at HRK
      have HRL : Hid (R.length ≤ 50000) := Lib.hid (by
        rw [HRK.out]
        have h1 := List.length_filter_le (fun x => !Pm.own c x) L
        have := HLB.out
        omega)
      clear hke HN HX
      have HC := Lib.hid (fun W => rhas_row c W)
      have hc := RR.out.at_.c
      go_upto_region 8 with (first
        | (refine wpList_load_row rfl _ _ rfl (w.heap.size + 1) rfl 30 _ (0, 0) _ hc Try.underlying30 rfl (by kernel_rfl) ?_)
        | (go_at_call 22; refine (HC.out _).mono ?_; rintro e w4 ⟨rfl, f3⟩; have F3 := Lib.hid f3; clear f3))
      clear hc HC
      have f5 := F3.out.alloc (.cells #[.int .i64 (Pm.rowA c).t, .int .i64 (Pm.rowA c).k, .int .i64 (Pm.rowA c).x, .int .i64 (Pm.rowA c).y, .int .i64 (Pm.rowA c).z] 57)
      have BA := Lib.hid (Blk.new w4 57 #[.int .i64 (Pm.rowA c).t, .int .i64 (Pm.rowA c).k, .int .i64 (Pm.rowA c).x, .int .i64 (Pm.rowA c).y, .int .i64 (Pm.rowA c).z])
      replace RR := Lib.hid (RR.out.fr0 f5)
      clear f5 F3
      generalize hw5 : w4.alloc (.cells #[.int .i64 (Pm.rowA c).t, .int .i64 (Pm.rowA c).k, .int .i64 (Pm.rowA c).x, .int .i64 (Pm.rowA c).y, .int .i64 (Pm.rowA c).z] 57) = w5 at *
      clear hw5
      generalize w4.heap.size = ga at *
      have HC := Lib.hid (fun W => rin_any q (Pm.rowA c) c.has W)
      rw [Pm.inA] at HC
      have hr := BA.out
      have hq : Blk w5 w.heap.size 24 #[.int .i64 q.kind, .int .i64 q.table, .int .i64 q.column, .int .i64 q.low, .int .i64 q.high, .int .i64 q.by_, .int .i64 q.other] := RR.out.at_.q
      go_upto_region 9 with (first
        | (refine wpList_load_row rfl _ _ rfl w.heap.size rfl 24 _ (0, 0) _ hq Try.underlying24 rfl (by kernel_rfl) ?_)
        | (refine wpList_load_row rfl _ _ rfl ga rfl 57 _ (0, 0) _ hr Try.underlying57 rfl (by kernel_rfl) ?_)
        | (go_at_call 31; refine (HC.out _).mono ?_; rintro e w6 ⟨rfl, f3⟩; have F3 := Lib.hid f3; clear f3))
      clear hr hq HC
      replace RR := Lib.hid (RR.out.fr0 F3.out)
      replace BA := Lib.hid (BA.out.fr F3.out (by simp))
      clear F3
      cases hA : Pm.A q c with
      | none =>
        have HRO : Hid (Pm.rows q L c = R) := Lib.hid (by unfold Pm.rows; rw [hA, HRK.out])
        clear hA
        go_wp2_with fail
        go_ret
        exact ⟨_, rfl, by rw [HRO.out]; exact RR.out.row, RR.out.fr, RR.out.own⟩
      | some a =>
        obtain rfl := Pm.A_some hA
        have HRO : Hid (Pm.rows q L c = Pm.ins (Pm.behind q (Pm.rowA c)) (Pm.rowA c) R) := Lib.hid (by unfold Pm.rows; rw [hA, HRK.out])
        clear hA HRK
        generalize Pm.rowA c = y at *
        have HBE := Lib.hid (fun x W => rbefore_any q y x W)
        go_upto_block 2 with (fail)
        go_cut [12] (fun kv wn => ∃ j : Nat, kv = .int .i64 j ∧ j ≤ R.length ∧ Hid (∀ i (h : i < R.length), i < j → Pm.behind q y R[i] = false) ∧ Hid (∀ h : j < R.length, Pm.behind q y R[j] = true) ∧ Hid (RrRel w wn w.heap.size (w.heap.size + 1) q c (.slice Ao R.length co) R) ∧ Hid (Blk wn ga 57 #[.int .i64 y.t, .int .i64 y.k, .int .i64 y.x, .int .i64 y.y, .int .i64 y.z]))
        case first =>
          go_wp2_with fail
          go_loopw [12] (fun kv wr => ∃ j : Nat, kv = .int .i64 j ∧ j ≤ R.length ∧ Hid (∀ i (h : i < R.length), i < j → Pm.behind q y R[i] = false) ∧ Hid (RrRel w wr w.heap.size (w.heap.size + 1) q c (.slice Ao R.length co) R) ∧ Hid (Blk wr ga 57 #[.int .i64 y.t, .int .i64 y.k, .int .i64 y.x, .int .i64 y.y, .int .i64 y.z])) (fun kv _ => R.length - (intOf kv).toNat)
          case atStart => exact ⟨0, rfl, Nat.zero_le _, Lib.hid (fun i _ h => absurd h (by omega)), RR, BA⟩
          case round =>
            clear RR BA
            obtain ⟨j, rfl, hj, HB, RR, BA⟩ := hrel
            have hrb : R.length ≤ 9223372036854775807 := by have := HRL.out; omega
            by_cases hlt2 : j < R.length
            · obtain ⟨gR, cap', hA, hlc, hcm, hgl, hcell, hfz⟩ := RR.out.row.form RowV.cells_len (by omega)
              cases hA
              have hck := Lib.hid (fun i (hi : i < 5) => hcell j hlt2 i hi)
              have HBJ := Lib.hid (fun W => HBE.out R[j] W)
              have HEX : Hid (∀ h : j < R.length, ∀ b, Pm.behind q y R[j] = b → Pm.behind q y R[j] = b) := Lib.hid (fun _ _ h => h)
              obtain ⟨x, HXJ⟩ : ∃ x, Hid (R[j] = x) := ⟨_, Lib.hid rfl⟩
              rw [HXJ.out] at HBJ hck
              obtain ⟨be, HBB⟩ : ∃ b, Hid (Pm.behind q y x = b) := ⟨_, Lib.hid rfl⟩
              rw [HBB.out] at HBJ
              clear hcell hfz HEX
              have q0 : ∀ p : Later wr, p.w.cell? ⟨w.heap.size, 0, none⟩ = some (.int .i64 q.kind) := fun p => p.cell RR.out.at_.q.lt RR.out.at_.q.c0
              have q1 : ∀ p : Later wr, p.w.cell? ⟨w.heap.size, 1, none⟩ = some (.int .i64 q.table) := fun p => p.cell RR.out.at_.q.lt RR.out.at_.q.c1
              have q2 : ∀ p : Later wr, p.w.cell? ⟨w.heap.size, 2, none⟩ = some (.int .i64 q.column) := fun p => p.cell RR.out.at_.q.lt RR.out.at_.q.c2
              have q3 : ∀ p : Later wr, p.w.cell? ⟨w.heap.size, 3, none⟩ = some (.int .i64 q.low) := fun p => p.cell RR.out.at_.q.lt RR.out.at_.q.c3
              have q4 : ∀ p : Later wr, p.w.cell? ⟨w.heap.size, 4, none⟩ = some (.int .i64 q.high) := fun p => p.cell RR.out.at_.q.lt RR.out.at_.q.c4
              have q5 : ∀ p : Later wr, p.w.cell? ⟨w.heap.size, 5, none⟩ = some (.int .i64 q.by_) := fun p => p.cell RR.out.at_.q.lt RR.out.at_.q.c5
              have q6 : ∀ p : Later wr, p.w.cell? ⟨w.heap.size, 6, none⟩ = some (.int .i64 q.other) := fun p => p.cell RR.out.at_.q.lt RR.out.at_.q.c6
              have y0 : ∀ p : Later wr, p.w.cell? ⟨ga, 0, none⟩ = some (.int .i64 y.t) := fun p => p.cell BA.out.lt (BA.out.cell 0)
              have x0 : ∀ p : Later wr, p.w.cell? ⟨gR, j * 5, none⟩ = some (.int .i64 x.t) := fun p => p.cell hgl (hck.out 0 (by decide))
              have y1 : ∀ p : Later wr, p.w.cell? ⟨ga, 1, none⟩ = some (.int .i64 y.k) := fun p => p.cell BA.out.lt (BA.out.cell 1)
              have x1 : ∀ p : Later wr, p.w.cell? ⟨gR, j * 5 + 1, none⟩ = some (.int .i64 x.k) := fun p => p.cell hgl (hck.out 1 (by decide))
              have y2 : ∀ p : Later wr, p.w.cell? ⟨ga, 2, none⟩ = some (.int .i64 y.x) := fun p => p.cell BA.out.lt (BA.out.cell 2)
              have x2 : ∀ p : Later wr, p.w.cell? ⟨gR, j * 5 + 2, none⟩ = some (.int .i64 x.x) := fun p => p.cell hgl (hck.out 2 (by decide))
              have y3 : ∀ p : Later wr, p.w.cell? ⟨ga, 3, none⟩ = some (.int .i64 y.y) := fun p => p.cell BA.out.lt (BA.out.cell 3)
              have x3 : ∀ p : Later wr, p.w.cell? ⟨gR, j * 5 + 3, none⟩ = some (.int .i64 x.y) := fun p => p.cell hgl (hck.out 3 (by decide))
              have y4 : ∀ p : Later wr, p.w.cell? ⟨ga, 4, none⟩ = some (.int .i64 y.z) := fun p => p.cell BA.out.lt (BA.out.cell 4)
              have x4 : ∀ p : Later wr, p.w.cell? ⟨gR, j * 5 + 4, none⟩ = some (.int .i64 x.z) := fun p => p.cell hgl (hck.out 4 (by decide))
              clear hck
              go_wp2_with fail
              refine wp_region_later (by kernel_rfl) (by kernel_rfl) ?_
              repeat (go_big_quiet_step (exact Later.calls (HBJ.out _)))
              refine wpQuiet_nil ?_
              rintro w' ⟨⟨wz, fq⟩, rfl⟩
              have R2 := Lib.hid (RR.out.fr0 fq)
              have BA2 := Lib.hid (BA.out.fr fq (by simp))
              clear fq RR BA HBJ hgl q0 q1 q2 q3 q4 q5 q6 y0 x0 y1 x1 y2 x2 y3 x3 y4 x4
              cases be
              · go_wp2_with fail
                go_roundw
                case rel => exact ⟨j + 1, by go_num, by omega, Lib.hid (fun i hi hij => by
                  rcases Nat.lt_or_ge i j with h1 | h1
                  · exact HB.out i hi h1
                  · obtain rfl : i = j := by omega
                    rw [HXJ.out]
                    exact HBB.out), R2, BA2⟩
                case measure => simp [intOf]; omega
              · go_wp2_with fail
                go_meet
                case rel => exact ⟨j, rfl, hj, HB, Lib.hid (fun h => by rw [HXJ.out]; exact HBB.out), R2, BA2⟩
            · go_wp2_with fail
              go_meet
              case rel => exact ⟨j, rfl, hj, HB, Lib.hid (fun h => absurd h hlt2), RR, BA⟩
        case rest =>
          clear RR BA HBE
          obtain ⟨j, rfl, hj, HB, HJ, RR, BA⟩ := hcut
          have HIN : Hid (Pm.rows q L c = (R.take j ++ [y]) ++ R.drop j) := Lib.hid (by rw [HRO.out]; exact Pm.ins_at2 hj HB.out HJ.out)
          have FR := Lib.hid RR.out.fr
          have HROW := Lib.hid RR.out.row
          have hcb : co ≤ 9223372036854775807 := by
            rcases HROW.out.2 with ⟨hv, _⟩ | ⟨g, c', cur, hv, _, _, _, hcm, _⟩
            · injection hv with _ _ h3
              omega
            · injection hv with _ _ h3
              unfold maxLen at hcm
              omega
          clear HB HJ HRO RR
          obtain ⟨yt, yk, ya, yb, yc⟩ := y
          dsimp only at BA
          rcases Nat.eq_zero_or_pos j with hj0 | hj0
          · subst hj0
            go_wp2_with fail
            have hrow3 := HROW
            have hrd3 := Lib.hid ((hrow3.out).reads rfl)
            have hcap3 : R.length ≤ co := own_cap2 hrow3.out
            have hjco : 0 ≤ co := by omega
            have y00 : wc.cell? ⟨ga, 0, none⟩ = some (.int .i64 yt) := BA.out.cell 0
            have y01 : wc.cell? ⟨ga, 1, none⟩ = some (.int .i64 yk) := BA.out.cell 1
            have y02 : wc.cell? ⟨ga, 2, none⟩ = some (.int .i64 ya) := BA.out.cell 2
            have y03 : wc.cell? ⟨ga, 3, none⟩ = some (.int .i64 yb) := BA.out.cell 3
            have y04 : wc.cell? ⟨ga, 4, none⟩ = some (.int .i64 yc) := BA.out.cell 4
            have hlt0 := BA.out.lt
            have hsz : Hid (w.heap.size ≤ wc.heap.size) := Lib.hid FR.out.size
            have hb1 : Hid ([(⟨yt, yk, ya, yb, yc⟩ : RowV)].length + R.length ≤ 60000) := Lib.hid (by have := HRL.out; simp only [List.length_append, List.length_take, List.length_cons, List.length_singleton, List.length_drop, List.length_nil]; omega)
            have hb2 : Hid ((R.take 0).length + ([(⟨yt, yk, ya, yb, yc⟩ : RowV)] ++ R).length ≤ 60000) := Lib.hid (by have := HRL.out; simp only [List.length_append, List.length_take, List.length_cons, List.length_singleton, List.length_drop, List.length_nil]; omega)
            have hmx : Hid ((60000 : Nat) ≤ maxLen) := Lib.hid (by decide)
            first
              | go_region_law (first
                | (refine step_appendL rfl _ _ rfl TR RowV.cells_len RowV.cells_one rfl (own_new _ (⟨yt, yk, ya, yb, yc⟩ : RowV) RowV.cells_len) _ _ _ _ R rfl rfl (hrd3.out.alloc (Nat.le_refl _) _) (Nat.le_trans hb1.out hmx.out) (Nat.le_trans (Nat.mul_le_mul_right 40 hb1.out) (by decide)) ?_; intro v1 w1' hrow1' hg1 hat1; have hrow1 := Lib.hid hrow1'; have HG1 := Lib.hid hg1; have HA1 := Lib.hid hat1; obtain ⟨A1, n1, cap1, hv1, hn1, hrd1, hn1p⟩ := own_open hrow1' (by simp only [List.length_append, List.length_cons]; omega); subst hv1; have HN1 := Lib.hid hn1; have HRD1 := Lib.hid hrd1; clear hrow1' hg1 hat1 hn1 hrd1)
                | (refine step_append_fullL rfl _ _ rfl TR RowV.cells_one 0 _ _ _ rfl (L := R.take 0) rfl Reads.none_ (Nat.le_refl _) _ _ _ _ (N := [(⟨yt, yk, ya, yb, yc⟩ : RowV)] ++ R) rfl HN1.out hn1p HRD1.out (Nat.le_trans hb2.out hmx.out) (Nat.le_trans (Nat.mul_le_mul_right 40 hb2.out) (by decide)) ?_; intro v2 w2' hrow2' hg2 hat2; have HR2 := Lib.hid hrow2'; have HG2 := Lib.hid hg2; have HA2 := Lib.hid hat2; obtain ⟨A2, n2, cap2, hv2, hn2, hrd2, hn2p⟩ := own_open hrow2' (by simp only [List.length_append, List.length_cons]; omega); subst hv2; have HN2 := Lib.hid hn2; clear hrow2' hg2 hat2 hn2 hrd2))
              | fail "law"
            all_goals
              have HRn : Hid ((R.take 0) ++ ([(⟨yt, yk, ya, yb, yc⟩ : RowV)] ++ R) = ((R.take 0 ++ [(⟨yt, yk, ya, yb, yc⟩ : RowV)]) ++ R.drop 0)) := Lib.hid (by simp)
              have HFN : Hid (Fr [] w w2') := Lib.hid (((((FR.out).drew).alloc (.cells #[.int .i64 yt, .int .i64 yk, .int .i64 ya, .int .i64 yb, .int .i64 yc] 57)).grown HG1.out (fun g hg => .inr (by
                have h1 := hsz.out
                have h5 : wc.heap.size = g := Option.some.inj hg
                omega))).grown HG2.out (fun g hg => by cases hg))
              have HNW : Hid (∀ g, (Value.slice A2 n2 cap2).ownBlock = some g → w.heap.size ≤ g) := Lib.hid (fun g hg => by
                have h1 := HA2.out
                rw [hg] at h1
                injection h1 with h1
                have h2 := HG1.out.size
                have h3 := hsz.out
                simp at h2
                omega)
              go_wp2_with fail
              all_goals (go_ret; exact ⟨_, rfl, by rw [HIN.out, ← HRn.out]; exact HR2.out, HFN.out, HNW.out⟩)
          · obtain ⟨gO, capO, hAO, _, _, _, _, _⟩ := HROW.out.form RowV.cells_len (by omega)
            cases hAO
            by_cases hjR : j < R.length
            · go_wp2_with fail
              have hrow3 := HROW
              have hrd3 := Lib.hid ((hrow3.out).reads rfl)
              have hcap3 : R.length ≤ co := own_cap2 hrow3.out
              have hjco : j ≤ co := by omega
              have y00 : wc.cell? ⟨ga, 0, none⟩ = some (.int .i64 yt) := BA.out.cell 0
              have y01 : wc.cell? ⟨ga, 1, none⟩ = some (.int .i64 yk) := BA.out.cell 1
              have y02 : wc.cell? ⟨ga, 2, none⟩ = some (.int .i64 ya) := BA.out.cell 2
              have y03 : wc.cell? ⟨ga, 3, none⟩ = some (.int .i64 yb) := BA.out.cell 3
              have y04 : wc.cell? ⟨ga, 4, none⟩ = some (.int .i64 yc) := BA.out.cell 4
              have hlt0 := BA.out.lt
              have hsz : Hid (w.heap.size ≤ wc.heap.size) := Lib.hid FR.out.size
              have hjl : Hid ((R.take j).length = j) := Lib.hid (by rw [List.length_take]; omega)
              have htk3 := Lib.hid (hrd3.out.takeL RowV.cells_len (k := j) (by omega))
              have hcne : ¬ co = j := by omega
              have hdr3 := Lib.hid (hrd3.out.from_ RowV.cells_len (k := j) (off := j * 5) (by omega) rfl)
              have hdl3 : Hid (R.length - j = (R.drop j).length) := Lib.hid (by rw [List.length_drop])
              have hb1 : Hid ([(⟨yt, yk, ya, yb, yc⟩ : RowV)].length + (R.drop j).length ≤ 60000) := Lib.hid (by have := HRL.out; simp only [List.length_append, List.length_take, List.length_cons, List.length_singleton, List.length_drop, List.length_nil]; omega)
              have hb2 : Hid ((R.take j).length + ([(⟨yt, yk, ya, yb, yc⟩ : RowV)] ++ (R.drop j)).length ≤ 60000) := Lib.hid (by have := HRL.out; simp only [List.length_append, List.length_take, List.length_cons, List.length_singleton, List.length_drop, List.length_nil]; omega)
              have hmx : Hid ((60000 : Nat) ≤ maxLen) := Lib.hid (by decide)
              have hdrop : Hid ((R.drop j) = R.drop j) := Lib.hid (rfl)
              first
                | go_region_law (first
                  | (refine step_appendL rfl _ _ rfl TR RowV.cells_len RowV.cells_one rfl (own_new _ (⟨yt, yk, ya, yb, yc⟩ : RowV) RowV.cells_len) _ _ _ _ (R.drop j) rfl hdl3.out (hdr3.out.alloc (Nat.le_refl _) _) (Nat.le_trans hb1.out hmx.out) (Nat.le_trans (Nat.mul_le_mul_right 40 hb1.out) (by decide)) ?_; intro v1 w1' hrow1' hg1 hat1; have htk1 := Lib.hid ((htk3.out.drew.alloc (Nat.le_refl _) (.cells #[.int .i64 yt, .int .i64 yk, .int .i64 ya, .int .i64 yb, .int .i64 yc] 57)).grown hg1 (by rw [World.size_alloc]; exact Nat.le_succ _) (fun g hg => Nat.le_of_eq (Option.some.inj hg))); have hrow1 := Lib.hid hrow1'; have HG1 := Lib.hid hg1; have HA1 := Lib.hid hat1; obtain ⟨A1, n1, cap1, hv1, hn1, hrd1, hn1p⟩ := own_open hrow1' (by simp only [List.length_append, List.length_cons]; omega); subst hv1; have HN1 := Lib.hid hn1; have HRD1 := Lib.hid hrd1; clear hrow1' hg1 hat1 hn1 hrd1)
                  | (refine step_append_fullL rfl _ _ rfl TR RowV.cells_one _ _ _ _ rfl (L := R.take j) hjl.out.symm htk1.out (Nat.le_refl _) _ _ _ _ (N := [(⟨yt, yk, ya, yb, yc⟩ : RowV)] ++ (R.drop j)) rfl HN1.out hn1p HRD1.out (Nat.le_trans hb2.out hmx.out) (Nat.le_trans (Nat.mul_le_mul_right 40 hb2.out) (by decide)) ?_; intro v2 w2' hrow2' hg2 hat2; have HR2 := Lib.hid hrow2'; have HG2 := Lib.hid hg2; have HA2 := Lib.hid hat2; obtain ⟨A2, n2, cap2, hv2, hn2, hrd2, hn2p⟩ := own_open hrow2' (by simp only [List.length_append, List.length_cons]; omega); subst hv2; have HN2 := Lib.hid hn2; clear hrow2' hg2 hat2 hn2 hrd2))
                | fail "law"
              all_goals
                have HRn : Hid ((R.take j) ++ ([(⟨yt, yk, ya, yb, yc⟩ : RowV)] ++ (R.drop j)) = ((R.take j ++ [(⟨yt, yk, ya, yb, yc⟩ : RowV)]) ++ R.drop j)) := Lib.hid (by rw [List.append_assoc])
                have HFN : Hid (Fr [] w w2') := Lib.hid (((((FR.out).drew).alloc (.cells #[.int .i64 yt, .int .i64 yk, .int .i64 ya, .int .i64 yb, .int .i64 yc] 57)).grown HG1.out (fun g hg => .inr (by
                  have h1 := hsz.out
                  have h5 : wc.heap.size = g := Option.some.inj hg
                  omega))).grown HG2.out (fun g hg => by cases hg))
                have HNW : Hid (∀ g, (Value.slice A2 n2 cap2).ownBlock = some g → w.heap.size ≤ g) := Lib.hid (fun g hg => by
                  have h1 := HA2.out
                  rw [hg] at h1
                  injection h1 with h1
                  have h2 := HG1.out.size
                  have h3 := hsz.out
                  simp at h2
                  omega)
                go_wp2_with fail
                all_goals (go_ret; exact ⟨_, rfl, by rw [HIN.out, ← HRn.out]; exact HR2.out, HFN.out, HNW.out⟩)
            · go_wp2_with fail
              have hrow3 := HROW
              have hrd3 := Lib.hid ((hrow3.out).reads rfl)
              have hcap3 : R.length ≤ co := own_cap2 hrow3.out
              have hjco : j ≤ co := by omega
              have y00 : wc.cell? ⟨ga, 0, none⟩ = some (.int .i64 yt) := BA.out.cell 0
              have y01 : wc.cell? ⟨ga, 1, none⟩ = some (.int .i64 yk) := BA.out.cell 1
              have y02 : wc.cell? ⟨ga, 2, none⟩ = some (.int .i64 ya) := BA.out.cell 2
              have y03 : wc.cell? ⟨ga, 3, none⟩ = some (.int .i64 yb) := BA.out.cell 3
              have y04 : wc.cell? ⟨ga, 4, none⟩ = some (.int .i64 yc) := BA.out.cell 4
              have hlt0 := BA.out.lt
              have hsz : Hid (w.heap.size ≤ wc.heap.size) := Lib.hid FR.out.size
              have hjl : Hid ((R.take j).length = j) := Lib.hid (by rw [List.length_take]; omega)
              have htk3 := Lib.hid (hrd3.out.takeL RowV.cells_len (k := j) (by omega))
              have hdl3 : Hid (R.length - j = ([] : List RowV).length) := Lib.hid (by simp; omega)
              have hb1 : Hid ([(⟨yt, yk, ya, yb, yc⟩ : RowV)].length + ([] : List RowV).length ≤ 60000) := Lib.hid (by have := HRL.out; simp only [List.length_append, List.length_take, List.length_cons, List.length_singleton, List.length_drop, List.length_nil]; omega)
              have hb2 : Hid ((R.take j).length + ([(⟨yt, yk, ya, yb, yc⟩ : RowV)] ++ ([] : List RowV)).length ≤ 60000) := Lib.hid (by have := HRL.out; simp only [List.length_append, List.length_take, List.length_cons, List.length_singleton, List.length_drop, List.length_nil]; omega)
              have hmx : Hid ((60000 : Nat) ≤ maxLen) := Lib.hid (by decide)
              have hdrop : Hid (([] : List RowV) = R.drop j) := Lib.hid ((List.drop_eq_nil_of_le (by omega)).symm)
              first
                | go_region_law (first
                  | (refine step_appendL rfl _ _ rfl TR RowV.cells_len RowV.cells_one rfl (own_new _ (⟨yt, yk, ya, yb, yc⟩ : RowV) RowV.cells_len) 0 _ _ _ ([] : List RowV) rfl hdl3.out (reads_none hdl3.out) (Nat.le_trans hb1.out hmx.out) (Nat.le_trans (Nat.mul_le_mul_right 40 hb1.out) (by decide)) ?_; intro v1 w1' hrow1' hg1 hat1; have htk1 := Lib.hid ((htk3.out.drew.alloc (Nat.le_refl _) (.cells #[.int .i64 yt, .int .i64 yk, .int .i64 ya, .int .i64 yb, .int .i64 yc] 57)).grown hg1 (by rw [World.size_alloc]; exact Nat.le_succ _) (fun g hg => Nat.le_of_eq (Option.some.inj hg))); have hrow1 := Lib.hid hrow1'; have HG1 := Lib.hid hg1; have HA1 := Lib.hid hat1; obtain ⟨A1, n1, cap1, hv1, hn1, hrd1, hn1p⟩ := own_open hrow1' (by simp only [List.length_append, List.length_cons]; omega); subst hv1; have HN1 := Lib.hid hn1; have HRD1 := Lib.hid hrd1; clear hrow1' hg1 hat1 hn1 hrd1)
                  | (refine step_append_fullL rfl _ _ rfl TR RowV.cells_one _ _ _ _ rfl (L := R.take j) hjl.out.symm htk1.out (Nat.le_refl _) _ _ _ _ (N := [(⟨yt, yk, ya, yb, yc⟩ : RowV)] ++ ([] : List RowV)) rfl HN1.out hn1p HRD1.out (Nat.le_trans hb2.out hmx.out) (Nat.le_trans (Nat.mul_le_mul_right 40 hb2.out) (by decide)) ?_; intro v2 w2' hrow2' hg2 hat2; have HR2 := Lib.hid hrow2'; have HG2 := Lib.hid hg2; have HA2 := Lib.hid hat2; obtain ⟨A2, n2, cap2, hv2, hn2, hrd2, hn2p⟩ := own_open hrow2' (by simp only [List.length_append, List.length_cons]; omega); subst hv2; have HN2 := Lib.hid hn2; clear hrow2' hg2 hat2 hn2 hrd2))
                | fail "law"
              all_goals
                have HRn : Hid ((R.take j) ++ ([(⟨yt, yk, ya, yb, yc⟩ : RowV)] ++ ([] : List RowV)) = ((R.take j ++ [(⟨yt, yk, ya, yb, yc⟩ : RowV)]) ++ R.drop j)) := Lib.hid (by rw [← hdrop.out, List.append_assoc])
                have HFN : Hid (Fr [] w w2') := Lib.hid (((((FR.out).drew).alloc (.cells #[.int .i64 yt, .int .i64 yk, .int .i64 ya, .int .i64 yb, .int .i64 yc] 57)).grown HG1.out (fun g hg => .inr (by
                  have h1 := hsz.out
                  have h5 : wc.heap.size = g := Option.some.inj hg
                  omega))).grown HG2.out (fun g hg => by cases hg))
                have HNW : Hid (∀ g, (Value.slice A2 n2 cap2).ownBlock = some g → w.heap.size ≤ g) := Lib.hid (fun g hg => by
                  have h1 := HA2.out
                  rw [hg] at h1
                  injection h1 with h1
                  have h2 := HG1.out.size
                  have h3 := hsz.out
                  simp at h2
                  omega)
                go_wp2_with fail
                all_goals (go_ret; exact ⟨_, rfl, by rw [HIN.out, ← HRn.out]; exact HR2.out, HFN.out, HNW.out⟩)
end Go.Proofs.Ytjiikpmkedkbkaa

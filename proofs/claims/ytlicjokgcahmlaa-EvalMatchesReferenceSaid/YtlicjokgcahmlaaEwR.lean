/-
  The reference's Of.
-/
import Derived.Test.YtlicjokgcahmlaaEwQ
import Derived.Test.YtlicjokgcahmlaaRfG
import Derived.Test.YtlicjokgcahmlaaRfE
import Derived.Test.YtlicjokgcahmlaaRfH
namespace Go.Proofs.Ytlicjokgcahmlaa
open Go.RowKit

set_option maxRecDepth 100000 in
set_option maxHeartbeats 4000000 in
theorem rof_any (bs : Nat) (vl : Value) (LL : List RowV) (s : Sm.Sta) (q : Qry) (w : World) (h : RfAt w bs vl LL s) (hs : Sm.Sound s) :
    Calls Try.prog 23 #[.pointer (some ⟨bs, 0, none⟩), q.val] w fun e w' => ∃ v, e = .returned (.tuple #[.agg #[v, .int .i64 (Em.of s q).value, .bool (Em.of s q).found], .int .i64 (Em.code q)]) ∧ ResO w w' v (Em.of s q).rows := by
  have H := Lib.hid h
  have HSN := Lib.hid hs
  clear h hs
  have R0 := Lib.hid (FrRel.new w q)
  obtain ⟨k, t, c, lo, hi, b, o⟩ := q
  unfold Qry.val
  dsimp only at *
  go_enter Try.func23, Try.ntmps23
  go_upto_region 1 with (fail)
  generalize (w.alloc (.cells #[.int .i64 k, .int .i64 t, .int .i64 c, .int .i64 lo, .int .i64 hi, .int .i64 b, .int .i64 o] 23)).alloc (.cells #[.slice none 0 0, .int .i64 0, .bool false] 27) = w2 at *
  have c0 : w2.cell? ⟨w.heap.size, 0, none⟩ = some (.int .i64 k) := R0.out.box.c0
  have c1 : w2.cell? ⟨w.heap.size, 1, none⟩ = some (.int .i64 t) := R0.out.box.c1
  have c2 : w2.cell? ⟨w.heap.size, 2, none⟩ = some (.int .i64 c) := R0.out.box.c2
  have c3 : w2.cell? ⟨w.heap.size, 3, none⟩ = some (.int .i64 lo) := R0.out.box.c3
  have c4 : w2.cell? ⟨w.heap.size, 4, none⟩ = some (.int .i64 hi) := R0.out.box.c4
  have c5 : w2.cell? ⟨w.heap.size, 5, none⟩ = some (.int .i64 b) := R0.out.box.c5
  have c6 : w2.cell? ⟨w.heap.size, 6, none⟩ = some (.int .i64 o) := R0.out.box.c6
  have HQV := Lib.hid (rvalid_any ⟨k, t, c, lo, hi, b, o⟩ w2)
  cases hv : Em.valid ⟨k, t, c, lo, hi, b, o⟩
  · rw [hv] at HQV
    go_upto_region 2 with (go_at_call 30; refine HQV.out.mono ?_; rintro e w3 ⟨rfl, f3⟩; have R3 := Lib.hid (R0.out.fr0 f3); clear f3)
    have z0 := R3.out.res.z 0
    have z1 := R3.out.res.z 1
    have z2 := R3.out.res.z 2
    have y0 := R3.out.res.c0
    have y1 := R3.out.res.c1
    have y2 := R3.out.res.c2
    clear HQV R0 c0 c1 c2 c3 c4 c5 c6
    go_wp2_with fail
    obtain ⟨w4, e4, q0, q1, q2, f4, -⟩ := R3.out.fin (.slice none 0 0) 0 false
    rw [e4]
    have e1 : Em.of s ⟨k, t, c, lo, hi, b, o⟩ = ⟨[], 0, false⟩ := Em.res_bad hv
    have e2 : Em.code ⟨k, t, c, lo, hi, b, o⟩ = 50 := by unfold Em.code; rw [hv]; rfl
    exact bodyPost_ret (v := .tuple #[.agg #[.slice none 0 0, .int .i64 0, .bool false], .int .i64 50]) (by simp [results, Try.results23, go_sem, q0, q1, q2]) rfl ⟨_, by rw [e1, e2], by rw [e1]; exact ⟨OwnL.nil, f4, by simp [Value.ownBlock]⟩⟩
  rw [hv] at HQV
  have HVV := Lib.hid hv
  have hvb := Em.valid_base' hv
  dsimp only at hvb
  have HB := Lib.hid hvb
  clear hv hvb
  go_upto_region 3 with (go_at_call 30; refine HQV.out.mono ?_; rintro e w3 ⟨rfl, f3⟩; have R3 := Lib.hid (R0.out.fr0 f3); clear f3)
  clear HQV R0 c0 c1 c2 c3 c4 c5 c6
  have Rd := Lib.hid (R3.out.fr0 (Fr.refl [] w3).drew)
  have c0 : w3.cell? ⟨w.heap.size, 0, none⟩ = some (.int .i64 k) := R3.out.box.c0
  have c1 : w3.cell? ⟨w.heap.size, 1, none⟩ = some (.int .i64 t) := R3.out.box.c1
  have c2 : w3.cell? ⟨w.heap.size, 2, none⟩ = some (.int .i64 c) := R3.out.box.c2
  have c3 : w3.cell? ⟨w.heap.size, 3, none⟩ = some (.int .i64 lo) := R3.out.box.c3
  have c4 : w3.cell? ⟨w.heap.size, 4, none⟩ = some (.int .i64 hi) := R3.out.box.c4
  have c5 : w3.cell? ⟨w.heap.size, 5, none⟩ = some (.int .i64 b) := R3.out.box.c5
  have c6 : w3.cell? ⟨w.heap.size, 6, none⟩ = some (.int .i64 o) := R3.out.box.c6
  obtain ⟨⟨vr, vn, vf⟩, HRES⟩ : ∃ r, Hid (Em.of s ⟨k, t, c, lo, hi, b, o⟩ = r) := ⟨_, Lib.hid rfl⟩
  go_region_held3 (fun w' => w'.cell? ⟨w.heap.size, 0, none⟩ = some (.int .i64 k) ∧ w'.cell? ⟨w.heap.size, 1, none⟩ = some (.int .i64 t) ∧ w'.cell? ⟨w.heap.size, 2, none⟩ = some (.int .i64 c) ∧ w'.cell? ⟨w.heap.size, 3, none⟩ = some (.int .i64 lo) ∧ w'.cell? ⟨w.heap.size, 4, none⟩ = some (.int .i64 hi) ∧ w'.cell? ⟨w.heap.size, 5, none⟩ = some (.int .i64 b) ∧ w'.cell? ⟨w.heap.size, 6, none⟩ = some (.int .i64 o))
    (first | exact ⟨Rd.out.box.c0, Rd.out.box.c1, Rd.out.box.c2, Rd.out.box.c3, Rd.out.box.c4, Rd.out.box.c5, Rd.out.box.c6⟩ | exact ⟨R5.out.box.c0, R5.out.box.c1, R5.out.box.c2, R5.out.box.c3, R5.out.box.c4, R5.out.box.c5, R5.out.box.c6⟩ | exact ⟨R6.out.box.c0, R6.out.box.c1, R6.out.box.c2, R6.out.box.c3, R6.out.box.c4, R6.out.box.c5, R6.out.box.c6⟩ | exact ⟨R7.out.box.c0, R7.out.box.c1, R7.out.box.c2, R7.out.box.c3, R7.out.box.c4, R7.out.box.c5, R7.out.box.c6⟩ | exact ⟨S8.out.c0, S8.out.c1, S8.out.c2, S8.out.c3, S8.out.c4, S8.out.c5, S8.out.c6⟩)
    (first
      | (go_at_call 56; refine (rfrange_any bs vl LL s t c lo hi _ (H.out.fr0 Rd.out.fr) HB.out.2.1.1 (by have := HB.out.2.1.2; omega)).mono ?_; rintro e w5 ⟨v5, L5, rfl, ho5, hp5, f5, -⟩; obtain ⟨A5, n5, k5, hv5⟩ : ∃ A n c, v5 = .slice A n c := (match ho5.val with | ⟨_, _, hv⟩ => ⟨_, _, _, hv⟩); subst hv5; have R5 := Lib.hid (Rd.out.fr0 f5); have O5 := Lib.hid (OwnL.rowsAt ho5); have P5 := Lib.hid hp5; clear ho5 hp5 f5)
      | (go_at_call 57; refine (rfrows_any bs vl LL s o _ (H.out.fr0 R5.out.fr)).mono ?_; rintro e w6 ⟨v6, rfl, ho6, f6, -⟩; have hp6 := picked_filter H.out.sim o; obtain ⟨L6, hL6⟩ : ∃ l, LL.filter (inTab o) = l := ⟨_, rfl⟩; rw [hL6] at ho6 hp6; clear hL6; obtain ⟨A6, n6, k6, hv6⟩ : ∃ A n c, v6 = .slice A n c := (match ho6.val with | ⟨_, _, hv⟩ => ⟨_, _, _, hv⟩); subst hv6; have R6 := Lib.hid (R5.out.fr0 f6); have O6 := Lib.hid (OwnL.rowsAt ho6); have P6 := Lib.hid hp6; have X6 := Lib.hid (O5.out.1.fr f6 (by simp)); clear ho6 hp6 f6)
      | (go_at_call 14; refine (rfrom_any ⟨k, t, c, lo, hi, b, o⟩ A5 n5 k5 L5 A6 n6 k6 L6 w6 X6.out O5.out.2 (by rw [O5.out.2]; have := P5.out.len H.out.ok; omega) O6.out.1 O6.out.2 (by rw [O6.out.2]; have := P6.out.len H.out.ok; omega) (fun _ _ r hr => by have := RowV.value_bounds (P5.out.vals HSN.out hr) b; dsimp only; omega)).mono ?_; rintro e w7 ⟨v7, rfl, hres⟩; have HEQ : Em.res ⟨k, t, c, lo, hi, b, o⟩ L5 L6 = ⟨vr, vn, vf⟩ := (by rw [← HRES.out]; unfold Em.of Em.scan Em.tab; rw [P5.out.uniq (Em.sel_picked s c (inRng t c lo hi)) H.out.ok inRng_t, P6.out.uniq (Em.sel_picked s 0 (inTab o)) H.out.ok inTab_t]); rw [HEQ] at hres ⊢; dsimp only at hres; dsimp only; obtain ⟨A7, n7, k7, hv7⟩ : ∃ A n c, v7 = .slice A n c := (match hres.own.val with | ⟨_, _, hv⟩ => ⟨_, _, _, hv⟩); subst hv7; have R7 := Lib.hid (R6.out.fr0 hres.fr); have HR7 := Lib.hid hres; have hs6 := R6.out.res; have HL6 := Lib.hid (Blk.lt hs6); clear hs6 hres HEQ; have z0 := R7.out.res.z 0; have z1 := R7.out.res.z 1; have z2 := R7.out.res.z 2; have y0 := R7.out.res.c0; have y1 := R7.out.res.c1; have y2 := R7.out.res.c2; obtain ⟨w8, e8, q0, q1, q2, f8, g8⟩ := R7.out.fin (.slice A7 n7 k7) vn vf; have B8 := R7.out.box.fr g8 (by simp); rw [← e8] at B8; have S8 := Lib.hid B8; clear B8; have E8 := Lib.hid e8; have Q8 := Lib.hid (And.intro q0 (And.intro q1 q2)); have F8 := Lib.hid f8; have G8 := Lib.hid g8; clear e8 q0 q1 q2 f8 g8))
  go_wp2_with fail
  have q0 := Q8.out.1
  have q1 := Q8.out.2.1
  have q2 := Q8.out.2.2
  rw [E8.out]
  have e2 : Em.code ⟨k, t, c, lo, hi, b, o⟩ = 0 := by unfold Em.code; rw [HVV.out]; rfl
  exact bodyPost_ret (v := .tuple #[.agg #[.slice A7 n7 k7, .int .i64 vn, .bool vf], .int .i64 0]) (by simp [results, Try.results23, go_sem, q0, q1, q2]) rfl ⟨_, by rw [HRES.out, e2], by
    rw [HRES.out]
    have h6 := R6.out.fr.size
    have hl := HL6.out
    refine ⟨HR7.out.own.fr G8.out (fun g hg => ?_), F8.out, fun g hg => Nat.le_trans h6 (HR7.out.new g hg)⟩
    have h7 := HR7.out.new g hg
    simp only [List.mem_singleton]
    omega⟩
end Go.Proofs.Ytlicjokgcahmlaa

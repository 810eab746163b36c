/-
  MatchFull: the walk of the law.
-/
import Derived.Test.YtciaallekkdnhaaGreatMtW
import Derived.Test.YtciaallekkdnhaaGreatJk
namespace Go.Proofs.YtciaallekkdnhaaGreat
open Go.RowKit

namespace Mm
theorem del_add (id : Int) (q : Qry) : mdel (add [] id q) id = [] := by
  unfold add
  split
  · simp [mput, mdel]
  · simp [mdel]
def fill : Nat → List Qry
  | 0 => []
  | k + 1 => fill k ++ [⟨3, 0, (k : Int) % 4, (k : Int), (k : Int) + 5, 0, 0⟩]
theorem fill_len : ∀ k, (fill k).length = k
  | 0 => rfl
  | k + 1 => by rw [fill, List.length_append, fill_len k]; rfl
theorem fill_valid {k : Nat} (hk : k ≤ 1000) : Em.valid ⟨3, 0, (k : Int) % 4, (k : Int), (k : Int) + 5, 0, 0⟩ = true := by
  have h1 : (0 : Int) ≤ (k : Int) % 4 := Int.emod_nonneg _ (by decide)
  have h2 : (k : Int) % 4 < 4 := Int.emod_lt_of_pos _ (by decide)
  unfold Em.valid Em.base Em.within
  simp only
  rw [if_neg (by decide)]
  simp
  omega
/-- An index that is full: one taken out, another put in. -/
theorem full {M : Ix} (h : Ixq M (fill 500)) (hn : Nd M) {k : Int} (h0 : 0 ≤ k) (h5 : k < 500) :
    code M 500 ⟨3, 0, 0, 0, 0, 0, 0⟩ = 80 ∧ add M 500 ⟨3, 0, 0, 0, 0, 0, 0⟩ = M ∧ (mget M k).isSome = true ∧
    code (mdel M k) ((k + 1) % 500) ⟨3, 0, 0, 0, 0, 0, 0⟩ = 80 ∧ add (mdel M k) ((k + 1) % 500) ⟨3, 0, 0, 0, 0, 0, 0⟩ = mdel M k ∧
    code (mdel M k) 500 ⟨3, 0, 0, 0, 0, 0, 0⟩ = 0 ∧ (add (mdel M k) 500 ⟨3, 0, 0, 0, 0, 0, 0⟩).length = 500 := by
  have hl : M.length = 500 := by rw [h.len, fill_len]
  have hin : ∀ z : Int, 0 ≤ z → z < 500 → (mget M z).isSome = true := fun z z0 z5 => by
    obtain ⟨j, rfl⟩ := Int.eq_ofNat_of_zero_le z0
    have e := h.get j
    rw [e, List.getElem?_eq_getElem (by rw [fill_len]; omega)]
    rfl
  have h500 : mget M 500 = none := by
    have e := h.get 500
    rw [show ((500 : Nat) : Int) = 500 from rfl] at e
    rw [e, List.getElem?_eq_none (by rw [fill_len]; exact Nat.le_refl _)]
  have c1 : code M 500 ⟨3, 0, 0, 0, 0, 0, 0⟩ = 80 := if_pos (.inr (.inr (by omega)))
  have hk := hin k h0 h5
  have hdl : (mdel M k).length = 499 := by
    have := length_mdel (x := k) hn
    rw [hk] at this
    simp at this
    omega
  have r0 : (0 : Int) ≤ (k + 1) % 500 := Int.emod_nonneg _ (by decide)
  have r5 : (k + 1) % 500 < 500 := Int.emod_lt_of_pos _ (by decide)
  have rk : (k + 1) % 500 ≠ k := by omega
  have c2 : code (mdel M k) ((k + 1) % 500) ⟨3, 0, 0, 0, 0, 0, 0⟩ = 80 := if_pos (.inl (by rw [mget_del_other rk]; exact hin _ r0 r5))
  have g5 : mget (mdel M k) 500 = none := by rw [mget_del_other (by omega)]; exact h500
  have c3 : code (mdel M k) 500 ⟨3, 0, 0, 0, 0, 0, 0⟩ = 0 := code_zero.2 ⟨g5, by decide, by omega⟩
  refine ⟨c1, if_neg (by rw [c1]; decide), hk, c2, if_neg (by rw [c2]; decide), c3, ?_⟩
  unfold add
  rw [if_pos c3, length_mput (hn.del k), g5, hdl]
  rfl
end Mm
structure FuAt (w wr : World) (b m g : Nat) (M : Mm.Ix) (q : Qry) : Prop where
  ix : IxAt wr b m M [b, m]
  box : QAt wr g q
  fr : Fr [] w wr
  new : w.heap.size ≤ b ∧ w.heap.size ≤ m
section
variable {w wr w' : World} {b m g : Nat} {M M' : Mm.Ix} {q : Qry}
theorem FuAt.fr0 (h : FuAt w wr b m g M q) (hf : Fr [] wr w') : FuAt w w' b m g M q := ⟨h.ix.fr0 hf, h.box.fr hf (by simp), h.fr.trans hf, h.new⟩
theorem FuAt.up (h : FuAt w wr b m g M q) (hi : IxAt w' b m M' [b, m]) (hf : Fr [b, m] wr w') : FuAt w w' b m g M' q := by
  refine ⟨hi, h.box.fr hf ?_, h.fr.trans' hf (fun x hx => .inr ?_), h.new⟩
  · obtain ⟨lp, hb, -⟩ := h.ix.blk
    have e1 : g ≠ b := Blk.ne h.box hb (by decide)
    have e2 : m ≠ g := h.ix.map.ne h.box
    simp [e1, Ne.symm e2]
  · have := h.new
    simp only [List.mem_cons, List.not_mem_nil, or_false] at hx
    rcases hx with rfl | rfl <;> omega
theorem FuAt.add (h : FuAt w wr b m g M q) (id : Int) (hid : okI id) (x : Qry) {c : Int} (hc : Mm.code M id x = c) (hM : Mm.add M id x = M') : Calls Tryz.prog 17 #[.pointer (some ⟨b, 0, none⟩), .int .i64 id, x.val] wr fun e w' => e = .returned (.int .i64 c) ∧ FuAt w w' b m g M' q := by
  subst hc hM
  refine (madd_any id hid x wr h.ix).mono ?_
  rintro e w' ⟨rfl, hi, hf⟩
  exact ⟨rfl, h.up hi hf⟩
theorem FuAt.remove (h : FuAt w wr b m g M q) (id : Int) (hid : okI id) {c : Bool} (hc : (mget M id).isSome = c) (hM : mdel M id = M') : Calls Tryz.prog 15 #[.pointer (some ⟨b, 0, none⟩), .int .i64 id] wr fun e w' => e = .returned (.bool c) ∧ FuAt w w' b m g M' q := by
  subst hc hM
  refine (mremove_any id hid wr h.ix).mono ?_
  rintro e w' ⟨rfl, hi, hf⟩
  exact ⟨rfl, h.up hi hf⟩
end
set_option maxRecDepth 100000 in
set_option maxHeartbeats 8000000 in
theorem full_walk (q : Qry) (which : Int) (w : World) (hw : okI which) :
    Calls Tryz.prog 7 #[q.val, .int .i64 which] w fun e w' => e = .returned (.bool true) ∧ Below w.heap.size w w' := by
  have HB := Lib.hid (QAt.new w q)
  have HF := Lib.hid ((Fr.refl [] w).alloc (.cells #[.int .i64 q.kind, .int .i64 q.table, .int .i64 q.column, .int .i64 q.low, .int .i64 q.high, .int .i64 q.by_, .int .i64 q.other] 35))
  have HV := Lib.hid (fun W => qvalid_any q W)
  have HW := Lib.hid hw
  have HPB := Lib.hid (Mm.pick_lt which (n := 500) (by decide))
  have HP := Lib.hid (fun W => mpick_any which 500 W hw (by decide) (by decide))
  obtain ⟨k, HK⟩ : ∃ k, Hid (Mm.pick which 500 = k) := ⟨_, Lib.hid rfl⟩
  rw [HK.out] at HP HPB
  clear hw
  go_enter Tryz.func7, Tryz.ntmps7
  go_wp2_with fail
  refine (msane_any _).mono ?_
  rintro e wa ⟨rfl, fa⟩
  have HB2 := Lib.hid (HB.out.fr fa (by simp))
  have HF2 := Lib.hid (HF.out.trans fa)
  clear fa HB HF
  go_wp2_with fail
  refine (mnew_any _).mono ?_
  rintro e w1 ⟨rfl, hix, f1⟩
  have FU : Hid (FuAt w w1 (wa.heap.size + 1) wa.heap.size w.heap.size [] q) := Lib.hid ⟨hix, HB2.out.fr f1 (by simp), HF2.out.trans f1, by have := HF2.out.size; omega⟩
  clear HB2 HF2 hix f1
  generalize wa.heap.size + 1 = b at *
  generalize wa.heap.size = m at *
  generalize w.heap.size = g at *
  have hq0 := FU.out.box.c0
  have hq1 := FU.out.box.c1
  have hq2 := FU.out.box.c2
  have hq3 := FU.out.box.c3
  have hq4 := FU.out.box.c4
  have hq5 := FU.out.box.c5
  have hq6 := FU.out.box.c6
  obtain ⟨vb, HVB⟩ : ∃ x, Hid (Em.valid q = x) := ⟨_, Lib.hid rfl⟩
  rw [HVB.out] at HV
  go_wp2_with fail
  refine (HV.out _).mono ?_
  rintro e w2 ⟨rfl, f2⟩
  replace FU := Lib.hid (FU.out.fr0 f2)
  clear f2 hq0 hq1 hq2 hq3 hq4 hq5 hq6
  have hq0 := FU.out.box.c0
  have hq1 := FU.out.box.c1
  have hq2 := FU.out.box.c2
  have hq3 := FU.out.box.c3
  have hq4 := FU.out.box.c4
  have hq5 := FU.out.box.c5
  have hq6 := FU.out.box.c6
  obtain ⟨c1, HC1⟩ : ∃ x, Hid (Mm.code [] 1000 q = x) := ⟨_, Lib.hid rfl⟩
  obtain ⟨M1, HM1⟩ : ∃ x, Hid (Mm.add [] 1000 q = x) := ⟨_, Lib.hid rfl⟩
  have HA1 := Lib.hid (FU.out.add 1000 (okI_mk (by decide) (by decide)) q HC1.out HM1.out)
  have HD1 : Hid (mdel M1 1000 = []) := Lib.hid (by rw [← HM1.out]; exact Mm.del_add 1000 q)
  have HCV : Hid (c1 = if vb = true then 0 else 80) := Lib.hid (by
    rw [← HC1.out, ← HVB.out]
    unfold Mm.code
    cases Em.valid q <;> simp [mget])
  clear HC1 HM1
  have hcv : (vb = true ∧ c1 = 0) ∨ (vb = false ∧ c1 = 80) := by
    have h := HCV.out
    cases vb
    · exact .inr ⟨rfl, h⟩
    · exact .inl ⟨rfl, h⟩
  clear HCV
  rcases hcv with ⟨rfl, rfl⟩ | ⟨rfl, rfl⟩
  all_goals
    go_upto_region 7 with (go_at_call 17; refine HA1.out.mono ?_; rintro e w3 ⟨rfl, hfu⟩; have FU3 := Lib.hid hfu; clear hfu)
    clear hq0 hq1 hq2 hq3 hq4 hq5 hq6 HA1 FU
    have HR := Lib.hid (FU3.out.remove 1000 (okI_mk (by decide) (by decide)) rfl HD1.out)
    obtain ⟨gb, HGB⟩ : ∃ x, Hid ((mget M1 1000).isSome = x) := ⟨_, Lib.hid rfl⟩
    rw [HGB.out] at HR
    go_upto_region 8 with (go_at_call 15; refine HR.out.mono ?_; rintro e w4 ⟨rfl, hfu⟩; have FU4 := Lib.hid hfu; clear hfu)
    clear HR FU3 HGB
    go_wp2_with fail
    go_loopw [9] (fun i wr => ∃ (j : Nat) (M : Mm.Ix), i = .int .i64 j ∧ j ≤ 500 ∧ Hid (Mm.Ixq M (Mm.fill j)) ∧ Hid (FuAt w wr b m g M q)) (fun i _ => 500 - (intOf i).toNat)
    case atStart => exact ⟨0, [], rfl, by decide, Lib.hid Mm.Ixq.nil, FU4⟩
    case round =>
      clear FU4
      obtain ⟨j, M, rfl, hj, HIX, FU⟩ := hrel
      by_cases hlt : j < 500
      · go_wp2_with fail
        obtain ⟨hc, hix⟩ := HIX.out.snoc (FU.out.ix.map.nd tyIntQry) (by rw [Mm.fill_len]; omega) (Mm.fill_valid (k := j) (by omega))
        rw [Mm.fill_len] at hc hix
        refine (FU.out.add (j : Int) (okI_mk (by omega) (by omega)) ⟨3, 0, (j : Int) % 4, (j : Int), (j : Int) + 5, 0, 0⟩ hc rfl).mono ?_
        rintro e w5 ⟨rfl, hfu⟩
        have FU5 := Lib.hid hfu
        have HIX5 := Lib.hid hix
        clear hc hix hfu FU HIX
        go_wp2_with fail
        go_roundw
        case rel => exact ⟨j + 1, _, by go_num, by omega, HIX5, FU5⟩
        case measure => simp [intOf]; omega
      · obtain rfl : j = 500 := by omega
        obtain ⟨f1, f2, f3, f4, f5, f6, f7⟩ := Mm.full HIX.out (FU.out.ix.map.nd tyIntQry) HPB.out.1 HPB.out.2
        have F3 := Lib.hid f3
        have F4 := Lib.hid f4
        have F5 := Lib.hid f5
        have F6 := Lib.hid f6
        have F7 := Lib.hid f7
        have HA5 := Lib.hid (FU.out.add 500 (okI_mk (by decide) (by decide)) ⟨3, 0, 0, 0, 0, 0, 0⟩ f1 f2)
        clear f1 f2 f3 f4 f5 f6 f7
        go_wp2_with fail
        refine HA5.out.mono ?_
        rintro e w5 ⟨rfl, hfu⟩
        have FU5 := Lib.hid hfu
        clear hfu HA5 FU
        go_wp2_with fail
        refine (HP.out _).mono ?_
        rintro e w' ⟨rfl, rfl⟩
        have HR := Lib.hid (FU5.out.remove k (okI_mk (by have := HPB.out; omega) (by have := HPB.out; omega)) F3.out rfl)
        have hk0 : 0 ≤ k := HPB.out.1
        have hk5 : k < 500 := HPB.out.2
        go_wp2_with fail
        refine HR.out.mono ?_
        rintro e w6 ⟨rfl, hfu⟩
        have FU6 := Lib.hid hfu
        clear hfu HR FU5
        have HA6 := Lib.hid (FU6.out.add ((k + 1) % 500) (okI_mk (by omega) (by omega)) ⟨3, 0, 0, 0, 0, 0, 0⟩ F4.out F5.out)
        go_wp2_with fail
        refine HA6.out.mono ?_
        rintro e w7 ⟨rfl, hfu⟩
        have FU7 := Lib.hid hfu
        clear hfu HA6 FU6
        have HA7 := Lib.hid (FU7.out.add 500 (okI_mk (by decide) (by decide)) ⟨3, 0, 0, 0, 0, 0, 0⟩ F6.out rfl)
        go_wp2_with fail
        refine HA7.out.mono ?_
        rintro e w8 ⟨rfl, hfu⟩
        have FU8 := Lib.hid hfu
        clear hfu HA7 FU7
        have hq0 := FU8.out.box.c0
        have hq1 := FU8.out.box.c1
        have hq2 := FU8.out.box.c2
        have hq3 := FU8.out.box.c3
        have hq4 := FU8.out.box.c4
        have hq5 := FU8.out.box.c5
        have hq6 := FU8.out.box.c6
        have HN1 := Lib.hid (fun W => madd_nil 1 q W)
        have HN2 := Lib.hid (fun W => mremove_nil 1 W)
        have HN3 := Lib.hid (fun W => mlen_nil W)
        have HN4 := Lib.hid (fun W => mmatch_nil 0 Option.none 0 0 W)
        go_wp2_with fail
        refine (HN1.out _).mono ?_
        rintro e w9 ⟨rfl, fa⟩
        have F9 := Lib.hid fa
        clear fa
        go_wp2_with fail
        refine (HN2.out _).mono ?_
        rintro e w' ⟨rfl, rfl⟩
        go_wp2_with fail
        refine (HN3.out _).mono ?_
        rintro e w' ⟨rfl, rfl⟩
        go_wp2_with fail
        refine (HN4.out _).mono ?_
        rintro e w10 ⟨rfl, fa⟩
        have FU10 := Lib.hid (FU8.out.fr0 (F9.out.trans fa))
        clear fa
        have HL := Lib.hid (mlen_any w10 FU10.out.ix)
        rw [F7.out] at HL
        go_wp2_with fail
        refine HL.out.mono ?_
        rintro e w' ⟨rfl, rfl⟩
        go_wp2_with fail
        go_ret
        exact ⟨rfl, FU10.out.fr.below⟩
end Go.Proofs.YtciaallekkdnhaaGreat

/-
  MatchChanges: the walk of the law.
-/
import Derived.Test.YtciaallekkdnhaaGreatMuB
import Derived.Test.YtciaallekkdnhaaGreatArr
import Derived.Test.YtciaallekkdnhaaGreatJc
import Derived.Deep.DeepCutAuto
import Derived.Deep.CutBlock
import Derived.BigQuiet
import Derived.StillTailTactics
namespace Go.Proofs.YtciaallekkdnhaaGreat
open Go.RowKit

namespace Mm
/-- Whether the query at an index is touched. -/
def tg (qs : List Qry) (cs : List Chg) (i : Nat) : Bool := match qs[i]? with | some q => cs.any (Pm.touches q) | none => false
theorem tg_at {qs : List Qry} {cs : List Chg} {i : Nat} (h : i < qs.length) : tg qs cs i = cs.any (Pm.touches qs[i]) := by
  unfold tg
  rw [List.getElem?_eq_getElem h]
theorem tg_mem {qs : List Qry} {cs : List Chg} {L : List Int} (hL : L = hits qs cs qs.length) (i : Nat) : tg qs cs i = decide ((i : Int) ∈ L) := by
  subst hL
  rw [Bool.eq_iff_iff, decide_eq_true_eq, hits_mem (Nat.le_refl _)]
  by_cases h : i < qs.length
  · rw [tg_at h]
    refine ⟨fun ht => ⟨i, h, h, rfl, ht⟩, fun ⟨k, hk, _, e, ht⟩ => ?_⟩
    obtain rfl : i = k := by omega
    exact ht
  · refine ⟨fun ht => ?_, fun ⟨k, hk, _, e, _⟩ => by omega⟩
    unfold tg at ht
    rw [List.getElem?_eq_none (by omega)] at ht
    cases ht
theorem tg_nil (qs : List Qry) (cs : List Chg) (i : Nat) : tg qs (cs.take 0) i = false := by
  unfold tg
  split <;> simp
theorem tg_succ {qs : List Qry} {cs : List Chg} {j : Nat} (hj : j < cs.length) {L : List Int} (hL : L = hits qs [cs[j]] qs.length) (i : Nat) : tg qs (cs.take (j + 1)) i = (tg qs (cs.take j) i || decide ((i : Int) ∈ L)) := by
  rw [← tg_mem hL]
  unfold tg
  split
  · rw [List.take_succ_eq_append_getElem hj, List.any_append]
  · rfl
end Mm
theorem HoldsC.one {w : World} {b off : Nat} {cs : List Chg} (h : HoldsC w (some ⟨b, off, none⟩) cs) {i : Nat} (hi : i < cs.length) : HoldsC w (some ⟨b, off + i * 10, none⟩) [cs[i]] := by
  obtain ⟨b', off', e, hb, hc⟩ := h.1 (by omega)
  injection e with e
  injection e with e1 e2
  subst e1 e2
  refine ⟨fun _ => ⟨b, off + i * 10, rfl, hb, fun k hk j hj => ?_⟩, fun _ ad e => ?_⟩
  · have hk0 : k = 0 := by simpa using hk
    subst hk0
    rw [Nat.zero_mul, Nat.add_zero]
    exact hc i hi j hj
  · obtain ⟨arr, fz, h2⟩ := h.2 (by omega) _ rfl
    injection e with e
    subst e
    exact ⟨arr, fz, h2⟩
theorem arr_bool_set {n : Nat} {f g : Nat → Bool} {i : Nat} (h : ∀ j, j < n → g j = (f j || decide (j = i))) : (arr n (fun j => .bool (f j))).setIfInBounds i (.bool true) = arr n (fun j => .bool (g j)) := by
  rw [arr_set]
  refine arr_congr fun j hj => ?_
  rw [h j hj]
  by_cases e : j = i
  · rw [if_pos e, decide_eq_true e, Bool.or_true]
  · rw [if_neg e, decide_eq_false e, Bool.or_false]
/-- The marks of the touched ones beside what lies in memory. -/
structure McAt (w wr : World) (b m : Nat) (M : Mm.Ix) (D : List Nat) (v : Value) (qs : List Qry) (A2 : Option Addr) (n2 c2 : Nat) (l : List Rec) (gi n1 : Nat) (G : Nat → Bool) : Prop where
  mg : MgAt w wr b m M D v qs A2 n2 c2 l
  in_ : Blk wr gi 4 (arr n1 (fun i => .bool (G i)))
  new : w.heap.size ≤ gi
  nd : gi ∉ D
section
variable {w wr w' : World} {b m : Nat} {M : Mm.Ix} {D : List Nat} {v : Value} {qs : List Qry} {A2 : Option Addr} {n2 c2 : Nat} {l : List Rec} {gi n1 : Nat} {G : Nat → Bool}
theorem McAt.fr0 (h : McAt w wr b m M D v qs A2 n2 c2 l gi n1 G) (hf : Fr [] wr w') : McAt w w' b m M D v qs A2 n2 c2 l gi n1 G := ⟨h.mg.fr0 hf, h.in_.fr hf (by simp), h.new, h.nd⟩
theorem McAt.next (h : McAt w wr b m M D v qs A2 n2 c2 l gi n1 G) {D' : List Nat} (hm : MgAt w w' b m M D' v qs A2 n2 c2 l) (hf : Fr [b] wr w') (hd : ∀ x ∈ D', x ∈ D ∨ wr.heap.size ≤ x) : McAt w w' b m M D' v qs A2 n2 c2 l gi n1 G := by
  obtain ⟨lp, hb, -⟩ := h.mg.ix.blk
  have e : gi ≠ b := Blk.ne h.in_ hb (by decide)
  have hlt := h.in_.lt
  refine ⟨hm, h.in_.fr hf (by simp [e]), h.new, fun hx => ?_⟩
  rcases hd gi hx with h1 | h1
  · exact h.nd h1
  · omega
/-- A mark is set. -/
theorem McAt.set (h : McAt w wr b m M D v qs A2 n2 c2 l gi n1 G) {G' : Nat → Bool} {i : Nat} (hg : ∀ j, j < n1 → G' j = (G j || decide (j = i))) : McAt w (wr.setCell ⟨gi, i, none⟩ (.bool true)) b m M D v qs A2 n2 c2 l gi n1 G' := by
  have hD := h.nd
  have hf : Fr [gi] wr (wr.setCell ⟨gi, i, none⟩ (.bool true)) := (Fr.refl _ _).setCell (.inl (by simp)) _
  have h2 := h.in_.set_ i (.bool true)
  rw [arr_bool_set hg] at h2
  refine ⟨⟨h.mg.ix.fr hf (fun x hx e => hD (by rw [List.mem_singleton] at e; rwa [← e])), fun x hx => ⟨(h.mg.dl x hx).1, Nat.lt_of_lt_of_le (h.mg.dl x hx).2 hf.size⟩, h.mg.is, h.mg.ok, h.mg.row.fr hf (fun g hg => by simpa using h.mg.row.ne h.in_ (by decide) hg), ?_, h.mg.fr.trans' hf (fun x hx => .inr (by rw [List.mem_singleton] at hx; rw [hx]; exact h.new))⟩, h2, h.new, h.nd⟩
  obtain ⟨us, h1, -⟩ := id h.mg.log
  exact h.mg.log.fr hf (fun g hg => by simpa using h1.ne h.in_ (by decide) hg) (NoC.cons (noC_blk h.in_ (by decide)) NoC.nil)
theorem McAt.made (h : MgAt w wr b m M D v qs A2 n2 c2 l) : McAt w (wr.alloc (.cells (arr n1 (fun _ => .bool false)) 4)) b m M D v qs A2 n2 c2 l wr.heap.size n1 (fun _ => false) :=
  ⟨h.fr0 ((Fr.refl _ _).alloc _), Blk.new _ _ _, h.fr.size, fun hx => Nat.lt_irrefl _ (h.dl _ hx).2⟩
theorem McAt.congr (h : McAt w wr b m M D v qs A2 n2 c2 l gi n1 G) {G' : Nat → Bool} (hg : ∀ j, j < n1 → G j = G' j) : McAt w wr b m M D v qs A2 n2 c2 l gi n1 G' := by
  refine ⟨h.mg, ?_, h.new, h.nd⟩
  rw [← arr_congr (f := fun i => .bool (G i)) (g := fun i => .bool (G' i)) (fun j hj => by rw [hg j hj])]
  exact h.in_
end
set_option maxRecDepth 100000 in
set_option maxHeartbeats 8000000 in
theorem changes_walk (A : Option Addr) (n cap : Nat) (B : Option Addr) (nb cb : Nat) (w : World) (hn : n ≤ cap) (hcap : cap ≤ maxLen) (hx : n = 0 ∨ ∃ bx ox, A = some ⟨bx, ox, none⟩ ∧ FivAt w bx ox n) (hnb : nb ≤ cb) (hcb : cb ≤ maxLen) (hy : nb = 0 ∨ ∃ bx ox, B = some ⟨bx, ox, none⟩ ∧ SixAt w bx ox nb) :
    Calls Tryz.prog 5 #[.slice A n cap, .slice B nb cb] w fun e w' => e = .returned (.bool true) ∧ Below w.heap.size w w' := by
  have HX := Lib.hid hx
  have HY := Lib.hid hy
  clear hx hy
  go_enter Tryz.func5, Tryz.ntmps5
  go_wp2_with fail
  refine (msane_any _).mono ?_
  rintro e wa ⟨rfl, fa⟩
  have FA := Lib.hid fa
  clear fa
  go_wp2_with fail
  refine (mindex_any A n cap wa hn hcap (by
    rcases HX.out with h0 | ⟨bx, ox, h1, h2⟩
    · exact .inl h0
    · exact .inr ⟨bx, ox, h1, h2.fr0 FA.out⟩)).mono ?_
  rintro e w1 ⟨b, m, M, qs, v, rfl, hi, hl40, -⟩
  have HI := Lib.hid hi
  have HL40 := Lib.hid hl40
  clear hi HX hl40
  go_wp2_with fail
  refine (mlog_any B nb cb w1 hnb hcb (by
    rcases HY.out with h0 | ⟨bx, ox, h1, h2⟩
    · exact .inl h0
    · exact .inr ⟨bx, ox, h1, (h2.fr0 FA.out).fr0 HI.out.fr⟩)).mono ?_
  rintro e w2 ⟨A2, n2, c2, l, rfl, hor, hok, hll, f2, hn2⟩
  obtain ⟨A1, n1, c1, hv⟩ : ∃ A n c, v = .slice A n c := (match HI.out.row.val with | ⟨_, _, hv⟩ => ⟨_, _, _, hv⟩)
  subst hv
  have MG : Hid (MgAt wa w2 b m M [b, m] (.slice A1 n1 c1) qs A2 n2 c2 l) := Lib.hid (MgAt.of HI.out hor f2)
  have HOK := Lib.hid hok
  have HN2 := Lib.hid hn2
  have HN1 : Hid (n1 = qs.length) := Lib.hid MG.out.len1
  have hn25 : n2 ≤ 25 := by omega
  have hn40 : n1 ≤ 40 := by rw [HN1.out]; exact HL40.out
  clear hor hok hll f2 hn2 HI HY HL40 hn hcap hnb hcb
  have hmk : ∀ w : World, (Instr.makeSlice 61 (.int .i64 n1) (.int .i64 n1)).run Tryz.prog w = .ok (.slice (some ⟨w.heap.size, 0, none⟩) n1 n1) (w.alloc (.cells (arr n1 (fun _ => .bool false)) 4)) := fun w => by
    have := Go.run_make_row' (P := Tryz.prog) 61 4 (.bool false) 1 Tryz.underlying61 (by kernel_rfl) rfl .i64 .i64 n1 (by omega) (by omega) w
    rw [made_arr] at this
    exact this
  have HMK := Lib.hid hmk
  clear hmk
  go_wp2_with fail
  go_loopw [9] (fun i wr => ∃ (k : Nat) (D : List Nat), i = .int .i64 k ∧ k ≤ n2 ∧ Hid (MgAt wa wr b m M D (.slice A1 n1 c1) qs A2 n2 c2 l)) (fun i _ => n2 - (intOf i).toNat)
  case atStart => exact ⟨0, [b, m], rfl, Nat.zero_le _, MG⟩
  case round =>
    clear MG
    obtain ⟨k, D, rfl, hk, MG⟩ := hrel
    by_cases hlt : k < n2
    · have hkl : k < l.length := by rw [← HN2.out]; exact hlt
      obtain ⟨cs, hcs⟩ : ∃ cs, cs = l[k].cs := ⟨_, rfl⟩
      have HCK := Lib.hid (HOK.out.okI hkl)
      rw [← hcs] at HCK
      have HCS := Lib.hid hcs
      obtain ⟨nk, hnk⟩ : ∃ n, n = cs.length := ⟨_, rfl⟩
      have HNK := Lib.hid hnk
      obtain ⟨pk, hpk⟩ : ∃ n, n = l[k].p := ⟨_, rfl⟩
      have HPK := Lib.hid hpk
      clear hcs hnk hpk
      have HOP : Hid (∀ (W : World) (D : List Nat), MgAt wa W b m M D (.slice A1 n1 c1) qs A2 n2 c2 l → ∃ bb off Ak ck, A2 = some ⟨bb, off, none⟩ ∧ bb < W.heap.size ∧ W.cell? ⟨bb, off + k * 2, none⟩ = some (.int .i64 pk) ∧ W.cell? ⟨bb, off + k * 2 + 1, none⟩ = some (.slice Ak nk ck) ∧ HoldsC W Ak cs ∧ nk ≤ 8 ∧ nk ≤ ck) := Lib.hid (fun W D h => by
        obtain ⟨bb, off, Ak, ck, h1, h2, h3, h4, h5, h6, h7⟩ := h.openC hkl
        rw [← HCS.out, ← HNK.out] at h4 h6 h7
        rw [← HCS.out] at h5
        rw [← HPK.out] at h3
        exact ⟨bb, off, Ak, ck, h1, h2, h3, h4, h5, h6, h7⟩)
      obtain ⟨bb, off, -, -, hA, -, -, -, -, hl8, -⟩ := HOP.out _ _ MG.out
      subst hA
      replace HOP : Hid (∀ (W : World) (D : List Nat), MgAt wa W b m M D (.slice A1 n1 c1) qs (some ⟨bb, off, none⟩) n2 c2 l → ∃ Ak ck, W.cell? ⟨bb, off + k * 2, none⟩ = some (.int .i64 pk) ∧ W.cell? ⟨bb, off + k * 2 + 1, none⟩ = some (.slice Ak nk ck) ∧ HoldsC W Ak cs ∧ nk ≤ ck ∧ bb < W.heap.size) := Lib.hid (fun W D h => by
        obtain ⟨bb', off', Ak, ck, h1, h2, h3, h4, h5, h6, h7⟩ := HOP.out _ _ h
        injection h1 with h1
        injection h1 with h1 h1'
        subst h1 h1'
        exact ⟨Ak, ck, h3, h4, h5, h7, h2⟩)
      have hmk := HMK.out
      go_wp2_with fail
      have MC : Hid (McAt wa (wr.alloc (.cells (arr n1 (fun _ => .bool false)) 4)) b m M D (.slice A1 n1 c1) qs (some ⟨bb, off, none⟩) n2 c2 l wr.heap.size n1 (fun i => Mm.tg qs (cs.take 0) i)) := Lib.hid ((McAt.made MG.out).congr (fun j _ => (Mm.tg_nil qs cs j).symm))
      generalize wr.alloc (.cells (arr n1 (fun _ => .bool false)) 4) = w3 at *
      generalize wr.heap.size = gi at *
      clear hmk MG
      go_loopw [11] (fun i wr => ∃ (j : Nat) (D : List Nat), i = .int .i64 j ∧ j ≤ nk ∧ Hid (McAt wa wr b m M D (.slice A1 n1 c1) qs (some ⟨bb, off, none⟩) n2 c2 l gi n1 (fun i => Mm.tg qs (cs.take j) i))) (fun i _ => nk - (intOf i).toNat)
      case atStart => exact ⟨0, D, rfl, Nat.zero_le _, MC⟩
      case round =>
        clear MC
        clear D
        obtain ⟨j, D, rfl, hj, MC⟩ := hrel
        obtain ⟨Ak, ck, hc0, hc1, hhc, hck, hbb⟩ := HOP.out _ _ MC.out.mg
        by_cases hjl : j < nk
        · have hjc : j < cs.length := by rw [← HNK.out]; exact hjl
          obtain ⟨b3, off3, hA3, hb3, -⟩ := hhc.1 (by omega)
          subst hA3
          obtain ⟨L0, HL0⟩ : ∃ L, Hid (L = Mm.hits qs [cs[j]] qs.length) := ⟨_, Lib.hid rfl⟩
          have HM := Lib.hid (MC.out.mg.match_ 0 (some ⟨b3, off3 + j * 10, none⟩) 1 (ck - j) [cs[j]] (hhc.one hjc) rfl (by decide) (by
            intro c hc
            obtain rfl : c = cs[j] := by simpa using hc
            exact HCK.out _ (List.getElem_mem _)))
          rw [← HL0.out] at HM
          have hne : ¬ ck = j := by omega
          have hsl : (0 : Int) ≤ (j : Int) ∧ (j : Int) ≤ (j : Int) + 1 ∧ (j : Int) + 1 ≤ (ck : Int) := by omega
          have hsl1 : (j : Int) + 1 ≤ (ck : Int) := by omega
          clear hhc hc0
          go_wp2_with fail
          refine HM.out.mono ?_
          rintro e w4 ⟨Ao, no, co, L, rfl, hol, hnl, hL, hfb, D', hmg, hd⟩
          have MC2 := Lib.hid (MC.out.next hmg hfb hd)
          have HL := Lib.hid (hL.trans HL0.out)
          have HO := Lib.hid hol
          have HNL := Lib.hid hnl
          have hno : no ≤ 40 := by
            rw [hnl, HL.out]
            have := Mm.hits_len (qs := qs) (cs := [cs[j]]) qs.length
            have := HN1.out
            omega
          clear HM hol hnl hL hmg hd hfb MC hc1 hsl hsl1 hne HL0 hb3 hbb
          go_wp2_with fail
          go_loopw [13] (fun i wr => ∃ z : Nat, i = .int .i64 z ∧ z ≤ no ∧ Hid (McAt wa wr b m M D' (.slice A1 n1 c1) qs (some ⟨bb, off, none⟩) n2 c2 l gi n1 (fun i => Mm.tg qs (cs.take j) i || decide ((i : Int) ∈ L.take z))) ∧ Hid (Fr [gi] w4 wr)) (fun i _ => no - (intOf i).toNat)
          case atStart => exact ⟨0, rfl, Nat.zero_le _, Lib.hid (MC2.out.congr (fun i _ => by simp)), Lib.hid (Fr.refl _ _)⟩
          case round =>
            obtain ⟨z, rfl, hz, MC3, HF⟩ := hrel
            by_cases hzn : z < no
            · have hzL : z < L.length := by rw [← HNL.out]; exact hzn
              obtain ⟨xn, hxq, hxe, -⟩ := Mm.hits_range HL.out (List.getElem_mem hzL)
              have hxn : xn < n1 := by rw [HN1.out]; exact hxq
              have hxn' : (xn : Int) < (n1 : Int) := by omega
              have hx0 : decide ((xn : Int) < 0) = false := decide_eq_false (by omega)
              have hx1 : decide ((n1 : Int) ≤ (xn : Int)) = false := decide_eq_false (by omega)
              have ho3 := HO.out.fr HF.out (fun g hg => by
                have := HO.out.ne MC2.out.in_ (by decide) hg
                simpa using this)
              obtain ⟨bo, oo, hAo, -, hco⟩ := (ho3.at1 encJ_len).1.int hzL
              subst hAo
              rw [hxe] at hco
              have y0 : wr.cell? ⟨gi, xn, none⟩ = some (.bool (Mm.tg qs (cs.take j) xn || decide ((xn : Int) ∈ L.take z))) := (MC3.out.in_.cell xn).trans (arr_get hxn)
              have z0 := MC3.out.in_.frozen xn
              have HX := Lib.hid hxe
              clear hxe hxq ho3
              go_wp2_with fail
              go_roundw
              case rel => exact ⟨z + 1, by go_num, by omega, Lib.hid (MC3.out.set (fun i _ => by
                rw [(take_snoc hzL).1, HX.out, Bool.or_assoc]
                congr 1
                rw [Bool.eq_iff_iff]
                simp only [List.mem_append, List.mem_singleton, decide_eq_true_eq, Bool.or_eq_true]
                constructor
                · rintro (h | h)
                  · exact .inl h
                  · exact .inr (by omega)
                · rintro (h | h)
                  · exact .inl h
                  · exact .inr (by omega))), Lib.hid (HF.out.setCell (.inl (by simp)) _)⟩
              case measure => simp [intOf]; omega
            · have hzo : L.take z = L := List.take_of_length_le (by rw [← HNL.out]; omega)
              have HZO := Lib.hid hzo
              clear hzo
              go_wp2_with fail
              go_roundw
              case rel => exact ⟨j + 1, D', by go_num, by omega, Lib.hid (MC3.out.congr (fun i _ => by
                rw [HZO.out]
                exact (Mm.tg_succ hjc HL.out i).symm))⟩
              case measure => simp [intOf]; omega
        · obtain rfl : j = nk := by omega
          have HM := Lib.hid (MC.out.mg.match_ pk Ak j ck cs hhc HNK.out (by omega) HCK.out)
          have hcst : cs.take j = cs := List.take_of_length_le (by rw [← HNK.out]; exact Nat.le_refl _)
          rw [hcst] at MC
          clear hcst hhc
          go_wp2_with fail
          refine HM.out.mono ?_
          rintro e w5 ⟨Ao, no, co, L, rfl, hol, hnl, hL, hfb, D', hmg, hd⟩
          have MC2 := Lib.hid (MC.out.next hmg hfb hd)
          have HO := Lib.hid hol
          have HNL := Lib.hid hnl
          have HL := Lib.hid hL
          have hno : no ≤ 40 := by
            rw [hnl, hL]
            have := Mm.hits_len (qs := qs) (cs := cs) qs.length
            have := HN1.out
            omega
          clear HM hol hnl hL hmg hd hfb MC hc0 hc1 hbb
          go_wp2_with fail
          go_loopw [15, 16] (fun a i wr => ∃ z p : Nat, a = .int .i64 p ∧ i = .int .i64 z ∧ z ≤ n1 ∧ p ≤ z ∧ Hid (p = (Mm.hits qs cs z).length) ∧ Hid (Fr [] w5 wr)) (fun _ i _ => n1 - (intOf i).toNat)
          case atStart => exact ⟨0, 0, rfl, rfl, Nat.zero_le _, Nat.le_refl _, Lib.hid rfl, Lib.hid (Fr.refl _ _)⟩
          case round =>
            obtain ⟨z, p, rfl, rfl, hz, hpz, HP, HF⟩ := hrel
            by_cases hzn : z < n1
            · have hzq : z < qs.length := by rw [← HN1.out]; exact hzn
              have hzn' : (z : Int) < (n1 : Int) := by omega
              have y0 : wr.cell? ⟨gi, z, none⟩ = some (.bool (Mm.tg qs cs z)) := ((MC2.out.fr0 HF.out).in_.cell z).trans (arr_get hzn)
              obtain ⟨tb, HT⟩ : ∃ t, Hid (Mm.tg qs cs z = t) := ⟨_, Lib.hid rfl⟩
              rw [HT.out] at y0
              have HTA : Hid (cs.any (Pm.touches qs[z]) = tb) := Lib.hid (by rw [← Mm.tg_at hzq]; exact HT.out)
              cases tb
              · have HMI := Lib.hid (congrArg List.length (Mm.hits_neg hzq HTA.out))
                go_wp2_with fail
                go_roundw
                case rel => exact ⟨z + 1, p, rfl, by go_num, by omega, by omega, Lib.hid (by rw [HMI.out]; exact HP.out), HF⟩
                case measure => simp [intOf]; omega
              · have HMI := Lib.hid (congrArg List.length (Mm.hits_pos hzq HTA.out))
                go_wp2_with fail
                go_roundw
                case rel => exact ⟨z + 1, p + 1, by go_num, by go_num, by omega, by omega, Lib.hid (by rw [HMI.out, List.length_append, HP.out]; rfl), HF⟩
                case measure => simp [intOf]; omega
            · obtain rfl : z = n1 := by omega
              have hpn : p = no := by rw [HP.out, HNL.out, HL.out, HN1.out]
              have hpn' : ((no : Int) != (p : Int)) = false := by rw [hpn]; simp
              clear hpn
              replace MC2 := Lib.hid (MC2.out.fr0 HF.out)
              replace HO := Lib.hid (HO.out.fr HF.out (by simp))
              go_wp2_with fail
              go_loopw [17] (fun i wr2 => ∃ y : Nat, i = .int .i64 y ∧ y ≤ no ∧ Hid (McAt wa wr2 b m M D' (.slice A1 z c1) qs (some ⟨bb, off, none⟩) n2 c2 l gi z (fun i => Mm.tg qs cs i)) ∧ Hid (OwnL 3 1 encJ wr2 (.slice Ao no co) L)) (fun i _ => no - (intOf i).toNat)
              case atStart => exact ⟨0, rfl, Nat.zero_le _, MC2, HO⟩
              case round =>
                clear MC2 HO HF
                obtain ⟨y, rfl, hy, MC2, HO⟩ := hrel
                by_cases hyn : y < no
                · have hyL : y < L.length := by rw [← HNL.out]; exact hyn
                  obtain ⟨xn, hxq, hxe, hxt⟩ := Mm.hits_range HL.out (List.getElem_mem hyL)
                  have hxn : xn < z := by rw [HN1.out]; exact hxq
                  have hxn' : (xn : Int) < (z : Int) := by omega
                  have hx0 : decide ((xn : Int) < 0) = false := decide_eq_false (by omega)
                  have hx1 : decide (z ≤ xn) = false := decide_eq_false (by omega)
                  obtain ⟨bo, oo, hAo, hbo, hco⟩ := (HO.out.at1 encJ_len).1.int hyL
                  subst hAo
                  rw [hxe] at hco
                  have y0 : wr.cell? ⟨gi, xn, none⟩ = some (.bool true) := ((MC2.out.in_.cell xn).trans (arr_get hxn)).trans (by rw [Mm.tg_at hxq, hxt])
                  have HX := Lib.hid hxe
                  clear hxe hxt hxq
                  by_cases hy0 : y = 0
                  · subst hy0
                    simp only [Nat.add_zero] at hco
                    have hcoL : ∀ p : Later wr, p.w.cell? ⟨bo, oo, none⟩ = some (.int .i64 (xn : Int)) := fun p => p.cell hbo hco
                    have y0L : ∀ p : Later wr, p.w.cell? ⟨gi, xn, none⟩ = some (.bool true) := fun p => p.cell MC2.out.in_.lt y0
                    clear hco y0
                    go_wp2_with fail
                    refine wp_region_later (by kernel_rfl) (by kernel_rfl) ?_
                    repeat (go_big_quiet_step (fail))
                    refine wpQuiet_nil ?_
                    rintro w' ⟨⟨wz, fq⟩, rfl⟩
                    have FQ := Lib.hid fq
                    clear fq hcoL y0L
                    go_wp2_with fail
                    go_roundw
                    case rel => exact ⟨1, by go_num, by omega, Lib.hid (MC2.out.fr0 FQ.out), Lib.hid (HO.out.fr FQ.out (by simp))⟩
                    case measure => simp [intOf]; omega
                  · obtain ⟨u, rfl⟩ : ∃ u, y = u + 1 := ⟨y - 1, by omega⟩
                    have huL : u < L.length := by omega
                    obtain ⟨xu, -, hue, -⟩ := Mm.hits_range HL.out (List.getElem_mem huL)
                    obtain ⟨bo', oo', hAo', -, hcu⟩ := (HO.out.at1 encJ_len).1.int huL
                    injection hAo' with hAo'
                    injection hAo' with h1 h2
                    subst h1 h2
                    rw [hue] at hcu
                    have hlt : xu < xn := by
                      have h1 := (List.pairwise_iff_getElem.1 (Mm.hits_asc (qs := qs) (cs := cs) (Nat.le_refl _)))
                      rw [← HL.out] at h1
                      have h2 := h1 u (u + 1) huL hyL (by omega)
                      have h3 := HX.out
                      omega
                    have hle : decide (xn ≤ xu) = false := decide_eq_false (by omega)
                    have hps : decide ((0 : Int) < (u : Int) + 1) = true := decide_eq_true (by omega)
                    have hun : (u : Int) < (no : Int) := by omega
                    clear hue huL hy0 hlt
                    have hcoL : ∀ p : Later wr, p.w.cell? ⟨bo, oo + (u + 1), none⟩ = some (.int .i64 (xn : Int)) := fun p => p.cell hbo hco
                    have y0L : ∀ p : Later wr, p.w.cell? ⟨gi, xn, none⟩ = some (.bool true) := fun p => p.cell MC2.out.in_.lt y0
                    have hcuL : ∀ p : Later wr, p.w.cell? ⟨bo, oo + u, none⟩ = some (.int .i64 (xu : Int)) := fun p => p.cell hbo hcu
                    clear hco y0 hcu
                    go_wp2_with fail
                    refine wp_region_later (by kernel_rfl) (by kernel_rfl) ?_
                    repeat (go_big_quiet_step (fail))
                    refine wpQuiet_nil ?_
                    rintro w' ⟨⟨wz, fq⟩, rfl⟩
                    have FQ := Lib.hid fq
                    clear fq hcoL y0L hcuL
                    go_wp2_with fail
                    go_roundw
                    case rel => exact ⟨u + 1 + 1, by go_num, by omega, Lib.hid (MC2.out.fr0 FQ.out), Lib.hid (HO.out.fr FQ.out (by simp))⟩
                    case measure => simp [intOf]; omega
                · go_wp2_with fail
                  go_roundw
                  case rel => exact ⟨k + 1, D', by go_num, by omega, Lib.hid MC2.out.mg⟩
                  case measure => simp [intOf]; omega
    · go_wp2_with fail
      go_ret
      exact ⟨rfl, (FA.out.trans MG.out.fr).below⟩
end Go.Proofs.YtciaallekkdnhaaGreat

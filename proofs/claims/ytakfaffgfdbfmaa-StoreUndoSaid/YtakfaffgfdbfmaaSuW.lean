/-
  StoreUndo: the walk of the law.
-/
import Derived.Test.YtakfaffgfdbfmaaSwC
import Derived.Test.YtakfaffgfdbfmaaLgE
import Derived.Test.YtakfaffgfdbfmaaSwB
import Derived.Test.YtakfaffgfdbfmaaSwP
import Derived.Test.YtakfaffgfdbfmaaStU
import Derived.Deep.DeepCutAuto
import Derived.Deep.RegionLaw
import Derived.StillTailTactics
namespace Go.Proofs.Ytakfaffgfdbfmaa
open Go.RowKit

/-- Between two rounds of the undoing. -/
structure UnRel (w2 w4 wr : World) (l : List Rec) (b m i : Nat) : Prop where
  st : ∃ s, StaAt wr b m s ∧ s.pos = l.length + i ∧ s.M.Perm (Lg.run (l.take (l.length - i))).M
  fr : Fr [] w2 wr
  fr4 : Fr [b, m] w4 wr
/-- Between two rounds of the loop over a record's changes. -/
structure UnIn (wo wr : World) (gr : Nat) (pos : Int) (cs : List Chg) (k : Nat) : Prop where
  all : ∃ v, Blk wr gr 32 #[.int .i64 pos, v] ∧ OwnL 57 10 Chg.cells wr v ((cs.take k).map Sm.swapC) ∧ ∀ g, v.ownBlock = some g → wo.heap.size ≤ g
  fr : Fr [] wo wr

set_option maxRecDepth 100000 in
set_option maxHeartbeats 4000000 in
theorem undo_walk (A : Option Addr) (n cap : Nat) (back : Int) (w : World) (hn : n ≤ cap) (hcap : cap ≤ maxLen) (hx : n = 0 ∨ ∃ bx ox, A = some ⟨bx, ox, none⟩ ∧ SixAt w bx ox n) (hbk : okI back) :
    Calls Try.prog 5 #[.slice A n cap, .int .i64 back] w fun e w' => e = .returned (.bool true) ∧ Below w.heap.size w w' := by
  have HX := Lib.hid hx
  have hbb := okI_bounds hbk
  clear hx hbk
  go_enter Try.func5, Try.ntmps5
  go_wp2_with fail
  refine (sane_any _).mono ?_
  rintro e w1 ⟨rfl, f1⟩
  have F1 := Lib.hid f1
  go_wp2_with fail
  refine (log4_any A n cap w1 hn hcap (by
    rcases HX.out with h0 | ⟨bx, ox, h1, h2⟩
    · exact .inl h0
    · exact .inr ⟨bx, ox, h1, h2.fr0 F1.out⟩)).mono ?_
  rintro e w2 ⟨vl, l, rfl, hor, hok, hll, f2, hvo⟩
  obtain ⟨A2, n2, cap2, hv⟩ : ∃ A n c, vl = .slice A n c := by
    obtain ⟨us, hus, _⟩ := hor
    obtain ⟨A2, cap2, hv⟩ := hus.val
    exact ⟨_, _, _, hv⟩
  subst hv
  obtain ⟨hat, hnl⟩ := hor.recs
  subst hnl
  have hc2 : l.length ≤ cap2 := hor.cap
  have HAT := Lib.hid hat
  have HOK := Lib.hid hok
  have F2 := Lib.hid f2
  have HP := Lib.hid (fun W => pick_any back (l.length + 1) W hbb.1 hbb.2 (by omega) (by omega))
  obtain ⟨q, hq, hql⟩ : ∃ q : Nat, pickI back (l.length + 1) = q ∧ q ≤ l.length := by
    have h1 := pickI_nonneg back (n := (l.length : Int) + 1) (by omega)
    have h2 := pickI_lt back (n := (l.length : Int) + 1) (by omega)
    exact ⟨(pickI back (l.length + 1)).toNat, by omega, by omega⟩
  rw [hq] at HP
  clear hq hor hat hok f1 f2 hbb
  go_wp2_with fail
  refine (HP.out _).mono ?_
  rintro e w3 ⟨rfl, rfl⟩
  go_wp2_with fail
  refine (sat_ok A2 cap2 l l.length w2 HAT.out (by omega) (Nat.le_refl _) hc2 (fun i h _ => HOK.out.fits i h)).mono ?_
  rintro e w3 ⟨b, m, rfl, hst, f3, hb, hm⟩
  have HST := Lib.hid hst
  have F3 := Lib.hid f3
  have HAT3 := Lib.hid (HAT.out.fr0 f3)
  clear hst f3
  have e1 : (l.length : Int) - (q : Int) = ((l.length - q : Nat) : Int) := by omega
  go_wp2_with fail

  refine (sat_ok A2 cap2 l (l.length - q) w3 HAT3.out (by omega) (by omega) hc2 (fun i h _ => HOK.out.fits i h)).mono ?_
  rintro e w4 ⟨b', m', rfl, hst', f4, hb', hm'⟩
  have HST' := Lib.hid hst'
  have F4 := Lib.hid f4
  clear hst' f4
  have HAT4 := Lib.hid (HAT3.out.fr0 F4.out)
  have hbl := HST.out.lt
  have R0 : Hid (UnRel w2 w4 w4 l b m 0) := Lib.hid ⟨⟨Lg.run l, by rw [← Lg.run_all]; exact HST.out.fr0 F4.out, by have := HOK.out.pos l.length (Nat.le_refl _); rw [Lg.run_all] at this; rw [this]; rfl, by rw [Nat.sub_zero, Lg.run_all]⟩, F3.out.trans F4.out, Fr.refl _ _⟩
  go_wp2_with fail
  go_loopw [12] (fun i wr => ∃ i0 : Nat, i = .int .i64 i0 ∧ i0 ≤ q ∧ Hid (UnRel w2 w4 wr l b m i0)) (fun i _ => q - (intOf i).toNat)
  case atStart => exact ⟨0, rfl, Nat.zero_le _, R0⟩
  case round =>
    clear R0
    obtain ⟨i, rfl, hi, HR⟩ := hrel
    by_cases hlt : i < q
    · obtain ⟨Wo, hWo⟩ : ∃ W, W = wr := ⟨_, rfl⟩
      subst hWo
      obtain ⟨p, hp⟩ : ∃ p : Nat, p = l.length - 1 - i := ⟨_, rfl⟩
      have hpl : p < l.length := by omega
      have ep : (l.length : Int) - 1 - (i : Int) = (p : Int) := by omega
      obtain ⟨bb, off, Ak, ck, hA, hbb, hc0, hc1, hhc, hl8⟩ := (HAT.out.fr0 HR.out.fr).open_ hpl
      subst hA
      obtain ⟨r, hr⟩ : ∃ r, l[p] = r := ⟨_, rfl⟩
      have HRQ := Lib.hid hr
      rw [hr] at hc0 hc1 hhc hl8
      rw [hp] at hc1
      have HHC := Lib.hid hhc
      clear hr hhc hc0
      have hbr := Blk.new Wo 32 #[.int .i64 (l.length + i + 1), .slice none 0 0]
      have RI : Hid (UnIn Wo (Wo.alloc (.cells #[.int .i64 (l.length + i + 1), .slice none 0 0] 32)) Wo.heap.size (l.length + i + 1) r.cs 0) := Lib.hid ⟨⟨_, hbr, OwnL.nil, fun g hg => by simp [Value.ownBlock] at hg⟩, (Fr.refl _ _).alloc _⟩
      clear hbr
      go_wp2_with fail
      generalize hgr : Wo.heap.size = gr at RI ⊢
      have HGR := Lib.hid hgr
      clear hgr
      go_loopw [15] (fun k wr => ∃ k0 : Nat, k = .int .i64 k0 ∧ k0 ≤ r.cs.length ∧ Hid (UnIn Wo wr gr (l.length + i + 1) r.cs k0)) (fun k _ => r.cs.length - (intOf k).toNat)
      case atStart => exact ⟨0, rfl, Nat.zero_le _, RI⟩
      case round =>
        clear RI
        obtain ⟨k, rfl, hk, HI⟩ := hrel
        by_cases hkl : k < r.cs.length
        · obtain ⟨v, hbv, hov, hvg⟩ := HI.out.all
          obtain ⟨b0, o0, hA, hb0, hcc⟩ := HHC.out.1 (by omega)
          subst hA
          obtain ⟨c, hc⟩ : ∃ c, r.cs[k] = c := ⟨_, rfl⟩
          have HCQ := Lib.hid hc
          have hz : ∀ j, j < 10 → wr.cell? ⟨b0, o0 + k * 10 + j, none⟩ = c.cells[j]? := fun j hj => by
            rw [HI.out.fr.cell (p := ⟨b0, o0 + k * 10 + j, none⟩) hb0 (by simp), hcc k hkl j hj, hc]
          have z0 : wr.cell? ⟨b0, o0 + k * 10, none⟩ = some (.int .i64 c.t) := hz 0 (by decide)
          have z1 : wr.cell? ⟨b0, o0 + k * 10 + 1, none⟩ = some (.int .i64 c.k) := hz 1 (by decide)
          have z2 : wr.cell? ⟨b0, o0 + k * 10 + 2, none⟩ = some (.bool c.had) := hz 2 (by decide)
          have z3 : wr.cell? ⟨b0, o0 + k * 10 + 3, none⟩ = some (.int .i64 c.o0) := hz 3 (by decide)
          have z4 : wr.cell? ⟨b0, o0 + k * 10 + 4, none⟩ = some (.int .i64 c.o1) := hz 4 (by decide)
          have z5 : wr.cell? ⟨b0, o0 + k * 10 + 5, none⟩ = some (.int .i64 c.o2) := hz 5 (by decide)
          have z6 : wr.cell? ⟨b0, o0 + k * 10 + 6, none⟩ = some (.bool c.has) := hz 6 (by decide)
          have z7 : wr.cell? ⟨b0, o0 + k * 10 + 7, none⟩ = some (.int .i64 c.n0) := hz 7 (by decide)
          have z8 : wr.cell? ⟨b0, o0 + k * 10 + 8, none⟩ = some (.int .i64 c.n1) := hz 8 (by decide)
          have z9 : wr.cell? ⟨b0, o0 + k * 10 + 9, none⟩ = some (.int .i64 c.n2) := hz 9 (by decide)
          have HVG := Lib.hid hvg
          obtain ⟨An, nn, cn, hvn⟩ : ∃ A n c, v = .slice A n c := by
            obtain ⟨A, cap, hv⟩ := hov.val
            exact ⟨_, _, _, hv⟩
          subst hvn
          have r1 := hbv.cell 1
          have r1z := hbv.frozen 1
          have hgl := hbv.lt
          clear hz hcc hc
          have HBV := Lib.hid hbv
          have HOV := Lib.hid hov
          have f2a : Fr [] wr ((wr.alloc (.cells #[.int .i64 c.t, .int .i64 c.k, .bool c.had, .int .i64 c.o0, .int .i64 c.o1, .int .i64 c.o2, .bool c.has, .int .i64 c.n0, .int .i64 c.n1, .int .i64 c.n2] 57)).alloc (.cells #[.int .i64 c.t, .int .i64 c.k, .bool c.has, .int .i64 c.n0, .int .i64 c.n1, .int .i64 c.n2, .bool c.had, .int .i64 c.o0, .int .i64 c.o1, .int .i64 c.o2] 57)) := ((Fr.refl _ _).alloc _).alloc _
          have hov4 := hov.keep0 f2a
          have hrn : Hid (Reads ((wr.alloc (.cells #[.int .i64 c.t, .int .i64 c.k, .bool c.had, .int .i64 c.o0, .int .i64 c.o1, .int .i64 c.o2, .bool c.has, .int .i64 c.n0, .int .i64 c.n1, .int .i64 c.n2] 57)).alloc (.cells #[.int .i64 c.t, .int .i64 c.k, .bool c.has, .int .i64 c.n0, .int .i64 c.n1, .int .i64 c.n2, .bool c.had, .int .i64 c.o0, .int .i64 c.o1, .int .i64 c.o2] 57)) (wr.heap.size + 1 + 1) 10 (some ⟨wr.heap.size + 1, 0, none⟩) 1 ([Sm.swapC c].flatMap Chg.cells)) := Lib.hid (by
            have h1 := reads_new (enc := Chg.cells) (wr.alloc (.cells #[.int .i64 c.t, .int .i64 c.k, .bool c.had, .int .i64 c.o0, .int .i64 c.o1, .int .i64 c.o2, .bool c.has, .int .i64 c.n0, .int .i64 c.n1, .int .i64 c.n2] 57)) 57 (Sm.swapC c) rfl
            rw [World.size_alloc] at h1
            exact h1)
          have hll0 : Hid (((r.cs.take k).map Sm.swapC).length + [Sm.swapC c].length ≤ 140) := Lib.hid (by simp only [List.length_map, List.length_take, List.length_singleton]; omega)
          have hmx : Hid ((140 : Nat) ≤ maxLen) := Lib.hid (by decide)
          obtain ⟨i0, TR⟩ := etChg
          clear f2a hbv hov hvg
          go_wp2_with (at_builtin; refine wpList_appendL rfl _ _ rfl TR Chg.len Chg.one rfl hov4 _ _ _ _ [Sm.swapC c] rfl rfl hrn.out (Nat.le_trans hll0.out hmx.out) (Nat.le_trans (Nat.mul_le_mul_right 80 hll0.out) (by decide)) ?_; intro v5 w5 hown5 hg5 hat5; have HO5 := Lib.hid hown5; have HG5 := Lib.hid hg5; have HA5 := Lib.hid hat5; obtain ⟨A5, n5, c5, hv5⟩ : ∃ A n c, v5 = .slice A n c := (match hown5.val with | ⟨_, _, hv⟩ => ⟨_, _, _, hv⟩); subst hv5; clear hown5 hg5 hat5; have F5 : Fr (Value.slice An nn cn).ownBlock.toList wr w5 := (((Fr.refl _ _).alloc _).alloc _).grown HG5.out (fun g hg => .inl (Option.mem_toList.2 hg)); have hb5 := HBV.out.fr F5 (fun hm => HOV.out.ne HBV.out (by decide) (Option.mem_toList.1 hm) rfl); have HB5 := Lib.hid hb5; have HF5 := Lib.hid F5; have s1 := hb5.cell 1; have s1z := hb5.frozen 1; have s1l := hb5.lt; clear hb5 F5)
          have R2 : Hid (UnIn Wo (w5.setCell ⟨gr, 1, none⟩ (.slice A5 n5 c5)) gr (l.length + i + 1) r.cs (k + 1)) := Lib.hid ⟨⟨.slice A5 n5 c5, by have h1 := HB5.out.set_ 1 (.slice A5 n5 c5); simpa using h1,
              by
                have h1 := HO5.out.fr ((Fr.refl [gr] w5).setCell (p := ⟨gr, 1, none⟩) (.inl (by simp)) (.slice A5 n5 c5)) (fun g hg => by
                  have h2 := HO5.out.ne HB5.out (by decide) hg
                  simpa using h2)
                rw [List.take_succ_eq_append_getElem hkl, List.map_append, HCQ.out]
                exact h1,
              fun g hg => by
                rcases HA5.out with h1 | h1
                · exact HVG.out g (h1.symm.trans hg)
                · rw [hg] at h1
                  injection h1 with h1
                  have h2 := HI.out.fr.size
                  rw [World.size_alloc, World.size_alloc] at h1
                  omega⟩, (HI.out.fr.trans' HF5.out (fun g hg => .inr (HVG.out g (Option.mem_toList.1 hg)))).setCell (p := ⟨gr, 1, none⟩) (.inr (Nat.le_of_eq HGR.out)) _⟩
          go_roundw
          case rel => exact ⟨k + 1, by go_num, by omega, R2⟩
          case measure => simp [intOf]; omega
        · have hkq : k = r.cs.length := by omega
          subst hkq
          obtain ⟨v, hbv, hov, hvg⟩ := HI.out.all
          rw [List.take_length] at hov
          obtain ⟨A', n', cap', hv, hn'⟩ : ∃ A n c, v = .slice A n c ∧ n = (r.cs.map Sm.swapC).length := (match hov.val with | ⟨_, _, hv⟩ => ⟨_, _, _, hv, rfl⟩)
          subst hv
          obtain ⟨s, hs, hsp, hsm⟩ := HR.out.st
          have hfit := HOK.out.fits p hpl
          have hps := Lg.run_succ l hpl
          rw [HRQ.out] at hfit hps
          have hU := Sm.undo (s := Lg.run (l.take p)) (s1 := s) (r := r) (Lg.run_ok _) hs.ok hfit (by rw [← hps, show p + 1 = l.length - i from by omega]; exact hsm) (by rw [hsp]; omega)
          obtain ⟨hU1, hU2⟩ := hU
          have hrr : Sm.undoR (s.pos + 1) r = ⟨l.length + i + 1, r.cs.map Sm.swapC⟩ := by unfold Sm.undoR; rw [hsp]
          rw [hrr] at hU1 hU2
          have hcode : Hid (Sm.code s ⟨l.length + i + 1, r.cs.map Sm.swapC⟩ = 0) := Lib.hid (Lg.code_zero.2 hU1)
          have hap := Lib.hid (sapply_n b m s ⟨l.length + i + 1, r.cs.map Sm.swapC⟩ A' n' cap' (l.length + i + 1) wr (hs.fr0 HI.out.fr) hov.holdsC (by rw [List.length_map]; exact hl8) hn' rfl)
          have HU := Lib.hid hU2
          have HPP : Hid ((Sm.apply s ⟨l.length + i + 1, r.cs.map Sm.swapC⟩).pos = l.length + ((i + 1 : Nat) : Int)) := Lib.hid (by rw [(Lg.fits_pos hU1).2]; dsimp only; omega)
          have r0 : wr.cell? ⟨gr, 0, none⟩ = some (.int .i64 (l.length + i + 1)) := hbv.cell 0
          have r1 : wr.cell? ⟨gr, 1, none⟩ = some (.slice A' n' cap') := hbv.cell 1
          clear hn' hbv hov hvg hs hsp hsm hfit hps hU1 hU2 hrr
          go_wp2_with fail
          refine hap.out.mono ?_
          rintro e w6 ⟨rfl, hst, hf⟩
          rw [hcode.out]
          have R3 : Hid (UnRel w2 w4 w6 l b m (i + 1)) := Lib.hid ⟨⟨_, hst, HPP.out, by rw [show l.length - (i + 1) = p from by omega]; exact HU.out⟩,
            (HR.out.fr.trans HI.out.fr).trans' hf (fun x hx => .inr (by
              simp only [List.mem_cons, List.not_mem_nil, or_false] at hx
              rcases hx with rfl | rfl <;> omega)),
            (HR.out.fr4.trans' HI.out.fr (by simp)).trans' hf (fun x hx => .inl hx)⟩
          clear hst hf hap
          go_wp2_with fail
          go_roundw
          case rel => exact ⟨i + 1, by go_num, by omega, R3⟩
          case measure => simp [intOf]; omega
    · have hiq : i = q := by omega
      subst hiq
      obtain ⟨s, hs, hsp, hsm⟩ := HR.out.st
      have hne := HST'.out.lt
      have HE := Lib.hid (equal_any b m b' m' s (Lg.run (l.take (l.length - i))) wr hs (HST'.out.fr HR.out.fr4 (by simp; omega) (by simp; omega)) hsm)
      have HFF := Lib.hid ((F1.out.trans F2.out).trans HR.out.fr)
      clear hs hsp hsm
      go_wp2_with fail
      refine (HE.out).mono ?_
      rintro e w5 ⟨rfl, f5⟩
      go_wp2_with fail
      go_ret
      exact ⟨rfl, (HFF.out.trans f5).below⟩
end Go.Proofs.Ytakfaffgfdbfmaa

/-
  MatchMatchesReference: the walk of the law.
-/
import Derived.Test.YtciaallekkdnhaaGreatMuG
import Derived.Deep.DeepCutAuto
import Derived.Deep.RegionHeld3
import Derived.Deep.CutBlock
namespace Go.Proofs.YtciaallekkdnhaaGreat
open Go.RowKit

set_option maxRecDepth 100000 in
set_option maxHeartbeats 8000000 in
theorem mmr_walk (A : Option Addr) (n cap : Nat) (B : Option Addr) (nb cb : Nat) (z : Int) (Ar : Option Addr) (nr cr : Nat) (cs : List Chg) (w : World) (_hn : n ≤ cap) (hcap : cap ≤ maxLen) (hx : n = 0 ∨ ∃ bx ox, A = some ⟨bx, ox, none⟩ ∧ StpAt w bx ox n) (hnb : nb ≤ cb) (hcb : cb ≤ maxLen) (hy : nb = 0 ∨ ∃ bx ox, B = some ⟨bx, ox, none⟩ ∧ SixAt w bx ox nb)
    (hnr : nr ≤ cr) (hcr : cr ≤ maxLen) (hl : cs.length = nr) (hc : ChgsAt w Ar cs) (hf : ∀ c ∈ cs, ChgFit c) :
    Calls Tryz.prog 3 #[.slice A n cap, .slice B nb cb, .agg #[.int .i64 z, .slice Ar nr cr]] w fun e w' => e = .returned (.bool true) ∧ Below w.heap.size w w' := by
  have hb63 : cap < 9223372036854775808 := by simp only [maxLen] at hcap; omega
  have hc63 : cr < 9223372036854775808 := by simp only [maxLen] at hcr; omega
  have HX := Lib.hid hx
  have HY := Lib.hid hy
  have HL := Lib.hid hl
  have HC := Lib.hid hc
  have HCF := Lib.hid hf
  have HCAP := Lib.hid (And.intro hnb (And.intro hcb hcr))
  have HB0 := Lib.hid (Blk.new w 26 #[.int .i64 z, .slice Ar nr cr])
  have HF0 := Lib.hid ((Fr.refl [] w).alloc (.cells #[.int .i64 z, .slice Ar nr cr] 26))
  clear hx hy hl hc hf hcap hcb hcr hnb
  go_enter Tryz.func3, Tryz.ntmps3
  go_wp2_with fail
  refine (msane_any _).mono ?_
  rintro e wa ⟨rfl, fa⟩
  have FA := Lib.hid (HF0.out.trans fa)
  have HB1 := Lib.hid (HB0.out.fr fa (by simp))
  clear fa HF0 HB0
  go_wp2_with fail
  refine (mnew_any _).mono ?_
  rintro e w1 ⟨rfl, hix, f1⟩
  have F1 := Lib.hid (FA.out.trans f1)
  have HIX := Lib.hid hix
  have HB2 := Lib.hid (HB1.out.fr f1 (by simp))
  have HS1 : Hid (w.heap.size ≤ wa.heap.size + 1 ∧ w.heap.size ≤ wa.heap.size) := Lib.hid (by have := FA.out.size; omega)
  clear hix f1 HB1 FA
  generalize wa.heap.size + 1 = b at *
  generalize wa.heap.size = m at *
  go_wp2_with fail
  refine (rxnew_any _).mono ?_
  rintro e w2 ⟨rfl, hrx, f2⟩
  have MZ : Hid (MzAt w w2 b m w1.heap.size w.heap.size [] [] (.slice none 0 0) [] #[.int .i64 z, .slice Ar nr cr]) := Lib.hid ⟨HIX.out.fr0 f2, hrx, HB2.out.fr f2 (by simp), F1.out.trans f2, by have h1 := HS1.out; have h2 := F1.out.size; omega⟩
  have HSQ : Hid (w.heap.size < w2.heap.size) := Lib.hid MZ.out.raw.lt
  clear hrx f2 HIX HB2 F1 HS1
  generalize w1.heap.size = bx at *
  obtain ⟨gr, hgr⟩ : ∃ x, w.heap.size = x := ⟨_, rfl⟩
  have HGR := Lib.hid hgr
  rw [hgr] at MZ HSQ ⊢
  clear hgr
  go_upto_block 0 with (fail)
  go_cut [] (fun wc => ∃ (M : Mm.Ix) (v : Value) (R : Rx.Rl), Hid (MzAt w wc b m bx gr M M v R #[.int .i64 z, .slice Ar nr cr]))
  case first =>
    go_wp2_with fail
    go_loopw [10] (fun i wr => ∃ (k : Nat) (M : Mm.Ix) (v : Value) (R : Rx.Rl), i = .int .i64 k ∧ k ≤ 50 ∧ k ≤ n ∧ Hid (MzAt w wr b m bx gr M M v R #[.int .i64 z, .slice Ar nr cr])) (fun i _ => 50 - (intOf i).toNat)
    case atStart => exact ⟨0, [], _, [], rfl, by decide, Nat.zero_le _, MZ⟩
    case round =>
      clear MZ
      obtain ⟨k, M, v, R, rfl, hk50, hkn, MZ⟩ := hrel
      by_cases hlt : k < n
      · by_cases h50 : k < 50
        · obtain ⟨bx0, ox, hA, hS⟩ : ∃ bx ox, A = some ⟨bx, ox, none⟩ ∧ StpAt w bx ox n := by
            rcases HX.out with h0 | h
            · omega
            · exact h
          subst hA
          obtain ⟨st, hfit, hce⟩ := hS.cell k hlt
          have HCW : Hid (∀ W, Fr [] w W → ∀ j, j < 14 → W.cell? ⟨bx0, ox + k * 14 + j, none⟩ = st.cells[j]?) := Lib.hid (fun W hW j hj => (hW.rules.1 bx0 _ hS.lt).trans (hce j hj))
          have c0 : wr.cell? ⟨bx0, ox + k * 14, none⟩ = some (.int .i64 st.call) := HCW.out wr MZ.out.fr 0 (by decide)
          have c1 : wr.cell? ⟨bx0, ox + k * 14 + 1, none⟩ = some (.int .i64 st.id) := HCW.out wr MZ.out.fr 1 (by decide)
          have c2 : wr.cell? ⟨bx0, ox + k * 14 + 2, none⟩ = some (.int .i64 st.x0) := HCW.out wr MZ.out.fr 2 (by decide)
          have c3 : wr.cell? ⟨bx0, ox + k * 14 + 3, none⟩ = some (.int .i64 st.x1) := HCW.out wr MZ.out.fr 3 (by decide)
          have c4 : wr.cell? ⟨bx0, ox + k * 14 + 4, none⟩ = some (.int .i64 st.x2) := HCW.out wr MZ.out.fr 4 (by decide)
          have c5 : wr.cell? ⟨bx0, ox + k * 14 + 5, none⟩ = some (.int .i64 st.x3) := HCW.out wr MZ.out.fr 5 (by decide)
          have c6 : wr.cell? ⟨bx0, ox + k * 14 + 6, none⟩ = some (.int .i64 st.x4) := HCW.out wr MZ.out.fr 6 (by decide)
          have c7 : wr.cell? ⟨bx0, ox + k * 14 + 7, none⟩ = some (.int .i64 st.raw.kind) := HCW.out wr MZ.out.fr 7 (by decide)
          have c8 : wr.cell? ⟨bx0, ox + k * 14 + 8, none⟩ = some (.int .i64 st.raw.table) := HCW.out wr MZ.out.fr 8 (by decide)
          have c9 : wr.cell? ⟨bx0, ox + k * 14 + 9, none⟩ = some (.int .i64 st.raw.column) := HCW.out wr MZ.out.fr 9 (by decide)
          have c10 : wr.cell? ⟨bx0, ox + k * 14 + 10, none⟩ = some (.int .i64 st.raw.low) := HCW.out wr MZ.out.fr 10 (by decide)
          have c11 : wr.cell? ⟨bx0, ox + k * 14 + 11, none⟩ = some (.int .i64 st.raw.high) := HCW.out wr MZ.out.fr 11 (by decide)
          have c12 : wr.cell? ⟨bx0, ox + k * 14 + 12, none⟩ = some (.int .i64 st.raw.by_) := HCW.out wr MZ.out.fr 12 (by decide)
          have c13 : wr.cell? ⟨bx0, ox + k * 14 + 13, none⟩ = some (.int .i64 st.raw.other) := HCW.out wr MZ.out.fr 13 (by decide)
          have HP1 := Lib.hid (fun W => mpick_any st.id 30 W hfit.id (by decide) (by decide))
          have HP2 := Lib.hid (fun W => mpick_any st.call 9 W hfit.call (by decide) (by decide))
          have HP3 := Lib.hid (fun W => mpick_any st.call 5 W hfit.call (by decide) (by decide))
          have HPB := Lib.hid (Mm.pick_lt st.id (n := 30) (by decide))
          have HQ := Lib.hid (fun W => query_any st.x0 st.x1 st.x2 st.x3 st.x4 W hfit.x0 hfit.x1 hfit.x2 hfit.x3 hfit.x4)
          have HID := Lib.hid hfit.id
          obtain ⟨p1, HE1⟩ : ∃ x, Hid (Mm.pick st.id 30 = x) := ⟨_, Lib.hid rfl⟩
          obtain ⟨p2, HE2⟩ : ∃ x, Hid (Mm.pick st.call 9 = x) := ⟨_, Lib.hid rfl⟩
          obtain ⟨p3, HE3⟩ : ∃ x, Hid (Mm.pick st.call 5 = x) := ⟨_, Lib.hid rfl⟩
          rw [HE1.out] at HP1 HPB
          rw [HE2.out] at HP2
          rw [HE3.out] at HP3
          have HIP : Hid (okI p1) := Lib.hid (okI_mk (by have := HPB.out; omega) (by have := HPB.out; omega))
          clear hfit hce hS HE1 HE2 HE3 HPB
          go_wp2_with fail
          refine (HP1.out _).mono ?_
          rintro e w' ⟨rfl, rfl⟩
          go_wp2_with fail
          refine (HQ.out _).mono ?_
          rintro e wq ⟨q, rfl, -, fq⟩
          have fq1 := fq.alloc (.cells #[.int .i64 q.kind, .int .i64 q.table, .int .i64 q.column, .int .i64 q.low, .int .i64 q.high, .int .i64 q.by_, .int .i64 q.other] 35)
          have HBQ := Lib.hid (QAt.new wq q)
          have HGQ : Hid (w.heap.size ≤ wq.heap.size) := Lib.hid (Nat.le_trans MZ.out.fr.size fq.size)
          replace MZ := Lib.hid (MZ.out.fr0 fq1)
          clear c0 c1 c2 c3 c4 c5 c6 c7 c8 c9 c10 c11 c12 c13 HP1 HQ fq fq1
          go_upto_region 9 with (fail)
          generalize hw4 : wq.alloc (.cells #[.int .i64 q.kind, .int .i64 q.table, .int .i64 q.column, .int .i64 q.low, .int .i64 q.high, .int .i64 q.by_, .int .i64 q.other] 35) = wq4 at *
          clear hw4
          generalize wq.heap.size = gq at *
          have c0 : wq4.cell? ⟨bx0, ox + k * 14, none⟩ = some (.int .i64 st.call) := HCW.out wq4 MZ.out.fr 0 (by decide)
          have c1 : wq4.cell? ⟨bx0, ox + k * 14 + 1, none⟩ = some (.int .i64 st.id) := HCW.out wq4 MZ.out.fr 1 (by decide)
          have c2 : wq4.cell? ⟨bx0, ox + k * 14 + 2, none⟩ = some (.int .i64 st.x0) := HCW.out wq4 MZ.out.fr 2 (by decide)
          have c3 : wq4.cell? ⟨bx0, ox + k * 14 + 3, none⟩ = some (.int .i64 st.x1) := HCW.out wq4 MZ.out.fr 3 (by decide)
          have c4 : wq4.cell? ⟨bx0, ox + k * 14 + 4, none⟩ = some (.int .i64 st.x2) := HCW.out wq4 MZ.out.fr 4 (by decide)
          have c5 : wq4.cell? ⟨bx0, ox + k * 14 + 5, none⟩ = some (.int .i64 st.x3) := HCW.out wq4 MZ.out.fr 5 (by decide)
          have c6 : wq4.cell? ⟨bx0, ox + k * 14 + 6, none⟩ = some (.int .i64 st.x4) := HCW.out wq4 MZ.out.fr 6 (by decide)
          have c7 : wq4.cell? ⟨bx0, ox + k * 14 + 7, none⟩ = some (.int .i64 st.raw.kind) := HCW.out wq4 MZ.out.fr 7 (by decide)
          have c8 : wq4.cell? ⟨bx0, ox + k * 14 + 8, none⟩ = some (.int .i64 st.raw.table) := HCW.out wq4 MZ.out.fr 8 (by decide)
          have c9 : wq4.cell? ⟨bx0, ox + k * 14 + 9, none⟩ = some (.int .i64 st.raw.column) := HCW.out wq4 MZ.out.fr 9 (by decide)
          have c10 : wq4.cell? ⟨bx0, ox + k * 14 + 10, none⟩ = some (.int .i64 st.raw.low) := HCW.out wq4 MZ.out.fr 10 (by decide)
          have c11 : wq4.cell? ⟨bx0, ox + k * 14 + 11, none⟩ = some (.int .i64 st.raw.high) := HCW.out wq4 MZ.out.fr 11 (by decide)
          have c12 : wq4.cell? ⟨bx0, ox + k * 14 + 12, none⟩ = some (.int .i64 st.raw.by_) := HCW.out wq4 MZ.out.fr 12 (by decide)
          have c13 : wq4.cell? ⟨bx0, ox + k * 14 + 13, none⟩ = some (.int .i64 st.raw.other) := HCW.out wq4 MZ.out.fr 13 (by decide)
          go_wp2_with fail
          refine (HP2.out _).mono ?_
          rintro e w' ⟨rfl, rfl⟩
          by_cases hp2 : p2 = 1
          · subst hp2
            have z0 := QAt.z HBQ.out 0
            have z1 := QAt.z HBQ.out 1
            have z2 := QAt.z HBQ.out 2
            have z3 := QAt.z HBQ.out 3
            have z4 := QAt.z HBQ.out 4
            have z5 := QAt.z HBQ.out 5
            have z6 := QAt.z HBQ.out 6
            have q0 := HBQ.out.c0
            have q1 := HBQ.out.c1
            have q2 := HBQ.out.c2
            have q3 := HBQ.out.c3
            have q4 := HBQ.out.c4
            have q5 := HBQ.out.c5
            have q6 := HBQ.out.c6
            obtain ⟨w5, e5, h5, f5⟩ : ∃ w5, (((((((wq4.setCell ⟨gq, 0, none⟩ (.int .i64 st.raw.kind)).setCell ⟨gq, 1, none⟩ (.int .i64 st.raw.table)).setCell ⟨gq, 2, none⟩ (.int .i64 st.raw.column)).setCell ⟨gq, 3, none⟩ (.int .i64 st.raw.low)).setCell ⟨gq, 4, none⟩ (.int .i64 st.raw.high)).setCell ⟨gq, 5, none⟩ (.int .i64 st.raw.by_)).setCell ⟨gq, 6, none⟩ (.int .i64 st.raw.other)) = w5 ∧ QAt w5 gq st.raw ∧ Fr [gq] wq4 w5 := ⟨_, rfl, ((((((Blk.set_ HBQ.out 0 (.int .i64 st.raw.kind)).set_ 1 (.int .i64 st.raw.table)).set_ 2 (.int .i64 st.raw.column)).set_ 3 (.int .i64 st.raw.low)).set_ 4 (.int .i64 st.raw.high)).set_ 5 (.int .i64 st.raw.by_)).set_ 6 (.int .i64 st.raw.other), (((((((Fr.refl [gq] wq4).setCell (.inl (by simp)) _).setCell (.inl (by simp)) _).setCell (.inl (by simp)) _).setCell (.inl (by simp)) _).setCell (.inl (by simp)) _).setCell (.inl (by simp)) _).setCell (.inl (by simp)) _⟩
            have E5 := Lib.hid e5
            have MZ5 := Lib.hid (MZ.out.box HBQ.out f5 HGQ.out)
            have HB5 := Lib.hid h5
            clear e5 h5 f5
            go_upto_region 12 with (fail)
            rw [E5.out]
            clear z0 z1 z2 z3 z4 z5 z6 q0 q1 q2 q3 q4 q5 q6 c0 c1 c2 c3 c4 c5 c6 c7 c8 c9 c10 c11 c12 c13 E5 MZ HBQ
            have MZ := MZ5
            have HBQ := HB5
            clear MZ5 HB5
            have c0 : w5.cell? ⟨bx0, ox + k * 14, none⟩ = some (.int .i64 st.call) := HCW.out w5 MZ.out.fr 0 (by decide)
            go_wp2_with fail
            refine (HP3.out _).mono ?_
            rintro e w' ⟨rfl, rfl⟩
            clear c0
            by_cases hp3 : p3 = 0
            · subst hp3
              obtain ⟨gb, HGB⟩ : ∃ x, Hid ((mget M st.id).isSome = x) := ⟨_, Lib.hid rfl⟩
              have HR1 := Lib.hid (MZ.out.remove st.id HID.out)
              rw [HGB.out] at HR1
              go_wp2_with fail
              refine HR1.out.mono ?_
              rintro e w6 ⟨rfl, hmz, -⟩
              have HR2 := Lib.hid (hmz.rremove st.id)
              rw [HGB.out] at HR2
              clear hmz HR1
              go_wp2_with fail
              refine HR2.out.mono ?_
              rintro e w7 ⟨v2, R2, rfl, hmz, -⟩
              have MZ2 := Lib.hid hmz
              clear hmz HR2 HBQ
              obtain ⟨nM, hnM⟩ : ∃ x, (mdel M st.id).length = x := ⟨_, rfl⟩
              obtain ⟨A8, c8, hv8, -, -⟩ := MZ2.out.rx.val
              have hRl : R2.length = nM := by rw [← hnM]; exact MZ2.out.rx.sim.len.symm
              rw [hRl] at hv8
              subst hv8
              have HLN : Hid (∀ p : Later w7, Calls Tryz.prog 19 #[.pointer (some ⟨b, 0, none⟩)] p.w fun e w' => e = .returned (.int .i64 nM) ∧ Fr [] p.w w') := Lib.hid (fun p => (mlen_any p.w (MZ2.out.ix.fr0 p.fr)).mono (by rintro e w' ⟨rfl, rfl⟩; exact ⟨by rw [hnM], Fr.refl _ _⟩))
              have b8 : ∀ p : Later w7, p.w.cell? ⟨bx, 0, none⟩ = some (.slice A8 nM c8) := fun p => p.cell MZ2.out.rx.blk.lt (MZ2.out.rx.blk.cell 0)
              clear hnM hRl
              go_wp2_with fail
              refine wp_region_later (by kernel_rfl) (by kernel_rfl) ?_
              repeat (go_big_quiet_step (exact Later.calls (HLN.out _)))
              refine wpQuiet_nil ?_
              rintro w' ⟨⟨w9, fq⟩, rfl⟩
              have MZ9 := Lib.hid (MZ2.out.fr0 fq)
              clear fq HLN b8
              go_wp2_with fail
              go_roundw
              case rel => exact ⟨k + 1, _, _, _, by go_num, by omega, by omega, MZ9⟩
              case measure => simp [intOf]; omega
            · have hp3' : (p3 == 0) = false := by simpa using hp3
              clear hp3
              obtain ⟨cc, HCCO⟩ : ∃ x, Hid (Mm.code M st.id st.raw = x) := ⟨_, Lib.hid rfl⟩
              have HBd := Lib.hid (QAt.fr HBQ.out (Fr.refl [] w5).drew (by simp))
              have HR1 := Lib.hid ((MZ.out.fr0 (Fr.refl [] w5).drew).add st.id HID.out st.raw)
              rw [HCCO.out] at HR1
              have NQ := Lib.hid (MZ.out.neq HBQ.out)
              have q0 := HBQ.out.c0
              have q1 := HBQ.out.c1
              have q2 := HBQ.out.c2
              have q3 := HBQ.out.c3
              have q4 := HBQ.out.c4
              have q5 := HBQ.out.c5
              have q6 := HBQ.out.c6
              go_upto_region 15 with (fail)
              go_region_held3 (fun w' => w'.cell? ⟨gq, 0, none⟩ = some (.int .i64 st.raw.kind) ∧ w'.cell? ⟨gq, 1, none⟩ = some (.int .i64 st.raw.table) ∧ w'.cell? ⟨gq, 2, none⟩ = some (.int .i64 st.raw.column) ∧ w'.cell? ⟨gq, 3, none⟩ = some (.int .i64 st.raw.low) ∧ w'.cell? ⟨gq, 4, none⟩ = some (.int .i64 st.raw.high) ∧ w'.cell? ⟨gq, 5, none⟩ = some (.int .i64 st.raw.by_) ∧ w'.cell? ⟨gq, 6, none⟩ = some (.int .i64 st.raw.other))
                (first | exact ⟨HBd.out.c0, HBd.out.c1, HBd.out.c2, HBd.out.c3, HBd.out.c4, HBd.out.c5, HBd.out.c6⟩ | exact ⟨HB6.out.c0, HB6.out.c1, HB6.out.c2, HB6.out.c3, HB6.out.c4, HB6.out.c5, HB6.out.c6⟩ | exact ⟨HB7.out.c0, HB7.out.c1, HB7.out.c2, HB7.out.c3, HB7.out.c4, HB7.out.c5, HB7.out.c6⟩)
                (first
                  | (go_at_call 17; refine HR1.out.mono ?_; rintro e w6 ⟨rfl, hmz, f6⟩; have HB6 := Lib.hid (QAt.fr HBd.out f6 NQ.out.1); have HR2 := Lib.hid (hmz.radd st.id st.raw); rw [HCCO.out] at HR2; clear hmz f6)
                  | (go_at_call 18; refine HR2.out.mono ?_; rintro e w7 ⟨v2, R2, rfl, hmz, f7⟩; have HB7 := Lib.hid (QAt.fr HB6.out f7 (by simpa using NQ.out.2)); have MZ2 := Lib.hid hmz; clear hmz f7))
              clear HR1 HR2 HBd HB6 HB7 HBQ q0 q1 q2 q3 q4 q5 q6
              obtain ⟨nM, hnM⟩ : ∃ x, (Mm.add M st.id st.raw).length = x := ⟨_, rfl⟩
              obtain ⟨A8, c8, hv8, -, -⟩ := MZ2.out.rx.val
              have hRl : R2.length = nM := by rw [← hnM]; exact MZ2.out.rx.sim.len.symm
              rw [hRl] at hv8
              subst hv8
              have HLN : Hid (∀ p : Later w7, Calls Tryz.prog 19 #[.pointer (some ⟨b, 0, none⟩)] p.w fun e w' => e = .returned (.int .i64 nM) ∧ Fr [] p.w w') := Lib.hid (fun p => (mlen_any p.w (MZ2.out.ix.fr0 p.fr)).mono (by rintro e w' ⟨rfl, rfl⟩; exact ⟨by rw [hnM], Fr.refl _ _⟩))
              have b8 : ∀ p : Later w7, p.w.cell? ⟨bx, 0, none⟩ = some (.slice A8 nM c8) := fun p => p.cell MZ2.out.rx.blk.lt (MZ2.out.rx.blk.cell 0)
              clear hnM hRl
              go_wp2_with fail
              refine wp_region_later (by kernel_rfl) (by kernel_rfl) ?_
              repeat (go_big_quiet_step (exact Later.calls (HLN.out _)))
              refine wpQuiet_nil ?_
              rintro w' ⟨⟨w9, fq⟩, rfl⟩
              have MZ9 := Lib.hid (MZ2.out.fr0 fq)
              clear fq HLN b8
              go_wp2_with fail
              go_roundw
              case rel => exact ⟨k + 1, _, _, _, by go_num, by omega, by omega, MZ9⟩
              case measure => simp [intOf]; omega
          · have hp2' : (p2 == 1) = false := by simpa using hp2
            clear hp2
            go_upto_region 12 with (fail)
            clear c0 c1 c2 c3 c4 c5 c6 c7 c8 c9 c10 c11 c12 c13
            have c0 : wq4.cell? ⟨bx0, ox + k * 14, none⟩ = some (.int .i64 st.call) := HCW.out wq4 MZ.out.fr 0 (by decide)
            go_wp2_with fail
            refine (HP3.out _).mono ?_
            rintro e w' ⟨rfl, rfl⟩
            clear c0
            by_cases hp3 : p3 = 0
            · subst hp3
              obtain ⟨gb, HGB⟩ : ∃ x, Hid ((mget M p1).isSome = x) := ⟨_, Lib.hid rfl⟩
              have HR1 := Lib.hid (MZ.out.remove p1 HIP.out)
              rw [HGB.out] at HR1
              go_wp2_with fail
              refine HR1.out.mono ?_
              rintro e w6 ⟨rfl, hmz, -⟩
              have HR2 := Lib.hid (hmz.rremove p1)
              rw [HGB.out] at HR2
              clear hmz HR1
              go_wp2_with fail
              refine HR2.out.mono ?_
              rintro e w7 ⟨v2, R2, rfl, hmz, -⟩
              have MZ2 := Lib.hid hmz
              clear hmz HR2 HBQ
              obtain ⟨nM, hnM⟩ : ∃ x, (mdel M p1).length = x := ⟨_, rfl⟩
              obtain ⟨A8, c8, hv8, -, -⟩ := MZ2.out.rx.val
              have hRl : R2.length = nM := by rw [← hnM]; exact MZ2.out.rx.sim.len.symm
              rw [hRl] at hv8
              subst hv8
              have HLN : Hid (∀ p : Later w7, Calls Tryz.prog 19 #[.pointer (some ⟨b, 0, none⟩)] p.w fun e w' => e = .returned (.int .i64 nM) ∧ Fr [] p.w w') := Lib.hid (fun p => (mlen_any p.w (MZ2.out.ix.fr0 p.fr)).mono (by rintro e w' ⟨rfl, rfl⟩; exact ⟨by rw [hnM], Fr.refl _ _⟩))
              have b8 : ∀ p : Later w7, p.w.cell? ⟨bx, 0, none⟩ = some (.slice A8 nM c8) := fun p => p.cell MZ2.out.rx.blk.lt (MZ2.out.rx.blk.cell 0)
              clear hnM hRl
              go_wp2_with fail
              refine wp_region_later (by kernel_rfl) (by kernel_rfl) ?_
              repeat (go_big_quiet_step (exact Later.calls (HLN.out _)))
              refine wpQuiet_nil ?_
              rintro w' ⟨⟨w9, fq⟩, rfl⟩
              have MZ9 := Lib.hid (MZ2.out.fr0 fq)
              clear fq HLN b8
              go_wp2_with fail
              go_roundw
              case rel => exact ⟨k + 1, _, _, _, by go_num, by omega, by omega, MZ9⟩
              case measure => simp [intOf]; omega
            · have hp3' : (p3 == 0) = false := by simpa using hp3
              clear hp3
              obtain ⟨cc, HCCO⟩ : ∃ x, Hid (Mm.code M p1 q = x) := ⟨_, Lib.hid rfl⟩
              have HBd := Lib.hid (QAt.fr HBQ.out (Fr.refl [] wq4).drew (by simp))
              have HR1 := Lib.hid ((MZ.out.fr0 (Fr.refl [] wq4).drew).add p1 HIP.out q)
              rw [HCCO.out] at HR1
              have NQ := Lib.hid (MZ.out.neq HBQ.out)
              have q0 := HBQ.out.c0
              have q1 := HBQ.out.c1
              have q2 := HBQ.out.c2
              have q3 := HBQ.out.c3
              have q4 := HBQ.out.c4
              have q5 := HBQ.out.c5
              have q6 := HBQ.out.c6
              go_upto_region 15 with (fail)
              go_region_held3 (fun w' => w'.cell? ⟨gq, 0, none⟩ = some (.int .i64 q.kind) ∧ w'.cell? ⟨gq, 1, none⟩ = some (.int .i64 q.table) ∧ w'.cell? ⟨gq, 2, none⟩ = some (.int .i64 q.column) ∧ w'.cell? ⟨gq, 3, none⟩ = some (.int .i64 q.low) ∧ w'.cell? ⟨gq, 4, none⟩ = some (.int .i64 q.high) ∧ w'.cell? ⟨gq, 5, none⟩ = some (.int .i64 q.by_) ∧ w'.cell? ⟨gq, 6, none⟩ = some (.int .i64 q.other))
                (first | exact ⟨HBd.out.c0, HBd.out.c1, HBd.out.c2, HBd.out.c3, HBd.out.c4, HBd.out.c5, HBd.out.c6⟩ | exact ⟨HB6.out.c0, HB6.out.c1, HB6.out.c2, HB6.out.c3, HB6.out.c4, HB6.out.c5, HB6.out.c6⟩ | exact ⟨HB7.out.c0, HB7.out.c1, HB7.out.c2, HB7.out.c3, HB7.out.c4, HB7.out.c5, HB7.out.c6⟩)
                (first
                  | (go_at_call 17; refine HR1.out.mono ?_; rintro e w6 ⟨rfl, hmz, f6⟩; have HB6 := Lib.hid (QAt.fr HBd.out f6 NQ.out.1); have HR2 := Lib.hid (hmz.radd p1 q); rw [HCCO.out] at HR2; clear hmz f6)
                  | (go_at_call 18; refine HR2.out.mono ?_; rintro e w7 ⟨v2, R2, rfl, hmz, f7⟩; have HB7 := Lib.hid (QAt.fr HB6.out f7 (by simpa using NQ.out.2)); have MZ2 := Lib.hid hmz; clear hmz f7))
              clear HR1 HR2 HBd HB6 HB7 HBQ q0 q1 q2 q3 q4 q5 q6
              obtain ⟨nM, hnM⟩ : ∃ x, (Mm.add M p1 q).length = x := ⟨_, rfl⟩
              obtain ⟨A8, c8, hv8, -, -⟩ := MZ2.out.rx.val
              have hRl : R2.length = nM := by rw [← hnM]; exact MZ2.out.rx.sim.len.symm
              rw [hRl] at hv8
              subst hv8
              have HLN : Hid (∀ p : Later w7, Calls Tryz.prog 19 #[.pointer (some ⟨b, 0, none⟩)] p.w fun e w' => e = .returned (.int .i64 nM) ∧ Fr [] p.w w') := Lib.hid (fun p => (mlen_any p.w (MZ2.out.ix.fr0 p.fr)).mono (by rintro e w' ⟨rfl, rfl⟩; exact ⟨by rw [hnM], Fr.refl _ _⟩))
              have b8 : ∀ p : Later w7, p.w.cell? ⟨bx, 0, none⟩ = some (.slice A8 nM c8) := fun p => p.cell MZ2.out.rx.blk.lt (MZ2.out.rx.blk.cell 0)
              clear hnM hRl
              go_wp2_with fail
              refine wp_region_later (by kernel_rfl) (by kernel_rfl) ?_
              repeat (go_big_quiet_step (exact Later.calls (HLN.out _)))
              refine wpQuiet_nil ?_
              rintro w' ⟨⟨w9, fq⟩, rfl⟩
              have MZ9 := Lib.hid (MZ2.out.fr0 fq)
              clear fq HLN b8
              go_wp2_with fail
              go_roundw
              case rel => exact ⟨k + 1, _, _, _, by go_num, by omega, by omega, MZ9⟩
              case measure => simp [intOf]; omega
        · go_wp2_with fail
          go_meet
          exact ⟨M, v, R, MZ⟩
      · go_wp2_with fail
        go_meet
        exact ⟨M, v, R, MZ⟩
  case rest =>
    clear MZ
    obtain ⟨M, v, R, MZ⟩ := hcut
    go_upto_region 18 with (fail)
    obtain ⟨mN, hmN⟩ : ∃ x : Nat, (min (nr : Int) 8).toNat = x := ⟨_, rfl⟩
    have hm1 : mN ≤ 8 ∧ mN ≤ nr := by omega
    have HMN := Lib.hid hmN
    have HM1 := Lib.hid hm1
    have hnrc : nr ≤ cr := hnr
    have hmr : (0 : Int) ≤ min (nr : Int) 8 ∧ min (nr : Int) 8 ≤ (cr : Int) := by omega
    obtain ⟨u, hu⟩ : ∃ u : WRec, u = ⟨⟨0, cs.take mN⟩, Ar, cr, by rw [List.length_take, HL.out]; omega⟩ := ⟨_, rfl⟩
    have HU : Hid (WRec.cells u = [.int .i64 0, .slice Ar (min (nr : Int) 8).toNat cr] ∧ u.A = Ar ∧ u.r.cs = cs.take mN) := Lib.hid (by
      subst hu
      refine ⟨?_, rfl, rfl⟩
      simp only [WRec.cells, List.length_take, HL.out]
      rw [show min mN nr = mN by omega, HMN.out])
    have HUC : Hid (ChgsAt w u.A u.r.cs) := Lib.hid (by
      rw [HU.out.2.1, HU.out.2.2]
      intro hl
      obtain ⟨b3, off3, h1, h2, h3⟩ := HC.out (by rw [List.length_take] at hl; omega)
      refine ⟨b3, off3, h1, h2, fun i hi j hj => ?_⟩
      have hi2 : i < cs.length := by rw [List.length_take] at hi; omega
      rw [h3 i hi2 j hj]
      simp only [List.getElem_take])
    have HU8 : Hid (u.r.cs.length ≤ 8) := Lib.hid (by rw [HU.out.2.2, List.length_take]; omega)
    have HUK : Hid (∀ c ∈ u.r.cs, okI c.t ∧ ∀ r ∈ Mm.rows c, ∀ k, okI (r.value k)) := Lib.hid (fun c hc => by
      rw [HU.out.2.2] at hc
      exact (HCF.out c ((List.take_sublist _ _).subset hc)).rows)
    have HLOG : Hid (∀ W, Fr [] w W → Calls Tryz.prog 20 #[.slice B nb cb] W fun e w' => ∃ (A2 : Option Addr) (n2 c2 : Nat) (out : List Rec), e = .returned (.slice A2 n2 c2) ∧ OwnR w' (.slice A2 n2 c2) out ∧ Lg.Ok out ∧ out.length ≤ 25 ∧ Fr [] W w' ∧ n2 = out.length ∧ ∀ g, (Value.slice A2 n2 c2).ownBlock = some g → W.heap.size ≤ g) := Lib.hid (fun W hW => mlog_own B nb cb W HCAP.out.1 HCAP.out.2.1 (by
      rcases HY.out with h0 | ⟨bx, ox, h1, h2⟩
      · exact .inl h0
      · exact .inr ⟨bx, ox, h1, h2.fr0 hW⟩))
    clear hu hm1 hmN
    obtain ⟨i0, TR⟩ := etRec
    have TV := Lib.hid TR
    clear TR
    have hr1 : wc.cell? ⟨gr, 1, none⟩ = some (.slice Ar nr cr) := MZ.out.raw.cell 1
    have FD := Lib.hid (MZ.out.fr.drew)
    go_cut [14] (fun x wc => ∃ A2 n2 c2, x = .slice A2 n2 c2 ∧ n2 ≤ 26 ∧ Hid (RecF wc b A2 n2) ∧ Hid (MzAt w wc b m bx gr M M v R #[.int .i64 z, .slice Ar nr cr]))
    case first =>
      have FDA := Lib.hid (FD.out.alloc (.cells #[.int .i64 0, .slice Ar (min (nr : Int) 8).toNat cr] 26))
      have RDA : Hid (Reads (wc.drew.alloc (.cells #[.int .i64 0, .slice Ar (min (nr : Int) 8).toNat cr] 26)) (wc.drew.heap.size + 1) 2 (some ⟨wc.drew.heap.size, 0, none⟩) 1 ([u].flatMap WRec.cells)) := Lib.hid (by
        have h := reads_new (enc := WRec.cells) wc.drew 26 u rfl
        rw [HU.out.1] at h
        exact h)
      have hrA : (wc.drew.alloc (.cells #[.int .i64 0, .slice Ar (min (nr : Int) 8).toNat cr] 26)).cell? ⟨gr, 1, none⟩ = some (.slice Ar nr cr) := (MZ.out.fr0 (((Fr.refl [] wc).drew).alloc _)).raw.cell 1
      go_region_held3 (fun w' => w'.cell? ⟨gr, 1, none⟩ = some (.slice Ar nr cr))
        (first | exact hr1 | exact hrA | exact hrB | exact hrC | go_keep)
        (first
          | (go_at_call 20; first
              | (refine (HLOG.out _ FD.out).mono ?_; rintro e w5 ⟨A2, n2, c2, out, rfl, hor, hok, hll, f5, hn2, hbl⟩; have HBL := Lib.hid hbl; have F5 := Lib.hid f5; have hrB : w5.cell? ⟨gr, 1, none⟩ = some (.slice Ar nr cr) := (MZ.out.fr0 (((Fr.refl [] wc).drew).trans f5)).raw.cell 1; obtain ⟨us, hus, hum, huh⟩ := hor; have HUS := Lib.hid hus; have HUM := Lib.hid hum; have HUH := Lib.hid huh; have HOKL := Lib.hid hok; have HLL := Lib.hid hll; have hn2' : n2 ≤ 25 := (by rw [hn2]; exact hll); clear hus hum huh hok hll hn2 hbl; clear f5)
              | (refine (HLOG.out _ FDA.out).mono ?_; rintro e w5 ⟨A2, n2, c2, out, rfl, hor, hok, hll, f5, hn2, hbl⟩; have HBL := Lib.hid hbl; have F5 := Lib.hid f5; have hrB : w5.cell? ⟨gr, 1, none⟩ = some (.slice Ar nr cr) := (MZ.out.fr0 ((((Fr.refl [] wc).drew).alloc _).trans f5)).raw.cell 1; obtain ⟨us, hus, hum, huh⟩ := hor; have HUS := Lib.hid hus; have HUM := Lib.hid hum; have HUH := Lib.hid huh; have HOKL := Lib.hid hok; have HLL := Lib.hid hll; have hn2' : n2 ≤ 25 := (by rw [hn2]; exact hll); clear hus hum huh hok hll hn2 hbl; clear f5))
          | (have RDB : Hid (Reads (w5.alloc (.cells #[.int .i64 0, .slice Ar (min (nr : Int) 8).toNat cr] 26)) (w5.heap.size + 1) 2 (some ⟨w5.heap.size, 0, none⟩) 1 ([u].flatMap WRec.cells)) := Lib.hid (by have h := reads_new (enc := WRec.cells) w5 26 u rfl; rw [HU.out.1] at h; exact h); refine step_appendL rfl _ _ rfl TV.out WRec.len WRec.one rfl (HUS.out.keep0 ((Fr.refl [] w5).alloc _)) _ _ _ _ [u] rfl rfl RDB.out (by have h1 := HUM.out; have h2 := congrArg List.length h1; rw [List.length_map] at h2; have h3 := HLL.out; simp only [maxLen, List.length_singleton]; omega) (by have h1 := HUM.out; have h2 := congrArg List.length h1; rw [List.length_map] at h2; have h3 := HLL.out; simp only [List.length_singleton]; omega) ?_; intro v7 w7 ho7 hg7 hat7; have f7 : Fr [] wc w7 := (((((Fr.refl [] wc).drew).trans F5.out).alloc _).grown hg7 (fun g hg => .inr (HBL.out g hg))); obtain ⟨A7, n7, c7, hv7, hn7, hrf⟩ := RecF.joined (w := w) HUM.out (HUS.out.keep0 ((Fr.refl [] w5).alloc _)) (fun x hx => ⟨(HUH.out x hx).1.fr ((Fr.refl [] w5).alloc _) NoC.nil, (HUH.out x hx).2⟩) ho7 hg7 (MZ.out.fr0 f7).ix HUC.out (MZ.out.fr.trans f7) MZ.out.new.1 HU8.out (lgok_all HOKL.out) HUK.out; subst hv7; have HRF := Lib.hid hrf; have MZ7 := Lib.hid (MZ.out.fr0 f7); have hn7' : n7 ≤ 26 := (by have := HLL.out; omega); have hrC : w7.cell? ⟨gr, 1, none⟩ = some (.slice Ar nr cr) := MZ7.out.raw.cell 1; clear ho7 hg7 hat7 hrf f7 hn7)
          | (refine step_appendL rfl _ _ rfl TV.out WRec.len WRec.one rfl HUS.out _ _ _ _ [u] rfl rfl (RDA.out.fr (by rw [World.size_alloc]; exact Nat.le_refl _) F5.out (by simp)) (by have h1 := HUM.out; have h2 := congrArg List.length h1; rw [List.length_map] at h2; have h3 := HLL.out; simp only [maxLen, List.length_singleton]; omega) (by have h1 := HUM.out; have h2 := congrArg List.length h1; rw [List.length_map] at h2; have h3 := HLL.out; simp only [List.length_singleton]; omega) ?_; intro v7 w7 ho7 hg7 hat7; have f7 : Fr [] wc w7 := ((((Fr.refl [] wc).drew.alloc _).trans F5.out).grown hg7 (fun g hg => .inr (Nat.le_trans (by rw [World.size_alloc]; exact Nat.le_succ _) (HBL.out g hg)))); obtain ⟨A7, n7, c7, hv7, hn7, hrf⟩ := RecF.joined (w := w) HUM.out HUS.out HUH.out ho7 hg7 (MZ.out.fr0 f7).ix HUC.out (MZ.out.fr.trans f7) MZ.out.new.1 HU8.out (lgok_all HOKL.out) HUK.out; subst hv7; have HRF := Lib.hid hrf; have MZ7 := Lib.hid (MZ.out.fr0 f7); have hn7' : n7 ≤ 26 := (by have := HLL.out; omega); have hrC : w7.cell? ⟨gr, 1, none⟩ = some (.slice Ar nr cr) := MZ7.out.raw.cell 1; clear ho7 hg7 hat7 hrf f7 hn7))
      all_goals
        go_wp2_with fail
        go_meet
        exact ⟨A7, n7, c7, rfl, hn7', HRF, MZ7⟩
    case rest =>
      obtain ⟨A2, n2, c2, rfl, hn26, HRF, MZ9⟩ := hcut
      have HIX9 : Hid (IxAt wc b m M [b, m] ∧ ∀ x ∈ [b, m], w.heap.size ≤ x ∧ x < wc.heap.size) := Lib.hid ⟨MZ9.out.ix, fun x hx => by
        have h1 := MZ9.out.ix.lt
        have h2 := MZ9.out.new
        simp only [List.mem_cons, List.not_mem_nil, or_false] at hx
        rcases hx with rfl | rfl <;> omega⟩
      have HRX9 := Lib.hid MZ9.out.rx
      have HF9 := Lib.hid MZ9.out.fr
      have HBW := Lib.hid MZ9.out.new.1
      clear MZ MZ9 FD hr1 HLOG HUK HU8 HUC HU TV HMN HM1
      go_wp2_with fail
      go_loopw [15] (fun i wr => ∃ (k : Nat) (D : List Nat), i = .int .i64 k ∧ k ≤ n2 ∧ Hid (IxAt wr b m M D ∧ ∀ x ∈ D, w.heap.size ≤ x ∧ x < wr.heap.size) ∧ Hid (RxAt wr bx v M R) ∧ Hid (RecF wr b A2 n2) ∧ Hid (Fr [] w wr)) (fun i _ => n2 - (intOf i).toNat)
      case atStart => exact ⟨0, [b, m], rfl, Nat.zero_le _, HIX9, HRX9, HRF, HF9⟩
      case round =>
        clear HIX9 HRX9 HRF HF9
        obtain ⟨k, D, rfl, hk, HIX, HRX, HRF, HFW⟩ := hrel
        by_cases hlt : k < n2
        · obtain ⟨bb, off, zz, Ak, nk, ck, cks, hA, ⟨hbb, hbne⟩, e0, e1, hN, h8, hfar, hok⟩ := HRF.out k hlt
          subst hA
          have HFR := Lib.hid hfar
          have HNK := Lib.hid hN
          have HMM := Lib.hid (mmatch_far b m M D zz Ak nk ck cks wr.drew (HIX.out.1.fr0 (Fr.refl [] wr).drew) (fun x hx => (HIX.out.2 x hx).2) (hfar.fr (Fr.refl [] wr).drew (by simp)) hN (by omega) hok)
          have HBN := Lib.hid hbne
          have HBB := Lib.hid hbb
          have hd0 : wr.drew.cell? ⟨bb, off + k * 2, none⟩ = some (.int .i64 zz) := e0
          have hd1 : wr.drew.cell? ⟨bb, off + k * 2 + 1, none⟩ = some (.slice Ak nk ck) := e1
          have HE := Lib.hid (And.intro e0 e1)
          have HCELL : Hid (∀ W, Fr [b] wr W → W.cell? ⟨bb, off + k * 2, none⟩ = some (.int .i64 zz) ∧ W.cell? ⟨bb, off + k * 2 + 1, none⟩ = some (.slice Ak nk ck)) := Lib.hid (fun W hW => ⟨(hW.cell (p := ⟨bb, off + k * 2, none⟩) HBB.out (by simpa using HBN.out)).trans HE.out.1, (hW.cell (p := ⟨bb, off + k * 2 + 1, none⟩) HBB.out (by simpa using HBN.out)).trans HE.out.2⟩)
          clear hfar hN hok hbne hbb
          have hk2 : (k : Int) < (n2 : Int) := by omega
          go_upto_region 22 with (fail)
          go_region_held3 (fun w' => w'.cell? ⟨bb, off + k * 2, none⟩ = some (.int .i64 zz) ∧ w'.cell? ⟨bb, off + k * 2 + 1, none⟩ = some (.slice Ak nk ck))
            (first | exact ⟨hd0, hd1⟩ | exact HCELL.out _ F5.out | exact HCELL.out _ F6.out | exact HCELL.out _ F7.out)
            (first
              | (go_at_call 22; refine HMM.out.mono ?_; rintro e w5 ⟨v5, L5, rfl, ho5, hh5, D5, hi5, hf5, hd5⟩; obtain ⟨A5, n5, c5, hv5⟩ : ∃ A n c, v5 = .slice A n c := (match ho5.val with | ⟨_, _, hv⟩ => ⟨_, _, _, hv⟩); subst hv5; have F5 : Hid (Fr [b] wr w5) := Lib.hid (((Fr.refl [b] wr).drew).trans hf5); have HO5 := Lib.hid ho5; have HH5 := Lib.hid hh5; have HI5 := Lib.hid hi5; have HD5 := Lib.hid hd5; clear ho5 hh5 hi5 hf5 hd5; have HRX5 : Hid (RxAt w5 bx v M R) := Lib.hid (by obtain ⟨lp, hb, -⟩ := HIX.out.1.blk; exact ⟨HRX.out.blk.fr F5.out (by simpa using (Blk.ne HRX.out.blk hb (by decide))), HRX.out.row.fr F5.out (fun g hg => by simpa using (HIX.out.1.row_ne HRX.out.row (by decide) g hg).1), HRX.out.sim, HRX.out.len⟩); have HCH5 := Lib.hid (HFR.out.fr F5.out (by simp)))
              | (go_at_call 23; refine (rxmatch_any bx v M R zz Ak nk ck cks w5 HRX5.out HCH5.out.1 HNK.out (by omega)).mono ?_; rintro e w6 ⟨A6, n6, c6, L6, rfl, ho6, hn6, hh6, f6, hl6⟩; have F6 : Hid (Fr [b] wr w6) := Lib.hid (F5.out.trans (f6.mono (by simp))); have G6 := Lib.hid f6; have HO6 := Lib.hid ho6; have HN6 := Lib.hid hn6; have HEQ := Lib.hid (HH5.out.uniq hh6); have HL6 := Lib.hid hl6; clear ho6 hn6 hh6 f6 hl6)
              | (go_at_call 21; refine (rsame8_any A5 A6 n5 n6 c5 c6 L5 L6 w6 ((HO5.out.at1 encJ_len).1.fr0 G6.out) (HO6.out.at1 encJ_len).1 (HO5.out.at1 encJ_len).2 HN6.out (by rw [(HO5.out.at1 encJ_len).2, HEQ.out, ← HN6.out]; have := HL6.out; omega)).mono ?_; rintro e w7 ⟨rfl, f7⟩; have F7 : Hid (Fr [b] wr w7) := Lib.hid (F6.out.trans (f7.mono (by simp))); have G7 := Lib.hid (G6.out.trans f7); clear f7; rw [decide_eq_true HEQ.out]))
          go_wp2_with fail
          go_roundw
          case rel => exact ⟨k + 1, D5, by go_num, by omega, Lib.hid ⟨HI5.out.fr0 G7.out, fun x hx => by
            have h1 := HD5.out x hx
            have h2 := G7.out.size
            have h3 := HFW.out.size
            have h4 : wr.drew.heap.size = wr.heap.size := rfl
            refine ⟨?_, by omega⟩
            rcases h1.1 with h5 | h5
            · exact (HIX.out.2 x h5).1
            · omega⟩, Lib.hid (HRX5.out.fr0 G7.out), Lib.hid (HRF.out.fr F7.out (by simp)), Lib.hid (HFW.out.trans' F7.out (fun x hx => .inr (by
              obtain rfl : x = b := by simpa using hx
              exact HBW.out)))⟩
          case measure => simp [intOf]; omega
        · go_wp2_with fail
          go_ret
          exact ⟨rfl, HFW.out.below⟩
end Go.Proofs.YtciaallekkdnhaaGreat

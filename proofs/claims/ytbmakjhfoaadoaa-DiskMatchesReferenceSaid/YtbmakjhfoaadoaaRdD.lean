/-
  The reference's disk: Crash.
-/
import Derived.Test.YtbmakjhfoaadoaaRdC
namespace Go.Proofs.Ytbmakjhfoaadoaa
open Go.RowKit

namespace Dm
/-- The writes that are kept among the first k. -/
def kept (d : Dk) (zs : List Int) (k : Nat) : List Wr := (order k zs).filterMap fun i => d.pend[i]?
theorem kept_succ (d : Dk) (zs : List Int) (k : Nat) (u : Wr) (h : d.pend[k]? = some u) : kept d zs (k + 1) = if (k : Int) ∈ zs then kept d zs k ++ [u] else kept d zs k := by
  unfold kept order
  rw [List.range_succ, List.filter_append, List.filterMap_append]
  by_cases hm : (k : Int) ∈ zs
  · rw [if_pos hm]; simp [hm, h]
  · rw [if_neg hm]; simp [hm]
theorem kept_len (d : Dk) (zs : List Int) (k : Nat) (h : k ≤ d.pend.length) : (kept d zs k).length ≤ k := by
  unfold kept
  have h1 := List.length_filterMap_le (fun i => d.pend[i]?) (order k zs)
  have h2 := order_len (m := k) (keep := zs)
  omega
end Dm
theorem own_blk {X : Type} {e size : Nat} {enc : X → List Value} {w : World} {g n c : Nat} {L : List X} (h : OwnL e size enc w (.slice (some ⟨g, 0, none⟩) n c) L) : ∃ cur, Blk w g e cur := by
  rcases h.2 with ⟨hv, _⟩ | ⟨g', cap2, cur, hv, _, hh, _⟩
  · cases hv
  · cases hv
    exact ⟨cur, hh⟩
set_option maxRecDepth 100000 in
set_option maxHeartbeats 4000000 in
theorem rcrash_any (r : Nat) (G : List Nat) (d : Dm.Dk) (A : Option Addr) (n kc : Nat) (zs : List Int) (t : Int) (w : World) (h : Rsk w G r d) (hn : n = zs.length) (hz : zs.length ≤ 100000) (hI : IntsIn w A zs) (ht : okI t) (hpl : d.pend.length ≤ 100000) :
    Calls Try.prog 33 #[.pointer (some ⟨r, 0, none⟩), .slice A n kc, .int .i64 t] w fun e w' => e = .returned (.tuple #[]) ∧ RskTo w w' G r (Dm.crash d zs t) := by
  have H := Lib.hid h
  obtain ⟨sv, lv, rfl, hr⟩ := h
  have HR := Lib.hid hr
  obtain ⟨gs, cs, hsv, -, hcm, -, -, -⟩ := hr.sure.form encB_len (by have := hr.ok.n1; omega)
  obtain ⟨Al, cl, hlv⟩ := hr.pend.val
  subst hsv hlv
  have HNZ := Lib.hid (And.intro hn.symm (show n ≤ 100000 by omega))
  have HIN := Lib.hid hI
  obtain ⟨t1, t2⟩ := okI_bounds ht
  clear hr hn hI ht hcm hz
  go_enter Try.func33, Try.ntmps33
  go_wp2_with fail
  go_loopw [6, 7] (fun v i wr => ∃ k : Nat, k ≤ d.pend.length ∧ i = .int .i64 k ∧ OwnL 80 2 Dm.Wr.cells wr v (Dm.kept d zs k) ∧ (∀ g, v.ownBlock = some g → w.heap.size ≤ g) ∧ Fr [] w wr) (fun _ i _ => d.pend.length - (intOf i).toNat)
  case atStart => exact ⟨0, Nat.zero_le _, rfl, OwnL.nil, by simp [Value.ownBlock], Fr.refl _ _⟩
  case round =>
    obtain ⟨k, hk, rfl, hO, hg, hF⟩ := hrel
    have HO := Lib.hid hO
    have HG := Lib.hid hg
    have HF := Lib.hid hF
    have hr := HR.out.fr0 hF
    have b1 : wr.cell? ⟨r, 1, none⟩ = some (.slice Al d.pend.length cl) := hr.blk.cell 1
    have HHAS := Lib.hid (fun W (f : Fr [] w W) => has_any A n kc zs (k : Int) W HNZ.out.1 HNZ.out.2 (HIN.out.fr0 f))
    by_cases hlt : k < d.pend.length
    · obtain ⟨gp, cp, hvp, hpn, hpm, -, hcellp, -⟩ := hr.pend.form Dm.Wr.cells_len (by omega)
      injection hvp with e1 e2 e3
      subst e1 e3
      clear e2
      have p0 := hcellp k hlt 0 (by decide)
      have p1 := hcellp k hlt 1 (by decide)
      have hu : d.pend[k]? = some d.pend[k] := List.getElem?_eq_getElem hlt
      generalize d.pend[k] = u at *
      have p0' : wr.cell? ⟨gp, k * 2, none⟩ = some (.int .i64 u.off) := p0
      have p1' : wr.cell? ⟨gp, k * 2 + 1, none⟩ = some (.string ⟨u.s.toArray⟩) := p1
      have HKS := Lib.hid (Dm.kept_succ d zs k u hu)
      have HKL := Lib.hid (Dm.kept_len d zs k hk)
      clear hO hg hF hr p0 p1 hcellp hpn hpm hu
      by_cases hm : (k : Int) ∈ zs
      · have HM : Hid (decide ((k : Int) ∈ zs) = true) := Lib.hid (decide_eq_true hm)
        rw [if_pos hm] at HKS
        rw [HM.out] at HHAS
        clear hm
        go_wp2_with fail
        refine (HHAS.out wr HF.out).mono ?_
        rintro e w' ⟨rfl, rfl⟩
        obtain ⟨A5, c5, hv5⟩ := HO.out.val
        obtain ⟨n5, HN5⟩ : ∃ n5, Hid ((Dm.kept d zs k).length = n5) := ⟨_, Lib.hid rfl⟩
        rw [HN5.out] at hv5
        subst hv5
        obtain ⟨i0, z, TC⟩ := etC
        have HL := Lib.hid (HO.out.fr (S := []) ((Fr.refl _ wr).alloc (.cells #[.int .i64 u.off, .string ⟨u.s.toArray⟩] 80)) (by simp))
        go_wp2_with (at_builtin; refine wpList_appendL rfl _ _ rfl TC Dm.Wr.cells_len Dm.Wr.cells_one rfl HL.out (wr.heap.size + 1) _ _ _ [u] rfl rfl (reads_new (enc := Dm.Wr.cells) wr 80 u rfl) (by have := HKL.out; simp only [maxLen, List.length_singleton]; omega) (by have := HKL.out; simp only [List.length_singleton]; omega) ?_; intro v5 w5 hown5 hg5 hat5; have HO5 := Lib.hid hown5; have F5 := Lib.hid (show (wr.alloc (.cells #[.int .i64 u.off, .string ⟨u.s.toArray⟩] 80)).grownBy w5 (Value.slice A5 n5 c5).ownBlock from hg5); have HA5 := Lib.hid (show v5.ownBlock = (Value.slice A5 n5 c5).ownBlock ∨ v5.ownBlock = some (wr.alloc (.cells #[.int .i64 u.off, .string ⟨u.s.toArray⟩] 80)).heap.size from hat5); clear hown5 hg5 hat5)
        go_roundw
        case rel => exact ⟨k + 1, by omega, by go_num, by rw [HKS.out]; exact HO5.out, fun g hg => by
          rcases HA5.out with h1 | h1
          · exact HG.out g (h1 ▸ hg)
          · rw [hg] at h1
            injection h1 with h1
            have := HF.out.size
            rw [h1]
            simp
            omega, (HF.out.alloc _).grown F5.out (fun g hg => .inr (HG.out g hg))⟩
        case measure => simp [intOf]; omega
      · have HM : Hid (decide ((k : Int) ∈ zs) = false) := Lib.hid (decide_eq_false hm)
        rw [if_neg hm] at HKS
        rw [HM.out] at HHAS
        clear hm
        go_wp2_with fail
        refine (HHAS.out wr HF.out).mono ?_
        rintro e w' ⟨rfl, rfl⟩
        go_wp2_with fail
        go_roundw
        case rel => exact ⟨k + 1, by omega, by go_num, by rw [HKS.out]; exact HO.out, HG.out, HF.out⟩
        case measure => simp [intOf]; omega
    · obtain rfl : k = d.pend.length := by omega
      obtain ⟨L, HL⟩ : ∃ L, Hid ((Dm.kept d zs d.pend.length).length = L) := ⟨_, Lib.hid rfl⟩
      have HSL : Hid ((Dm.survivors d zs t).length = L) := Lib.hid (by rw [← HL.out]; exact Dm.torn_len _)
      have HLB := Lib.hid (show L ≤ 100000 by have := Dm.kept_len d zs d.pend.length (Nat.le_refl _); rw [HL.out] at this; omega)
      obtain ⟨A5, c5, hv5⟩ := hO.val
      rw [HL.out] at hv5
      subst hv5
      have hl63 : L ≤ 9223372036854775807 := by have := HLB.out; omega
      have HKO := Lib.hid hO
      have HKG := Lib.hid hg
      have HKF := Lib.hid hF
      have HR5 := Lib.hid hr
      have hn2 := HR.out.ok.n2
      have HHS := Lib.hid hr.sure
      clear hO hg hF hr HO HG HF HHAS hlt hk
      obtain ⟨w5, HW5⟩ : ∃ w5 : World, w5 = wr := ⟨_, rfl⟩
      subst HW5
      obtain ⟨cur, hcur⟩ := own_blk HHS.out
      have HCUR := Lib.hid hcur
      clear hcur
      go_wp2_with fail
      clear b1
      go_loopw [8] (fun i wr => ∃ k : Nat, k ≤ L ∧ i = .int .i64 k ∧ OwnL 5 1 encB wr (.slice (some ⟨gs, 0, none⟩) d.sure.length cs) (((Dm.survivors d zs t).take k).foldl Dm.onto d.sure) ∧ Fr [gs] w5 wr) (fun i _ => L - (intOf i).toNat)
      case atStart => exact ⟨0, Nat.zero_le _, rfl, HHS.out, Fr.refl _ _⟩
      case round =>
        obtain ⟨k, hk, rfl, hO2, hF2⟩ := hrel
        have HO2 := Lib.hid hO2
        have HF2 := Lib.hid hF2
        have hrs : r ≠ gs := fun e => HR5.out.sure.ne HR5.out.blk (by decide) rfl e.symm
        have hbr := HR5.out.blk.fr hF2 (by simpa using hrs)
        have b0 : wr.cell? ⟨r, 0, none⟩ = some (.slice (some ⟨gs, 0, none⟩) d.sure.length cs) := hbr.cell 0
        have hkr := HKO.out.fr hF2 (fun g hg => by simpa using HKO.out.ne HCUR.out (by decide) hg)
        by_cases hlt : k < L
        · have hlt' : k < (Dm.kept d zs d.pend.length).length := by rw [HL.out]; exact hlt
          obtain ⟨gp, cp, hvp, -, -, -, hcellp, -⟩ := hkr.form Dm.Wr.cells_len (by omega)
          injection hvp with e1 e2 e3
          subst e1 e3
          clear e2
          have p0 := hcellp k hlt' 0 (by decide)
          have p1 := hcellp k hlt' 1 (by decide)
          have hsg := Dm.torn_get (t := t) (Dm.kept d zs d.pend.length) k hlt'
          have hfit : (Dm.kept d zs d.pend.length)[k].off + (Dm.kept d zs d.pend.length)[k].s.length ≤ d.sure.length := by
            have hm := List.getElem_mem hlt'
            obtain ⟨i, _, hi⟩ := List.mem_filterMap.1 hm
            exact HR.out.ok.fit _ (List.mem_of_getElem? hi)
          generalize (Dm.kept d zs d.pend.length)[k] = u at *
          rw [HL.out] at hsg
          have HSG : Hid ((Dm.survivors d zs t)[k]? = some (if k + 1 = L ∧ 0 ≤ t then ⟨u.off, u.s.take t.toNat⟩ else u)) := Lib.hid hsg
          have p0' : wr.cell? ⟨gp, k * 2, none⟩ = some (.int .i64 u.off) := p0
          have p1' : wr.cell? ⟨gp, k * 2 + 1, none⟩ = some (.string ⟨u.s.toArray⟩) := p1
          have HFT := Lib.hid hfit
          have hs63 : u.s.length ≤ 9223372036854775807 := by omega
          have HFL := Lib.hid (Dm.fold_len ((Dm.survivors d zs t).take k) d.sure (fun v hv => HR.out.ok.survivors zs t v (List.mem_of_mem_take hv)))
          clear hO2 hF2 hbr hkr p0 p1 hcellp hfit hsg hlt' hrs
          by_cases hlast : k + 1 = L
          · have HLA := Lib.hid hlast
            have hk1 : ((k : Int) == (L : Int) - 1) = true := by simp; omega
            clear hlast
            by_cases ht0 : 0 ≤ t
            · have HU0 : Hid ((Dm.survivors d zs t)[k]? = some ⟨u.off, u.s.take t.toNat⟩) := Lib.hid (by rw [HSG.out, if_pos ⟨HLA.out, ht0⟩])
              by_cases htl : t < u.s.length
              · obtain ⟨j, rfl⟩ : ∃ j : Nat, t = (j : Int) := ⟨t.toNat, by omega⟩
                have hex := string_take u.s j
                have HU : Hid ((Dm.survivors d zs (j : Int))[k]? = some ⟨u.off, u.s.take j⟩) := HU0
                have HON := Lib.hid (apply_any gs _ (u.s.take j) u.off d.sure.length cs wr.drew (HO2.out.fr (Fr.refl [] wr).drew (by simp)) HFL.out (by have := HFT.out; simp only [List.length_take]; omega) hn2)
                go_wp2_with fail
                go_still_tail 10, (by kernel_rfl)
                change wpList _ _ _ _ _ wr.drew
                go_wp2_with fail
                refine HON.out.mono ?_
                rintro e w6 ⟨rfl, hb6, f6⟩
                have HE : Hid (OwnL 5 1 encB w6 (.slice (some ⟨gs, 0, none⟩) d.sure.length cs) (((Dm.survivors d zs (j : Int)).take (k + 1)).foldl Dm.onto d.sure)) := Lib.hid (by
                  obtain ⟨hl, e⟩ := List.getElem?_eq_some_iff.1 HU.out
                  rw [List.take_succ_eq_append_getElem hl, List.foldl_append, e]
                  exact hb6)
                have HF6 := Lib.hid (HF2.out.drew.trans f6)
                clear hb6 f6
                go_wp2_with fail
                go_roundw
                case rel => exact ⟨k + 1, by omega, by go_num, HE.out, HF6.out⟩
                case measure => simp [intOf]; omega
              · have HU : Hid ((Dm.survivors d zs t)[k]? = some u) := Lib.hid (by rw [HU0.out, List.take_of_length_le (by omega)])
                have HON := Lib.hid (apply_any gs _ u.s u.off d.sure.length cs wr.drew (HO2.out.fr (Fr.refl [] wr).drew (by simp)) HFL.out (HFT.out) hn2)
                go_wp2_with fail
                go_still_tail 10, (by kernel_rfl)
                change wpList _ _ _ _ _ wr.drew
                go_wp2_with fail
                refine HON.out.mono ?_
                rintro e w6 ⟨rfl, hb6, f6⟩
                have HE : Hid (OwnL 5 1 encB w6 (.slice (some ⟨gs, 0, none⟩) d.sure.length cs) (((Dm.survivors d zs t).take (k + 1)).foldl Dm.onto d.sure)) := Lib.hid (by
                  obtain ⟨hl, e⟩ := List.getElem?_eq_some_iff.1 HU.out
                  rw [List.take_succ_eq_append_getElem hl, List.foldl_append, e]
                  exact hb6)
                have HF6 := Lib.hid (HF2.out.drew.trans f6)
                clear hb6 f6
                go_wp2_with fail
                go_roundw
                case rel => exact ⟨k + 1, by omega, by go_num, HE.out, HF6.out⟩
                case measure => simp [intOf]; omega
            · have HU : Hid ((Dm.survivors d zs t)[k]? = some u) := Lib.hid (by rw [HSG.out, if_neg (fun h => ht0 h.2)])
              have HON := Lib.hid (apply_any gs _ u.s u.off d.sure.length cs wr.drew (HO2.out.fr (Fr.refl [] wr).drew (by simp)) HFL.out (HFT.out) hn2)
              go_wp2_with fail
              go_still_tail 10, (by kernel_rfl)
              change wpList _ _ _ _ _ wr.drew
              go_wp2_with fail
              refine HON.out.mono ?_
              rintro e w6 ⟨rfl, hb6, f6⟩
              have HE : Hid (OwnL 5 1 encB w6 (.slice (some ⟨gs, 0, none⟩) d.sure.length cs) (((Dm.survivors d zs t).take (k + 1)).foldl Dm.onto d.sure)) := Lib.hid (by
                obtain ⟨hl, e⟩ := List.getElem?_eq_some_iff.1 HU.out
                rw [List.take_succ_eq_append_getElem hl, List.foldl_append, e]
                exact hb6)
              have HF6 := Lib.hid (HF2.out.drew.trans f6)
              clear hb6 f6
              go_wp2_with fail
              go_roundw
              case rel => exact ⟨k + 1, by omega, by go_num, HE.out, HF6.out⟩
              case measure => simp [intOf]; omega
          · have HU : Hid ((Dm.survivors d zs t)[k]? = some u) := Lib.hid (by rw [HSG.out, if_neg (fun h => hlast h.1)])
            have hk1 : ((k : Int) == (L : Int) - 1) = false := by simp; omega
            clear hlast
            have HON := Lib.hid (apply_any gs _ u.s u.off d.sure.length cs wr.drew (HO2.out.fr (Fr.refl [] wr).drew (by simp)) HFL.out (HFT.out) hn2)
            go_wp2_with fail
            go_still_tail 10, (by kernel_rfl)
            change wpList _ _ _ _ _ wr.drew
            go_wp2_with fail
            refine HON.out.mono ?_
            rintro e w6 ⟨rfl, hb6, f6⟩
            have HE : Hid (OwnL 5 1 encB w6 (.slice (some ⟨gs, 0, none⟩) d.sure.length cs) (((Dm.survivors d zs t).take (k + 1)).foldl Dm.onto d.sure)) := Lib.hid (by
              obtain ⟨hl, e⟩ := List.getElem?_eq_some_iff.1 HU.out
              rw [List.take_succ_eq_append_getElem hl, List.foldl_append, e]
              exact hb6)
            have HF6 := Lib.hid (HF2.out.drew.trans f6)
            clear hb6 f6
            go_wp2_with fail
            go_roundw
            case rel => exact ⟨k + 1, by omega, by go_num, HE.out, HF6.out⟩
            case measure => simp [intOf]; omega
        · obtain rfl : k = L := by omega
          rw [List.take_of_length_le (by rw [HSL.out]; omega)] at HO2
          have z1 := hbr.frozen 1
          have z2 := hbr.frozen 2
          have z3 := hbr.frozen 3
          have q1 := hbr.cell 1
          have q2 := hbr.cell 2
          have q3 := hbr.cell 3
          have hltb := hbr.lt
          have HXL : Hid ((Dm.crash d zs t).sure.length = d.sure.length) := Lib.hid (Dm.fold_len _ _ (HR.out.ok.survivors zs t))
          have HB : Hid (Blk (((wr.setCell ⟨r, 1, none⟩ (.slice none 0 0)).setCell ⟨r, 2, none⟩ (.bool false)).setCell ⟨r, 3, none⟩ (.int .i64 0)) r 43 (refDisk (Dm.crash d zs t) (.slice (some ⟨gs, 0, none⟩) d.sure.length cs) (.slice none 0 0))) := Lib.hid (by
            have h5 := ((hbr.set_ 1 (.slice none 0 0)).set_ 2 (.bool false)).set_ 3 (.int .i64 0)
            simpa [refDisk, Dm.crash] using h5)
          have f7 : Fr [r] wr (((wr.setCell ⟨r, 1, none⟩ (.slice none 0 0)).setCell ⟨r, 2, none⟩ (.bool false)).setCell ⟨r, 3, none⟩ (.int .i64 0)) := (((Fr.refl _ _).setCell (.inl (by simp)) _).setCell (.inl (by simp)) _).setCell (.inl (by simp)) _
          have HS7 := Lib.hid (HO2.out.fr f7 (fun g hg => by
            have e : gs = g := by simpa [Value.ownBlock] using hg
            subst e
            simpa using hrs.symm))
          have HF7 : Hid (Fr (r :: ((Value.slice (some ⟨gs, 0, none⟩) d.sure.length cs).ownBlock.toList ++ (Value.slice Al d.pend.length cl).ownBlock.toList)) w (((wr.setCell ⟨r, 1, none⟩ (.slice none 0 0)).setCell ⟨r, 2, none⟩ (.bool false)).setCell ⟨r, 3, none⟩ (.int .i64 0))) := Lib.hid (((HKF.out.mono (by simp)).trans (hF2.mono (by simp [Value.ownBlock]))).trans (f7.mono (by simp)))
          clear hO2 hF2 hbr hkr f7
          go_wp2_with fail
          go_end0
          refine ⟨rfl, _, ⟨.slice (some ⟨gs, 0, none⟩) d.sure.length cs, .slice none 0 0, rfl, HB.out, HS7.out, OwnL.nil, HR.out.ok.crash zs t⟩, HF7.out, fun g hg => .inl ?_⟩
          simp only [Value.ownBlock, Option.toList, List.cons_append, List.nil_append, List.append_nil, List.mem_cons, List.not_mem_nil, or_false] at hg ⊢
          rcases hg with hg | hg
          · exact .inl hg
          · exact .inr (.inl hg)
end Go.Proofs.Ytbmakjhfoaadoaa

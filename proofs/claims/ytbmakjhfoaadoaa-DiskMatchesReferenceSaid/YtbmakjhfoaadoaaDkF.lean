/-
  Contracts of package disk: Write.
-/
import Derived.Test.YtbmakjhfoaadoaaDkE
import Derived.Deep.RegionLaw
namespace Go.Proofs.Ytbmakjhfoaadoaa
open Go.RowKit

theorem infoWr : (Try.prog.info? 69).map (fun i => (i.zero, i.size, i.bytes)) = some (some (.agg #[.int .i64 0, .string ⟨#[]⟩]), 2, 24) := by kernel_rfl
theorem etWr : ∃ i0, ET Try.prog 63 69 2 24 i0 (.agg #[.int .i64 0, .string ⟨#[]⟩]) := by
  obtain ⟨i0, hi, hz0, hz1, hz2⟩ := info_parts infoWr
  exact ⟨i0, Try.underlying63, hi, hz0, hz1, hz2, rfl, by decide⟩
def Dm.writeCode (d : Dm.Dk) (off : Int) (s : List UInt8) : Int := if d.off = true then 221 else if Dm.inside d off s.length = true then 0 else 220
set_option maxRecDepth 100000 in
set_option maxHeartbeats 4000000 in
theorem write_any (b gs gv : Nat) (vp : Value) (d : Dm.Dk) (off : Int) (s : List UInt8) (w : World) (h : DiskAt w b gs gv vp d) (ho : okI off) (hpl : d.pend.length ≤ 100000) (hlf : okI d.left) :
    Calls Try.prog 21 #[.pointer (some ⟨b, 0, none⟩), .int .i64 off, .string ⟨s.toArray⟩] w fun e w' =>
      e = .returned (.int .i64 (Dm.writeCode d off s)) ∧ ∃ vp', DiskAt w' b gs gv vp' (Dm.write d off s) ∧ Fr (b :: gv :: vp.ownBlock.toList) w w' ∧ ∀ g, vp'.ownBlock = some g → vp.ownBlock = some g ∨ w.heap.size ≤ g := by
  have HCK := Lib.hid (check_any b gs gv vp d w h)
  have HIN := Lib.hid (inside_any b gs gv vp d off s.length w h ho)
  have HW : Hid (Dm.write d off s = if Dm.writes d off s = true then ⟨d.sure, d.pend ++ [⟨off.toNat, s⟩], (Dm.used d.off d.left).1, (Dm.used d.off d.left).2⟩ else d) := Lib.hid rfl
  have HWC : Hid (Dm.writeCode d off s = if d.off = true then 221 else if Dm.inside d off s.length = true then 0 else 220) := Lib.hid rfl
  have HWS : Hid (Dm.writes d off s = (!d.off && Dm.inside d off s.length)) := Lib.hid rfl
  have HOK := Lib.hid (h.ok.write off s)
  have H := Lib.hid h
  have hsz : (⟨s.toArray⟩ : ByteArray).size = s.length := by simp [ByteArray.size]
  clear h
  cases hd : d.off
  · rw [hd] at HCK HWC HWS
    cases hi : Dm.inside d off s.length
    · rw [hi] at HIN HWC HWS
      have H1 : Hid (Dm.write d off s = d ∧ Dm.writeCode d off s = 220) := Lib.hid ⟨by rw [HW.out, HWS.out]; rfl, by rw [HWC.out]; rfl⟩
      go_enter Try.func21, Try.ntmps21
      go_wp2_with (first | (go_at_call 28; refine HCK.out.mono ?_; rintro e w' ⟨rfl, rfl⟩) | (go_at_call 29; refine HIN.out.mono ?_; rintro e w' ⟨rfl, rfl⟩))
      go_ret
      exact ⟨by rw [H1.out.2]; rfl, vp, by rw [H1.out.1]; exact H.out, Fr.refl _ _, fun g hg => .inl hg⟩
    · rw [hi] at HIN HWC HWS
      obtain ⟨i1, i2, i3, i4⟩ := Dm.inside_iff.1 hi
      obtain ⟨o, rfl⟩ : ∃ o : Nat, off = (o : Int) := ⟨off.toNat, by omega⟩
      go_enter Try.func21, Try.ntmps21
      go_upto_region 7 with (first | (go_at_call 28; refine HCK.out.mono ?_; rintro e w' ⟨rfl, rfl⟩) | (go_at_call 29; refine HIN.out.mono ?_; rintro e w' ⟨rfl, rfl⟩))
      have hbx := Blk.new w 69 #[.int .i64 o, .string ⟨s.toArray⟩]
      have f1 := (Fr.refl [] w).alloc (.cells #[.int .i64 o, .string ⟨s.toArray⟩] 69)
      have H1 := H.out.fr0 f1
      obtain ⟨A, cap, hv⟩ := H1.pend.val
      subst hv
      generalize (w.alloc (.cells #[.int .i64 o, .string ⟨s.toArray⟩] 69)) = W1 at hbx f1 H1 ⊢
      have c0 : W1.cell? ⟨w.heap.size, 0, none⟩ = some (.int .i64 o) := hbx.cell 0
      have c1 : W1.cell? ⟨w.heap.size, 1, none⟩ = some (.string ⟨s.toArray⟩) := hbx.cell 1
      have c4 : W1.cell? ⟨b, 4, none⟩ = some (.slice A d.pend.length cap) := H1.blk.cell 4
      have hbl := H1.blk.lt
      have hgl := hbx.lt
      have HX := Lib.hid hbx
      have F1 := Lib.hid f1
      have HD1 := Lib.hid H1
      have hown := (H1.pend.fr ((Fr.refl [] W1).alloc (.cells #[.int .i64 o, .string ⟨s.toArray⟩] 69)).drew (by simp))
      have hrd : Hid (Reads (W1.alloc (.cells #[.int .i64 o, .string ⟨s.toArray⟩] 69)).drew (W1.heap.size + 1) 2 (some ⟨W1.heap.size, 0, none⟩) 1 ([(⟨o, s⟩ : Dm.Wr)].flatMap Dm.Wr.cells)) := Lib.hid (reads_new (enc := Dm.Wr.cells) W1 69 ⟨o, s⟩ rfl).drew
      have hl1 : Hid (d.pend.length + [(⟨o, s⟩ : Dm.Wr)].length ≤ 100001) := Lib.hid (by simp only [List.length_singleton]; omega)
      have hmx : Hid ((100001 : Nat) ≤ maxLen) := Lib.hid (by decide)
      obtain ⟨i0, TR⟩ := etWr
      clear hbx f1 H1
      go_cut [] (fun wc => ∃ (A5 : Option Addr) (n5 c5 : Nat), Hid (Fr (b :: (Value.slice A d.pend.length cap).ownBlock.toList) W1 wc ∧ Blk wc b 65 ((diskCells d gs gv (.slice A d.pend.length cap)).setIfInBounds 4 (.slice A5 n5 c5)) ∧ OwnL 69 2 Dm.Wr.cells wc (.slice A5 n5 c5) (d.pend ++ [(⟨o, s⟩ : Dm.Wr)]) ∧ ((Value.slice A5 n5 c5).ownBlock = (Value.slice A d.pend.length cap).ownBlock ∨ (Value.slice A5 n5 c5).ownBlock = some (W1.heap.size + 1))))
      case first =>
        go_region_law (refine step_appendL rfl _ _ rfl TR Dm.Wr.cells_len Dm.Wr.cells_one rfl hown _ _ _ _ [(⟨o, s⟩ : Dm.Wr)] rfl rfl hrd.out (Nat.le_trans hl1.out hmx.out) (Nat.le_trans (Nat.mul_le_mul_right 24 hl1.out) (by decide)) ?_; intro v5 w5 hown5 hg5 hat5; obtain ⟨A5, n5, c5, hv5⟩ : ∃ A n c, v5 = .slice A n c := (match hown5.val with | ⟨_, _, hv⟩ => ⟨_, _, _, hv⟩); subst hv5; have HO5 := Lib.hid hown5; have hb5 := ((HD1.out.blk.alloc (.cells #[.int .i64 o, .string ⟨s.toArray⟩] 69)).drew).grown hg5 (fun e => hown.ne ((HD1.out.blk.alloc (.cells #[.int .i64 o, .string ⟨s.toArray⟩] 69)).drew) (by decide) e.symm rfl); have z5 := hb5.frozen 4; have y4 : w5.cell? ⟨b, 4, none⟩ = some (.slice A d.pend.length cap) := hb5.cell 4; have HG5 := Lib.hid hg5; have HA5 := Lib.hid hat5; have HB5 := Lib.hid hb5; have hl5 := hb5.lt; clear hown5 hg5 hat5 hb5)
        all_goals
          go_wp2_with fail
          go_meet
          refine ⟨A5, n5, c5, Lib.hid ⟨?_, HB5.out.set_ 4 _, ?_, ?_⟩⟩
          · exact ((((Fr.refl (b :: (Value.slice A d.pend.length cap).ownBlock.toList) W1).alloc (.cells #[.int .i64 o, .string ⟨s.toArray⟩] 69)).drew).grown HG5.out (fun g hg => .inl (List.mem_cons_of_mem _ (Option.mem_toList.2 hg)))).setCell (p := ⟨b, 4, none⟩) (.inl (by simp)) _
          · exact HO5.out.fr ((Fr.refl [b] w5).setCell (p := ⟨b, 4, none⟩) (.inl (by simp)) _) (fun g hg => by
              have h9 := HO5.out.ne HB5.out (by decide) hg
              simpa using h9)
          · rcases (show (Value.slice A5 n5 c5).ownBlock = (Value.slice A d.pend.length cap).ownBlock ∨ (Value.slice A5 n5 c5).ownBlock = some (W1.alloc (.cells #[.int .i64 o, .string ⟨s.toArray⟩] 69)).drew.heap.size from HA5.out) with h9 | h9
            · exact .inl h9
            · refine .inr ?_
              rw [h9]
              simp
      case rest =>
        obtain ⟨A5, n5, c5, HQ⟩ := hcut
        obtain ⟨q1, q2, q3, q4⟩ := HQ.out
        obtain ⟨a1, a2, a3⟩ := HD1.out.apart
        have hgg : w.heap.size ≠ b := Nat.ne_of_gt H.out.blk.lt
        have hbg : w.heap.size ∉ (b :: (Value.slice A d.pend.length cap).ownBlock.toList) := by
          simp only [List.mem_cons, Option.mem_toList, not_or]
          exact ⟨hgg, fun hm => by have := H.out.pend.lt hm; omega⟩
        have hvn : gv ∉ (b :: (Value.slice A d.pend.length cap).ownBlock.toList) := by
          simp only [List.mem_cons, Option.mem_toList, not_or]
          exact ⟨a2, fun hm => (a3 gv hm).2.2 rfl⟩
        have hsn : gs ∉ (b :: (Value.slice A d.pend.length cap).ownBlock.toList) := by
          simp only [List.mem_cons, Option.mem_toList, not_or]
          exact ⟨a1, fun hm => (a3 gs hm).2.1 rfl⟩
        have hx := HX.out.fr q1 hbg
        have x0 : wc.cell? ⟨w.heap.size, 0, none⟩ = some (.int .i64 o) := hx.cell 0
        have x1 : wc.cell? ⟨w.heap.size, 1, none⟩ = some (.string ⟨s.toArray⟩) := hx.cell 1
        have hbD : Blk wc b 65 #[.bool d.off, .int .i64 d.left, .slice (some ⟨gs, 0, none⟩) d.sure.length d.sure.length, .slice (some ⟨gv, 0, none⟩) d.sure.length d.sure.length, .slice A5 n5 c5] := by simpa [diskCells] using q2
        have x3 : wc.cell? ⟨b, 3, none⟩ = some (.slice (some ⟨gv, 0, none⟩) d.sure.length d.sure.length) := hbD.cell 3
        have hdv := HD1.out.vis.fr q1 hvn
        have HSU := Lib.hid (HD1.out.sure.fr q1 hsn)
        have hok := H.out.ok
        have HON := Lib.hid (onto_any ⟨o, s⟩ gv d.vis d.sure.length wc.drew hdv.drew hok.vis_len (by dsimp only; omega) hok.n2)
        have hb63 : d.sure.length ≤ 4194304 := hok.n2
        have HBD := Lib.hid hbD
        have HOW := Lib.hid q3
        have HQ1 := Lib.hid q1
        have HQ4 := Lib.hid q4
        have HNE := Lib.hid (And.intro a1 a2)
        clear q1 q2 q3 q4 a1 a2 a3 hx hbD hdv hok HQ hown c0 c1 c4
        go_upto_region 8 with fail
        go_still_tail 5, (by kernel_rfl)
        change wpList _ _ _ _ _ wc.drew
        go_wp2_with fail
        refine HON.out.mono ?_
        rintro e w6 ⟨rfl, hb6, f6⟩
        have HV6 := Lib.hid hb6
        have HB6 := Lib.hid (HBD.out.drew.fr f6 (by simpa using fun e => HNE.out.2 e.symm))
        have HS6 := Lib.hid (HSU.out.drew.fr f6 (by simpa using H.out.ne))
        have HO6 := Lib.hid ((HOW.out.fr (Fr.refl [] wc).drew (by simp)).fr f6 (fun g hg => by
          have h9 := (HOW.out.fr (Fr.refl [] wc).drew (by simp)).ne (show Blk wc.drew gv _ _ from (HD1.out.vis.fr HQ1.out hvn).drew) (by decide) hg
          simpa using h9))
        have F6 := Lib.hid f6
        clear hb6 f6
        have hw1 : Dm.writes d o s = true := by rw [HWS.out]; rfl
        have e1 : Dm.write d o s = ⟨d.sure, d.pend ++ [⟨o, s⟩], (Dm.used d.off d.left).1, (Dm.used d.off d.left).2⟩ := by rw [HW.out, if_pos hw1, Int.toNat_natCast]
        have e2 : (Dm.write d o s).vis = Dm.onto d.vis ⟨o, s⟩ := by rw [Dm.vis_write hw1, Int.toNat_natCast]
        have E1 := Lib.hid e1
        have E2 := Lib.hid e2
        have E3 : Hid (Dm.writeCode d o s = 0) := Lib.hid (by rw [HWC.out]; rfl)
        clear e1 e2 hw1
        go_wp2_with fail
        refine (used_any b d.off d.left _ _ _ w6 HB6.out H.out.ok.left hlf).mono ?_
        rintro e w7 ⟨rfl, hb7, f7⟩
        have HE : Hid (DiskAt w7 b gs gv (.slice A5 n5 c5) (Dm.write d o s)) := Lib.hid ⟨by rw [E1.out]; simpa [diskCells] using hb7, by rw [E1.out]; exact HS6.out.fr f7 (by simpa using HNE.out.1), by rw [E2.out]; exact HV6.out.fr f7 (by simpa using HNE.out.2), by
          rw [E1.out]
          exact HO6.out.fr f7 (fun g hg => by
            have h9 := HO6.out.ne HB6.out (by decide) hg
            simpa using h9), H.out.ne, HOK.out⟩
        have HFR : Hid (Fr (b :: gv :: (Value.slice A d.pend.length cap).ownBlock.toList) w w7) := Lib.hid ((((F1.out.mono (by simp)).trans' HQ1.out (fun x hx => .inl (by
          simp only [List.mem_cons] at hx ⊢
          rcases hx with h | h
          · exact .inl h
          · exact .inr (.inr h)))).drew.trans' F6.out (fun x hx => .inl (by
          simp only [List.mem_cons, List.not_mem_nil, or_false] at hx ⊢
          exact .inr (.inl hx)))).trans' f7 (fun x hx => .inl (by
          simp only [List.mem_cons, List.not_mem_nil, or_false] at hx ⊢
          exact .inl hx)))
        clear hb7 f7
        go_wp2_with fail
        go_ret
        refine ⟨by rw [E3.out]; rfl, _, HE.out, HFR.out, fun g hg => ?_⟩
        rcases HQ4.out with h9 | h9
        · exact .inl (h9.symm.trans hg)
        · refine .inr ?_
          rw [hg] at h9
          injection h9 with h9
          have := F1.out.size
          omega
  · rw [hd] at HCK HWC HWS
    have H1 : Hid (Dm.write d off s = d ∧ Dm.writeCode d off s = 221) := Lib.hid ⟨by rw [HW.out, HWS.out]; rfl, by rw [HWC.out]; rfl⟩
    go_enter Try.func21, Try.ntmps21
    go_wp2_with (go_at_call 28; refine HCK.out.mono ?_; rintro e w' ⟨rfl, rfl⟩)
    go_ret
    exact ⟨by rw [H1.out.2]; rfl, vp, by rw [H1.out.1]; exact H.out, Fr.refl _ _, fun g hg => .inl hg⟩
end Go.Proofs.Ytbmakjhfoaadoaa

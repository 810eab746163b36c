/-
  An argument that is a slice of records, each with changes of its own.
-/
import Derived.Test.YtciaallekkdnhaaGreatJq
import Derived.Test.YtciaallekkdnhaaGreatJf
import Derived.BigQuiet
import Derived.Test.YtciaallekkdnhaaGreatJa
import Derived.Test.YtciaallekkdnhaaGreatJk
import Derived.OpenShut
import Derived.Laws.IdiomArrays
import Derived.Test.YtciaallekkdnhaaGreatJi
import Derived.Deep.Slices
import Derived.ChangeArms
namespace Go.Proofs.YtciaallekkdnhaaGreat
open Go.RowKit Go.Shelf
attribute [local go_sem] Oper.semAt_some

namespace Mm
def nearK (SC : Sc) (t : Int) (r : RowV) (k : Nat) : List Int := ([(0 : Int), 1, 2, 3].take k).flatMap fun col => cont (scanOf SC t col) (r.value col)
theorem nearK_zero (SC : Sc) (t : Int) (r : RowV) : nearK SC t r 0 = [] := rfl
theorem nearK_four (SC : Sc) (t : Int) (r : RowV) : nearK SC t r 4 = nearR SC t r := rfl
theorem nearK_succ (SC : Sc) (t : Int) (r : RowV) {k : Nat} (hk : k < 4) : nearK SC t r (k + 1) = nearK SC t r k ++ cont (scanOf SC t k) (r.value k) := by
  have hx : k = 0 ∨ k = 1 ∨ k = 2 ∨ k = 3 := by omega
  rcases hx with rfl | rfl | rfl | rfl <;> simp [nearK]
theorem nearR_split (SC : Sc) (t : Int) (r : RowV) {k : Nat} (hk : k < 4) : ∃ tl, nearR SC t r = nearK SC t r k ++ (cont (scanOf SC t k) (r.value k) ++ tl) := by
  have hx : k = 0 ∨ k = 1 ∨ k = 2 ∨ k = 3 := by omega
  rcases hx with rfl | rfl | rfl | rfl
  · exact ⟨_, by simp only [nearR, nearK, List.take, List.flatMap_cons, List.flatMap_nil, List.append_nil, List.nil_append]; rfl⟩
  · exact ⟨_, by simp only [nearR, nearK, List.take, List.flatMap_cons, List.flatMap_nil, List.append_nil]; rfl⟩
  · exact ⟨_, by simp only [nearR, nearK, List.take, List.flatMap_cons, List.flatMap_nil, List.append_nil, List.append_assoc]; rfl⟩
  · exact ⟨[], by simp only [nearR, nearK, List.take, List.flatMap_cons, List.flatMap_nil, List.append_nil, List.append_assoc]; rfl⟩
theorem near_yield {SC : Sc} {JN : Jn} {c : Chg} {pre : List RowV} {r : RowV} {k : Nat} (hk : k < 4) (hx : ∃ rr, pre ++ r :: rr = rows c) {p : List Int} {x : Int} (hp : ∃ q, p ++ x :: q = cont (scanOf SC c.t k) (r.value k)) :
    ∃ q, (pre.flatMap (nearR SC c.t) ++ nearK SC c.t r k ++ p) ++ x :: q = near SC JN c := by
  obtain ⟨rr, hr⟩ := hx
  obtain ⟨q, hq⟩ := hp
  obtain ⟨tl, ht⟩ := nearR_split SC c.t r hk
  unfold near
  rw [← hr, List.flatMap_append, List.flatMap_cons, ht, ← hq]
  exact ⟨q ++ tl ++ rr.flatMap (nearR SC c.t) ++ (mget JN c.t).getD [], by simp [List.append_assoc]⟩
theorem near_join {SC : Sc} {JN : Jn} {c : Chg} {p : List Int} {x : Int} (hp : ∃ q, p ++ x :: q = (mget JN c.t).getD []) : ∃ q, ((rows c).flatMap (nearR SC c.t) ++ p) ++ x :: q = near SC JN c := by
  obtain ⟨q, hq⟩ := hp
  exact ⟨q, by unfold near; rw [← hq, List.append_assoc]⟩
end Mm
section
variable {w : World} {bl ms mj : Nat} {SV : List (IdK × RvL Mm.Iv)} {JV : List (Int × RvL Int)} {M : Mm.Ix} {D : List Nat}
theorem idOf_mk {t k : Int} (ht : okI t) (hk : okI k) : (idOf t k).1 = (t, k) := by
  unfold idOf
  rw [dif_pos ⟨ht, hk⟩]
/-- The list of a place, as the walk looks it up. -/
theorem LsIn.scan_at (h : LsIn w bl ms mj SV JV M D) {t k : Int} (ht : okI t) (hk : okI k) : ∃ A cap, ((mget SV (idOf t k)).map (fun u : RvL Mm.Iv => u.1)).getD (.slice none 0 0) = .slice A (Mm.scanOf (shedP SV) t k).length cap ∧
    (Mm.scanOf (shedP SV) t k).length ≤ cap ∧ cap ≤ maxLen ∧ AtL Mm.Iv.cells 4 w A (Mm.scanOf (shedP SV) t k) ∧ (∀ ad, A = some ad → ad.block ∈ D) ∧ Mm.Sor (Mm.scanOf (shedP SV) t k) ∧ (Mm.scanOf (shedP SV) t k).length ≤ 500 ∧ (∀ x ∈ Mm.scanOf (shedP SV) t k, -1000000000 ≤ x.low ∧ x.reach ≤ 1000000000) := by
  have e : Mm.scanOf (shedP SV) t k = ((mget SV (idOf t k)).map (·.2)).getD [] := by
    unfold Mm.scanOf
    rw [← idOf_mk ht hk, mget_shedP]
  rw [e]
  cases hg : mget SV (idOf t k) with
  | none => exact ⟨none, 0, rfl, Nat.le_refl _, Nat.zero_le _, (fun hl => absurd hl (by simp)), (fun ad e => (by cases e)), ⟨.nil, .nil, by simp⟩, by simp, by simp⟩
  | some u =>
    have hm := mget_mem hg
    obtain ⟨A, cap, h1, h2, h3, h4, h5⟩ := h.rowS _ hm
    have hp : ((idOf t k).1, u.2) ∈ shedP SV := List.mem_map.2 ⟨_, hm, rfl⟩
    obtain ⟨l1, l2⟩ := h.lists.ok _ hp
    exact ⟨A, cap, h1, h2, h3, h4, h5, h.lists.sor _ hp, l1, fun x hx => ⟨(l2 x hx).1.1, (l2 x hx).2.2.1.2⟩⟩
theorem LsIn.join_at (h : LsIn w bl ms mj SV JV M D) (t : Int) : ∃ A cap, ((mget JV t).map (fun u : RvL Int => u.1)).getD (.slice none 0 0) = .slice A ((mget (shedJ JV) t).getD []).length cap ∧
    ((mget (shedJ JV) t).getD []).length ≤ cap ∧ cap ≤ maxLen ∧ AtL encJ 1 w A ((mget (shedJ JV) t).getD []) ∧ (∀ ad, A = some ad → ad.block ∈ D) ∧ ((mget (shedJ JV) t).getD []).length ≤ 500 := by
  rw [mget_shedJ]
  cases hg : mget JV t with
  | none => exact ⟨none, 0, rfl, Nat.le_refl _, Nat.zero_le _, (fun hl => absurd hl (by simp)), (fun ad e => (by cases e)), by simp⟩
  | some u =>
    have hm := mget_mem hg
    obtain ⟨A, cap, h1, h2, h3, h4, h5⟩ := h.rowJ _ hm
    have hp : (t, u.2) ∈ shedJ JV := List.mem_map.2 ⟨_, hm, rfl⟩
    exact ⟨A, cap, h1, h2, h3, h4, h5, (h.lists.okJ _ hp).1⟩
end
theorem AtL.int {w : World} {A : Option Addr} {L : List Int} (h : AtL encJ 1 w A L) {i : Nat} (hi : i < L.length) : ∃ b off, A = some ⟨b, off, none⟩ ∧ b < w.heap.size ∧ w.cell? ⟨b, off + i, none⟩ = some (.int .i64 L[i]) := by
  obtain ⟨b, off, e, hlt, hc⟩ := h (by omega)
  have h1 := hc i hi 0 (by decide)
  rw [Nat.mul_one, Nat.add_zero] at h1
  exact ⟨b, off, e, hlt, h1.trans rfl⟩
theorem take_snoc {α : Type} {L : List α} {q : Nat} (h : q < L.length) : L.take (q + 1) = L.take q ++ [L[q]] ∧ ∃ r, L.take q ++ L[q] :: r = L :=
  ⟨List.take_succ_eq_append_getElem h, L.drop (q + 1), by rw [← List.drop_eq_getElem_cons h, List.take_append_drop]⟩
theorem mnear_any (bl : Option Addr) (c : Chg) (w : World) : Calls Tryz.prog 40 #[.pointer bl, c.val] w fun e w' => e = .returned (.func (.func 63) #[] #[.pointer (some ⟨w.heap.size + 1, 0, none⟩), .pointer (some ⟨w.heap.size, 0, none⟩)]) ∧
    w' = (w.alloc (.cells #[.pointer bl] 80)).alloc (.cells (chgCs c) 59) := by
  obtain ⟨t, k, had, o0, o1, o2, has, n0, n1, n2⟩ := c
  go_enter Tryz.func40, Tryz.ntmps40
  go_wp2
  go_ret
  exact ⟨by simp, rfl⟩
set_option maxRecDepth 100000 in
set_option maxHeartbeats 4000000 in
theorem near_seq (n : Nat) (hn : 12 ≤ n) (Bc Bl bl ms mj : Nat) (SV : List (IdK × RvL Mm.Iv)) (JV : List (Int × RvL Int)) (M : Mm.Ix) (D : List Nat) (c : Chg) (S : List Nat) (w : World) (hls : LsIn w bl ms mj SV JV M D) (hc : Blk w Bc 59 (chgCs c)) (hl : Blk w Bl 80 #[.pointer (some ⟨bl, 0, none⟩)])
    (ht : okI c.t) (hr : ∀ r ∈ Mm.rows c, ∀ k, okI (r.value k)) (hBc : Bc ∉ S) (hBl : Bl ∉ S) (hD : ∀ x ∈ D, x ∉ S) (hSw : ∀ x ∈ S, x < w.heap.size) :
    SeqF Fence.wide n Tryz.prog 63 #[.pointer (some ⟨Bc, 0, none⟩), .pointer (some ⟨Bl, 0, none⟩)] (fun x : Int => #[.int .i64 x]) S (Mm.near (shedP SV) (shedJ JV) c) w := by
  intro l J W hW hJ hsz hY h0
  have hlsW := hls.fr hW (by simp)
  have hcW := hc.fr hW (by simp)
  have hlW := hl.fr hW (by simp)
  have HY := Lib.hid hY
  have HJ := Lib.hid hJ
  have HSZ := Lib.hid hsz
  have HD := Lib.hid hD
  have HT := Lib.hid ht
  have HRV := Lib.hid hr
  have HSW : Hid (∀ x ∈ S, x < W.heap.size) := Lib.hid (fun x hx => Nat.lt_of_lt_of_le (hSw x hx) hW.size)
  have hn1 : 1 ≤ n := by omega
  have f0 : Fr [] W (W.alloc (.cells #[.func (.yield l) #[] #[]] 39)) := (Fr.refl _ _).alloc _
  have hby := Blk.new W 39 #[.func (.yield l) #[] #[]]
  have hcb := hcW.fr f0 (by simp)
  have HBY := Lib.hid hby
  have HLS := Lib.hid (hlsW.fr f0 (by simp))
  have HCB := Lib.hid hcb
  have HLB := Lib.hid (hlW.fr f0 (by simp))
  have HJ0 := Lib.hid (hJ _ _ _ h0 (f0.toBelow (Nat.le_refl _) (by simp)))
  have HF0 := Lib.hid f0
  have HMR := Lib.hid (mrows_any c)
  have hlc := hcW.lt
  have hll := hlW.lt
  clear hY hJ hsz h0 hD ht hr hSw hby hls hc hl hlsW hcW hlW f0
  obtain ⟨C, HCC⟩ : ∃ C, Hid (c = C) := ⟨_, Lib.hid rfl⟩
  have hce := HCC.out
  have c0 : (W.alloc (.cells #[.func (.yield l) #[] #[]] 39)).cell? ⟨Bc, 0, none⟩ = some (.int .i64 c.t) := hcb.cell 0
  have c1 : (W.alloc (.cells #[.func (.yield l) #[] #[]] 39)).cell? ⟨Bc, 1, none⟩ = some (.int .i64 c.k) := hcb.cell 1
  have c2 : (W.alloc (.cells #[.func (.yield l) #[] #[]] 39)).cell? ⟨Bc, 2, none⟩ = some (.bool c.had) := hcb.cell 2
  have c3 : (W.alloc (.cells #[.func (.yield l) #[] #[]] 39)).cell? ⟨Bc, 3, none⟩ = some (.int .i64 c.o0) := hcb.cell 3
  have c4 : (W.alloc (.cells #[.func (.yield l) #[] #[]] 39)).cell? ⟨Bc, 4, none⟩ = some (.int .i64 c.o1) := hcb.cell 4
  have c5 : (W.alloc (.cells #[.func (.yield l) #[] #[]] 39)).cell? ⟨Bc, 5, none⟩ = some (.int .i64 c.o2) := hcb.cell 5
  have c6 : (W.alloc (.cells #[.func (.yield l) #[] #[]] 39)).cell? ⟨Bc, 6, none⟩ = some (.bool c.has) := hcb.cell 6
  have c7 : (W.alloc (.cells #[.func (.yield l) #[] #[]] 39)).cell? ⟨Bc, 7, none⟩ = some (.int .i64 c.n0) := hcb.cell 7
  have c8 : (W.alloc (.cells #[.func (.yield l) #[] #[]] 39)).cell? ⟨Bc, 8, none⟩ = some (.int .i64 c.n1) := hcb.cell 8
  have c9 : (W.alloc (.cells #[.func (.yield l) #[] #[]] 39)).cell? ⟨Bc, 9, none⟩ = some (.int .i64 c.n2) := hcb.cell 9
  clear hcb hce
  refine callsIn_of_wp_marks Tryz.func63 rfl trivial ?_ rfl
  simp only [Tryz.ntmps63, List.size_toArray, List.length_cons, List.length_nil, Nat.reduceAdd, Nat.reduceSub, Array.replicate_succ, Array.replicate_zero, List.push_toArray, List.append_toArray, List.nil_append, List.cons_append]
  gi_wp2
  refine ⟨trivial, ?_⟩
  refine (callsIn_wide.2 (HMR.out _)).mono ?_
  rintro e w1 ⟨rfl, rfl⟩
  clear c0 c1 c2 c3 c4 c5 c6 c7 c8 c9
  generalize hw0 : W.alloc (.cells #[.func (.yield l) #[] #[]] 39) = Y at *
  have F1 : Fr [] Y (Y.alloc (.cells (chgCs c) 59)) := (Fr.refl _ _).alloc _
  have HLS1 := Lib.hid (HLS.out.fr F1 (by simp))
  have HCB1 := Lib.hid (HCB.out.fr F1 (by simp))
  have HLB1 := Lib.hid (HLB.out.fr F1 (by simp))
  have HBY1 := Lib.hid (HBY.out.fr F1 (by simp))
  have HCX1 := Lib.hid (Blk.new Y 59 (chgCs c))
  have HJ1 := Lib.hid (HJ.out _ _ _ HJ0.out (F1.toBelow (HSZ.out _ _ HJ0.out) (by simp)))
  have HF1 := Lib.hid (HF0.out.trans F1)
  clear HLS HCB HLB HBY HJ0 HF0 F1 HMR hw0
  gi_wp2
  have hYZ : Y.heap.size < (Y.alloc (.cells (chgCs c) 59)).heap.size := by simp
  have hWY : Y.heap.size ∉ S := fun hm => by have := HSW.out _ hm; have := HF1.out.size; simp at this; have h3 := HBY1.out.lt; simp at h3; omega
  generalize Y.alloc (.cells (chgCs c) 59) = Z at *
  have hWZ : W.heap.size ≤ Z.heap.size := HF1.out.size
  have hSZ : ∀ x ∈ S, x < Z.heap.size := fun x hx => Nat.lt_of_lt_of_le (HSW.out x hx) hWZ
  refine wpIn_rangeF rfl hn1 (gf := 111) (lb := #[.pointer (some ⟨Y.heap.size, 0, none⟩)]) rfl trivial (enters_of Tryz.func111 (by kernel_rfl) rfl)
    (rows_seq (n - 1) (by omega) Y.heap.size c S Z HCX1.out hWY hSZ) (Fr.refl [] _) (fun _ => rfl) hSZ
    (fun pre Wk => J (pre.flatMap (Mm.nearR (shedP SV) c.t)) Wk ∧ FrO Z.heap.size S Z Wk)
    (fun s A C' ⟨k1, k2⟩ hb => ⟨HJ.out _ _ _ k1 (hb.mono hWZ), k2.trans (below_frO hb)⟩)
    (fun p A h => h.2.size)
    ⟨HJ1.out, FrO.refl _ _ _⟩ ?round ?done
  case round =>
    rintro l2 pre ⟨rt, rk, rx, ry, rz⟩ W0 hx hl1 hl2 ⟨i1, i2⟩
    simp only [RowV.val]
    gi_wp2
    refine ⟨(Fr.refl _ _).alloc _, ?_⟩
    rintro W2 f2 ⟨rec2, hr2⟩ ⟨j1, j2⟩
    have hbx := (Blk.new W0 116 #[.int .i64 rt, .int .i64 rk, .int .i64 rx, .int .i64 ry, .int .i64 rz]).fr f2 (by simp; omega)
    have hsz2 : W0.heap.size < W2.heap.size := by have := f2.size; simp at this; omega
    have hl2S : l2 ∉ S := fun hm => by have := HSW.out _ hm; omega
    have hbxS : W0.heap.size ∉ S := fun hm => by have := HSW.out _ hm; omega
    have HX := Lib.hid hx
    have HJ2 := Lib.hid j1
    have HF2 := Lib.hid j2
    have HBX := Lib.hid hbx
    have HR2 := Lib.hid hr2
    have hZ2 : Z.heap.size ≤ W2.heap.size := j2.size
    clear hx j1 j2 hbx hr2 f2 i1 i2
    gi_wp2
    gi_loopw [12] (fun p wr => ∃ q : Nat, p = .int .i64 q ∧ q ≤ 4 ∧ Hid (J (pre.flatMap (Mm.nearR (shedP SV) c.t) ++ Mm.nearK (shedP SV) c.t (⟨rt, rk, rx, ry, rz⟩ : RowV) q) wr) ∧ Hid (FrO W2.heap.size S W2 wr)) (fun p _ => 4 - (intOf p).toNat)
    case atStart => exact ⟨0, rfl, by omega, Lib.hid (by rw [Mm.nearK_zero, List.append_nil]; exact HJ2.out), Lib.hid (FrO.refl _ _ _)⟩
    case round =>
      clear HJ2
      obtain ⟨q, rfl, hq, HK, HF⟩ := hrel
      by_cases h4 : q < 4
      · have h4' : (q : Int) < 4 := by omega
        have hqI : okI (q : Int) := okI_mk (by omega) (by omega)
        have HFZ : Hid (FrO Z.heap.size S Z wr) := Lib.hid (HF2.out.trans (HF.out.mono hZ2 (fun x hx _ => hx)))
        have hlsr := HLS1.out.fr HFZ.out.fr (fun x hx => HD.out x hx)
        obtain ⟨A, cap, sA, s1, s2, sL, sD, sS, sN, sB⟩ := hlsr.scan_at HT.out hqI
        obtain ⟨L, hL⟩ : ∃ L, Hid (Mm.scanOf (shedP SV) c.t q = L) := ⟨_, Lib.hid rfl⟩
        rw [hL.out] at sA s1 sL sS sN sB
        obtain ⟨N, hN⟩ : ∃ N, N = L.length := ⟨_, rfl⟩
        rw [← hN] at sA s1
        have HN := Lib.hid hN
        clear hN
        have hkv : (idOf c.t q).val = .agg #[.int .i64 c.t, .int .i64 (q : Int)] := by unfold IdK.val; rw [idOf_mk HT.out hqI]
        obtain ⟨vv, hvv⟩ : ∃ v, Hid (RowV.value (⟨rt, rk, rx, ry, rz⟩ : RowV) q = v) := ⟨_, Lib.hid rfl⟩
        have HPV : Hid (∀ V, Calls Tryz.prog 66 #[.agg #[.int .i64 rt, .int .i64 rk, .int .i64 rx, .int .i64 ry, .int .i64 rz], .int .i64 (q : Int)] V fun e w' => e = .returned (.int .i64 vv) ∧ w' = V.alloc (.cells (RowV.cells (⟨rt, rk, rx, ry, rz⟩ : RowV)).toArray 116)) := Lib.hid (fun V => by
          have h := pval_any (⟨rt, rk, rx, ry, rz⟩ : RowV) q V
          rw [hvv.out] at h
          exact h)
        have HSX : Hid (∀ V, Fr [] wr V → (fun V : World => V.cell? ⟨Bl, 0, none⟩ = some (.pointer (some ⟨bl, 0, none⟩)) ∧ V.cell? ⟨bl, 0, none⟩ = some (.map (some ms)) ∧ V.cell? ⟨Bc, 0, none⟩ = some (.int .i64 c.t) ∧ V.cell? ⟨W0.heap.size, 0, none⟩ = some (.int .i64 rt) ∧ V.cell? ⟨W0.heap.size, 1, none⟩ = some (.int .i64 rk) ∧ V.cell? ⟨W0.heap.size, 2, none⟩ = some (.int .i64 rx) ∧ V.cell? ⟨W0.heap.size, 3, none⟩ = some (.int .i64 ry) ∧ V.cell? ⟨W0.heap.size, 4, none⟩ = some (.int .i64 rz) ∧ (Instr.lookup 134 (.map (some ms)) (.agg #[.int .i64 c.t, .int .i64 (q : Int)]) false).run Tryz.prog V = .ok (.slice A N cap) V) V) := Lib.hid (fun V hV => by
          have hlv := hlsr.fr hV (by simp)
          have hbl := hlv.blk.cell 0
          have h := VMap.look tyPlIvs hlv.scans (idOf c.t q) trivial false
          rw [hkv, sA] at h
          have hb2 := (HF.out.blk HBX.out hsz2 hbxS).fr hV (by simp)
          exact ⟨((HLB1.out.fr HFZ.out.fr hBl).fr hV (by simp)).cell 0, hbl, ((HCB1.out.fr HFZ.out.fr hBc).fr hV (by simp)).cell 0, hb2.cell 0, hb2.cell 1, hb2.cell 2, hb2.cell 3, hb2.cell 4, by simpa using h⟩)
        have HLL := Lib.hid sL
        have HSD := Lib.hid sD
        have HSS := Lib.hid sS
        have HSB := Lib.hid sB
        clear hlsr sA sL sD sS sB hkv
        gi_wp2
        refine wpIn_region_heldP (fun V : World => V.cell? ⟨Bl, 0, none⟩ = some (.pointer (some ⟨bl, 0, none⟩)) ∧ V.cell? ⟨bl, 0, none⟩ = some (.map (some ms)) ∧ V.cell? ⟨Bc, 0, none⟩ = some (.int .i64 c.t) ∧ V.cell? ⟨W0.heap.size, 0, none⟩ = some (.int .i64 rt) ∧ V.cell? ⟨W0.heap.size, 1, none⟩ = some (.int .i64 rk) ∧ V.cell? ⟨W0.heap.size, 2, none⟩ = some (.int .i64 rx) ∧ V.cell? ⟨W0.heap.size, 3, none⟩ = some (.int .i64 ry) ∧ V.cell? ⟨W0.heap.size, 4, none⟩ = some (.int .i64 rz) ∧ (Instr.lookup 134 (.map (some ms)) (.agg #[.int .i64 c.t, .int .i64 (q : Int)]) false).run Tryz.prog V = .ok (.slice A N cap) V) (by kernel_rfl) (by rfl) (HSX.out _ ((Fr.refl [] wr).drew)) (fun hHeld => ?_)
        refine wpAnyH_take (i := 0) (oi := ⟨some 15, _, _, _, _, _⟩) (v := ?_) rfl (by kernel_rfl) (by kernel_rfl) (by kernel_rfl) (fun _ _ _ h => h) (Or.inl ⟨by rfl, ?_⟩) hHeld ?_
        rotate_left
        · (intro w hSw; (try dsimp only at hSw); go_simp; try with_reducible rfl)
        try simp only [Act.put, List.setIfInBounds_toArray, List.set_cons_zero, List.set_cons_succ]
        refine wpAnyH_take (i := 1) (oi := ⟨some 16, _, _, _, _, _⟩) (v := ?_) rfl (by kernel_rfl) (by kernel_rfl) (by kernel_rfl) (fun _ _ _ h => h) (Or.inl ⟨by rfl, ?_⟩) hHeld ?_
        rotate_left
        · (intro w hSw; (try dsimp only at hSw); go_simp; try with_reducible rfl)
        try simp only [Act.put, List.setIfInBounds_toArray, List.set_cons_zero, List.set_cons_succ]
        refine wpAnyH_take (i := 2) (oi := ⟨some 17, _, _, _, _, _⟩) (v := ?_) rfl (by kernel_rfl) (by kernel_rfl) (by kernel_rfl) (fun _ _ _ h => h) (Or.inl ⟨by rfl, ?_⟩) hHeld ?_
        rotate_left
        · (intro w hSw; (try dsimp only at hSw); go_simp; try with_reducible rfl)
        try simp only [Act.put, List.setIfInBounds_toArray, List.set_cons_zero, List.set_cons_succ]
        refine wpAnyH_take (i := 3) (oi := ⟨some 18, _, _, _, _, _⟩) (v := ?_) rfl (by kernel_rfl) (by kernel_rfl) (by kernel_rfl) (fun _ _ _ h => h) (Or.inl ⟨by rfl, ?_⟩) hHeld ?_
        rotate_left
        · (intro w hSw; (try dsimp only at hSw); go_simp; try with_reducible rfl)
        try simp only [Act.put, List.setIfInBounds_toArray, List.set_cons_zero, List.set_cons_succ]
        refine wpAnyH_take (i := 4) (oi := ⟨some 19, _, _, _, _, _⟩) (v := ?_) rfl (by kernel_rfl) (by kernel_rfl) (by kernel_rfl) (fun _ _ _ h => h) (Or.inl ⟨by rfl, ?_⟩) hHeld ?_
        rotate_left
        · (intro w hSw; (try dsimp only at hSw); go_simp; try with_reducible rfl)
        try simp only [Act.put, List.setIfInBounds_toArray, List.set_cons_zero, List.set_cons_succ]
        refine wpAnyH_take (i := 5) (oi := ⟨some 20, _, _, _, _, _⟩) (v := ?_) rfl (by kernel_rfl) (by kernel_rfl) (by kernel_rfl) (fun _ _ _ h => h) (Or.inl ⟨by rfl, ?_⟩) hHeld ?_
        rotate_left
        · (intro w hSw; (try dsimp only at hSw); go_simp; try with_reducible rfl)
        try simp only [Act.put, List.setIfInBounds_toArray, List.set_cons_zero, List.set_cons_succ]
        refine wpAnyH_take (i := 6) (oi := ⟨some 21, _, _, _, _, _⟩) (v := ?_) rfl (by kernel_rfl) (by kernel_rfl) (by kernel_rfl) (fun _ _ _ h => h) (Or.inl ⟨by rfl, ?_⟩) hHeld ?_
        rotate_left
        · (intro w hSw; (try dsimp only at hSw); go_simp; try with_reducible rfl)
        try simp only [Act.put, List.setIfInBounds_toArray, List.set_cons_zero, List.set_cons_succ]
        refine wpAnyH_take (i := 7) (oi := ⟨some 22, _, _, _, _, _⟩) (v := ?_) rfl (by kernel_rfl) (by kernel_rfl) (by kernel_rfl) (fun _ _ _ h => h) (Or.inl ⟨by rfl, ?_⟩) hHeld ?_
        rotate_left
        · (intro w hSw; (try dsimp only at hSw); go_simp; try with_reducible rfl)
        try simp only [Act.put, List.setIfInBounds_toArray, List.set_cons_zero, List.set_cons_succ]
        refine wpAnyH_take (i := 8) (oi := ⟨some 23, _, _, _, _, _⟩) (v := ?_) rfl (by kernel_rfl) (by kernel_rfl) (by kernel_rfl) (fun _ _ _ h => h) (Or.inl ⟨by rfl, ?_⟩) hHeld ?_
        rotate_left
        · (intro w hSw; (try dsimp only at hSw); go_simp; try with_reducible rfl)
        try simp only [Act.put, List.setIfInBounds_toArray, List.set_cons_zero, List.set_cons_succ]
        refine wpAnyH_take (i := 9) (oi := ⟨some 24, _, _, _, _, _⟩) (v := ?_) rfl (by kernel_rfl) (by kernel_rfl) (by kernel_rfl) (fun _ _ _ h => h) (Or.inl ⟨by rfl, ?_⟩) hHeld ?_
        rotate_left
        · (intro w hSw; (try dsimp only at hSw); go_simp; try with_reducible rfl)
        try simp only [Act.put, List.setIfInBounds_toArray, List.set_cons_zero, List.set_cons_succ]
        refine wpAnyH_take (i := 10) (oi := ⟨some 25, _, _, _, _, _⟩) (v := ?_) rfl (by kernel_rfl) (by kernel_rfl) (by kernel_rfl) (fun _ _ _ h => h) (Or.inl ⟨by rfl, ?_⟩) hHeld ?_
        rotate_left
        · (intro w hSw; (try dsimp only at hSw); go_simp; try with_reducible rfl)
        try simp only [Act.put, List.setIfInBounds_toArray, List.set_cons_zero, List.set_cons_succ]
        refine wpAnyH_ready (rs := [11]) (by kernel_rfl) (by simp) (AllReadyH.cons rfl (fun K hK => ?_) AllReadyH.nil)
        go_simp
        refine (HPV.out _).mono ?_
        rintro e w5 ⟨rfl, hw5⟩
        have F5 : Hid (Fr [] wr w5) := Lib.hid (by rw [hw5]; exact (Fr.refl [] wr).drew.alloc _)
        clear hw5 HPV
        refine hK.out _ _ (HSX.out _ F5.out) (fun hHeld => ?_)
        clear hK K
        try simp only [Act.put, List.setIfInBounds_toArray, List.set_cons_zero, List.set_cons_succ]
        refine wpAnyH_ready (rs := [12]) (by kernel_rfl) (by simp) (AllReadyH.cons rfl (fun K hK => ?_) AllReadyH.nil)
        go_simp
        refine (containing_any A N cap vv w5).mono ?_
        rintro e w6 ⟨rfl, hw6⟩
        have F6 : Hid (Fr [] wr w6) := Lib.hid (by rw [hw6]; exact (F5.out.alloc _).alloc _)
        have HB6 : Hid (Blk w6 w5.heap.size 145 #[.slice A N cap]) := Lib.hid (by rw [hw6]; exact (Blk.new w5 145 #[.slice A N cap]).fr (S := []) ((Fr.refl _ _).alloc _) (by simp))
        have HV6 : Hid (Blk w6 (w5.heap.size + 1) 3 #[.int .i64 vv]) := Lib.hid (by
          rw [hw6]
          have h := Blk.new (w5.alloc (.cells #[.slice A N cap] 145)) 3 #[.int .i64 vv]
          rw [World.size_alloc] at h
          exact h)
        clear hw6
        refine hK.out _ _ (HSX.out _ F6.out) (fun hHeld => ?_)
        clear hK K hHeld HSX
        try simp only [Act.put, List.setIfInBounds_toArray, List.set_cons_zero, List.set_cons_succ]
        refine wpAnyH_done (by kernel_rfl) ?_ _
        dsimp only [plainQ]
        gi_wp2
        have hn3 : 1 ≤ n - 1 - 1 := by omega
        have hr6 : w6.heap[l2]? = some (.loop rec2) := (F6.out.block l2 (Nat.lt_of_lt_of_le hl2 (Nat.le_trans (Nat.le_of_lt hsz2) HF.out.size)) (by simp)).trans ((HF.out.block l2 (Nat.lt_trans hl2 hsz2) hl2S).trans HR2.out)
        have HZ6 : Hid (FrO Z.heap.size S Z w6) := Lib.hid (HFZ.out.trans (F6.out.frO HFZ.out.size (by simp)))
        have h26 : W2.heap.size ≤ w6.heap.size := Nat.le_trans HF.out.size F6.out.size
        have hW6 : W.heap.size ≤ w6.heap.size := Nat.le_trans hWZ HZ6.out.size
        have h56 : w5.heap.size ∉ S := fun hm => by have := HSW.out _ hm; have := F5.out.size; have := HFZ.out.size; omega
        have h57 : w5.heap.size + 1 ∉ S := fun hm => by have := HSW.out _ hm; have := F5.out.size; have := HFZ.out.size; omega
        refine wpIn_rangeN (F := Fence.wide) hr6 hn3 (gf := 112) (lb := #[.pointer (some ⟨w5.heap.size, 0, none⟩), .pointer (some ⟨w5.heap.size + 1, 0, none⟩)]) rfl trivial (enters_of Tryz.func112 (by kernel_rfl) rfl)
          (cont_seq (n - 1 - 1 - 1) (by omega) w5.heap.size (w5.heap.size + 1) A N cap L vv S w6 HN.out s1 s2 sN (by rw [← hvv.out]; exact HRV.out _ (by obtain ⟨rr, hrr⟩ := HX.out; rw [← hrr]; simp) _) HSB.out (HB6.out.cell 0) (HV6.out.cell 0) (HLL.out.fr0 F6.out) HSS.out h56 h57 (fun ad e => HD.out _ (HSD.out ad e)) (fun x hx => Nat.lt_of_lt_of_le (HSW.out x hx) hW6)) (Fr.refl [] _) (fun _ => rfl) (fun x hx => Nat.lt_of_lt_of_le (HSW.out x hx) hW6)
          (fun p2 Wj => J (pre.flatMap (Mm.nearR (shedP SV) c.t) ++ Mm.nearK (shedP SV) c.t (⟨rt, rk, rx, ry, rz⟩ : RowV) q ++ p2) Wj ∧ FrO w6.heap.size S w6 Wj)
          (fun s A' C' ⟨k1, k2⟩ hb => ⟨HJ.out _ _ _ k1 (hb.mono hW6), k2.trans (below_frO hb)⟩)
          (fun p A' h => h.2.size)
          ⟨by rw [List.append_nil]; exact HJ.out _ _ _ HK.out (F6.out.toBelow (Nat.le_trans hWZ HFZ.out.size) (by simp)), FrO.refl _ _ _⟩ ?r2 ?d2
        case r2 =>
          rintro l3 p2 x W3 hx3 hl3 hl3' ⟨m1, m2⟩
          gi_wp2
          refine ⟨Fr.refl _ _, ?_⟩
          rintro W4 f4 - ⟨m3, m4⟩
          have hZ4 := HZ6.out.trans (m4.mono HZ6.out.size (fun x hx _ => hx))
          have cy : W4.cell? ⟨W.heap.size, 0, none⟩ = some (.func (.yield l) #[] #[]) := (hZ4.blk HBY1.out HBY1.out.lt (fun hm => by have := HSW.out _ hm; omega)).cell 0
          rw [← hL.out, ← hvv.out] at hx3
          obtain ⟨fn, tmps, assign, body, hy, hR⟩ := YieldAt.deep (F := Fence.wide) rfl (n - 1 - 1 - 1 - 1 - 1) (HY.out _ x W4 (Mm.near_yield (JN := shedJ JV) h4 HX.out hx3) m3)
          have hn4 : 1 ≤ n - 1 - 1 - 1 - 1 := by omega
          have h34 : W3.heap.size ≤ W4.heap.size := f4.size
          have HM4 := Lib.hid m4
          clear hx3 m1 m2 m3 m4 f4 hZ4
          gi_wp2
          refine hR.mono ?_
          rintro e W5 ⟨rfl, hJ5, hk5⟩
          have HJ5 := Lib.hid hJ5
          have HK5 := Lib.hid hk5
          clear hJ5 hk5 hy hR cy
          gi_wp2
          refine ⟨HK5.out.frO h34 (fun x hx => .inl hx), ?_, HM4.out.trans (HK5.out.frO HM4.out.size (fun x hx => .inl hx))⟩
          have h := HJ5.out
          rw [List.append_assoc] at h
          exact h
        case d2 =>
          rintro W7 ⟨m1, m2⟩
          have HJ7 : Hid (J (pre.flatMap (Mm.nearR (shedP SV) c.t) ++ Mm.nearK (shedP SV) c.t (⟨rt, rk, rx, ry, rz⟩ : RowV) (q + 1)) W7) := Lib.hid (by
            rw [Mm.nearK_succ _ _ _ h4, hL.out, hvv.out, ← List.append_assoc]
            exact m1)
          have HF7 : Hid (FrO W2.heap.size S W2 W7) := Lib.hid (HF.out.trans ((F6.out.frO HF.out.size (by simp)).trans (m2.mono h26 (fun x hx _ => hx))))
          clear m1 m2 HK HF
          gi_wp2
          go_roundw
          case rel => exact ⟨q + 1, by go_num, by omega, HJ7, HF7⟩
          case measure => simp [intOf]; omega
      · have hq4 : q = 4 := by omega
        subst hq4
        gi_wp2
        refine ⟨HF.out.mono (Nat.le_of_lt hsz2) (fun x hx _ => hx), ?_, HF2.out.trans (HF.out.mono hZ2 (fun x hx _ => hx))⟩
        rw [List.flatMap_append, List.flatMap_cons, List.flatMap_nil, List.append_nil, ← Mm.nearK_four]
        exact HK.out
  case done =>
    rintro D Wd hD ⟨i1, i2⟩ hK
    have hlsd := HLS1.out.fr i2.fr (fun x hx => HD.out x hx)
    obtain ⟨A, cap, sA, s1, s2, sL, sD, sN⟩ := hlsd.join_at c.t
    obtain ⟨L, hL⟩ : ∃ L, Hid ((mget (shedJ JV) c.t).getD [] = L) := ⟨_, Lib.hid rfl⟩
    rw [hL.out] at sA s1 sL sN
    obtain ⟨N, hN⟩ : ∃ N, N = L.length := ⟨_, rfl⟩
    rw [← hN] at sA s1
    have HN := Lib.hid hN
    clear hN
    have hlk := VMap.look tyIntRow hlsd.joins.drew c.t HT.out false
    rw [sA] at hlk
    simp only [Bool.false_eq_true, if_false] at hlk
    have hcl : Wd.cell? ⟨Bl, 0, none⟩ = some (.pointer (some ⟨bl, 0, none⟩)) := (HLB1.out.fr i2.fr hBl).cell 0
    have hcj : Wd.cell? ⟨bl, 1, none⟩ = some (.map (some mj)) := hlsd.blk.cell 1
    have hct : Wd.cell? ⟨Bc, 0, none⟩ = some (.int .i64 c.t) := (HCB1.out.fr i2.fr hBc).cell 0
    have HJD := Lib.hid i1
    have HFD := Lib.hid i2
    have HKD := Lib.hid hK
    have HLL := Lib.hid sL
    have HSD := Lib.hid sD
    have hDl : D < Wd.heap.size := (Array.getElem?_eq_some_iff.1 hK).1
    have hDS : D ∉ S := fun hm => by have := HSW.out _ hm; omega
    clear hlsd sA sL sD i1 i2 hK
    gi_wp2
    gi_region
    gi_wp2
    gi_loopw [42] (fun p wr => ∃ q : Nat, p = .int .i64 q ∧ q ≤ N ∧ Hid (J ((Mm.rows c).flatMap (Mm.nearR (shedP SV) c.t) ++ L.take q) wr) ∧ Hid (FrO Wd.heap.size S Wd wr)) (fun p _ => N - (intOf p).toNat)
    case atStart => exact ⟨0, rfl, by omega, Lib.hid (by rw [List.take_zero, List.append_nil]; exact HJ.out _ _ _ HJD.out (((Fr.refl [] Wd).drew).toBelow (Nat.le_trans hWZ HFD.out.size) (by simp))), Lib.hid (((Fr.refl [] Wd).drew).frO (Nat.le_refl _) (by simp))⟩
    case round =>
      clear HJD
      obtain ⟨q, rfl, hq, HK, HF⟩ := hrel
      by_cases h4 : q < N
      · have h4' : (q : Int) < (N : Int) := by omega
        have hqL : q < L.length := by rw [← HN.out]; exact h4
        have hZr := HFD.out.trans (HF.out.mono HFD.out.size (fun x hx _ => hx))
        have cy : wr.cell? ⟨W.heap.size, 0, none⟩ = some (.func (.yield l) #[] #[]) := (hZr.blk HBY1.out HBY1.out.lt (fun hm => by have := HSW.out _ hm; omega)).cell 0
        obtain ⟨ba, off, eA, hba, hcx⟩ := (HLL.out.fr HF.out.fr (fun ad e => HD.out _ (HSD.out ad e))).int hqL
        subst eA
        obtain ⟨x, hx⟩ : ∃ x, x = L[q] := ⟨_, rfl⟩
        rw [← hx] at hcx
        obtain ⟨t1, t2⟩ := take_snoc hqL
        rw [← hx] at t1 t2
        rw [← hL.out] at t2
        obtain ⟨fn, tmps, assign, body, hy, hR⟩ := YieldAt.deep (F := Fence.wide) rfl (n - 1) (HY.out _ x wr (Mm.near_join (SC := shedP SV) (by rw [hL.out] at t2 ⊢; exact t2)) HK.out)
        have HT1 := Lib.hid t1
        clear t1 t2 hx hZr
        gi_wp2
        refine hR.mono ?_
        rintro e W5 ⟨rfl, hJ5, hk5⟩
        have HJ5 := Lib.hid hJ5
        have HK5 := Lib.hid hk5
        clear hJ5 hk5 hy hR cy hcx
        gi_wp2
        go_roundw
        case rel => exact ⟨q + 1, by go_num, by omega, Lib.hid (by rw [HT1.out, ← List.append_assoc]; exact HJ5.out), Lib.hid (HF.out.trans (HK5.out.frO HF.out.size (fun x hx => .inl hx)))⟩
        case measure => simp [intOf]; omega
      · have hqN : q = N := by omega
        have hjd := HK.out
        rw [hqN, HN.out, List.take_length] at hjd
        have hkd := (HF.out.block D hDl hDS).trans HKD.out
        have hj := HJ.out _ _ _ hjd ((putObj_own (w := wr) (l := D) (.deferred none)).toBelow (Nat.le_trans hWZ (Nat.le_trans HFD.out.size HF.out.size)) (by simp; omega))
        have HJE := Lib.hid hj
        have hqn : (q : Int) = (N : Int) := by omega
        clear hjd hj HK
        gi_wp2
        refine ⟨by simp, .inl ⟨_, _, rfl, run_takeDeferred hkd, ?_⟩⟩
        exact ⟨_, results_none rfl _ _ _, ⟨_, rfl⟩, by unfold Mm.near; rw [hL.out]; exact HJE.out⟩
end Go.Proofs.YtciaallekkdnhaaGreat
namespace Go.Proofs.YtciaallekkdnhaaGreat
open Go

section
variable {P : Program} {md : Region.Mode} {ops : Array Oper} {Q : Exit → Act → World → Prop} {S : World → Prop}
/-- Two operations may come up: each is carried out, S shown anew. -/
theorem wpHead_two {n i j : Nat} {oi oj : Oper} {f : Nat} {done : Array Bool} {a : Act} {w : World} (hoi : ops[i]? = some oi) (hoj : ops[j]? = some oj) (hr : Region.ready md ops done = [i, j]) (hin : i < n) (hjn : j < n)
    (h1 : ∀ K' : Act → World → Prop, Shut (∀ a w, S w → (S w → wpHead P md ops Q S n f (done.setIfInBounds i true) a w) → K' a w) → if Region.wanted oi (yielded ops a.tmps) = true then Oper.wp P oi a w K' Q else K' (a.put oi.dst undef) w)
    (h2 : ∀ K' : Act → World → Prop, Shut (∀ a w, S w → (S w → wpHead P md ops Q S n f (done.setIfInBounds j true) a w) → K' a w) → if Region.wanted oj (yielded ops a.tmps) = true then Oper.wp P oj a w K' Q else K' (a.put oj.dst undef) w) :
    wpHead P md ops Q S n (f + 1) done a w := fun inv => by
  refine ⟨by rw [hr]; simp, fun k hk => ?_⟩
  have hk' : k = i ∨ k = j := by rw [hr] at hk; simpa using hk
  rcases hk' with hk' | hk'
  · subst hk'
    exact ⟨hin, wpOp_step hoi (fun K' hK => h1 K' (fun a w hS hW => hK a w ⟨hS, hW hS (inv.set hk hin)⟩))⟩
  · subst hk'
    exact ⟨hjn, wpOp_step hoj (fun K' hK => h2 K' (fun a w hS hW => hK a w ⟨hS, hW hS (inv.set hk hjn)⟩))⟩
end
end Go.Proofs.YtciaallekkdnhaaGreat
namespace Go.Proofs.YtciaallekkdnhaaGreat
open Go.RowKit

namespace Mm
structure Fo (M : Ix) (hit : Int → Qry → Bool) (F : List (Int × Bool)) : Prop where
  yes : ∀ e ∈ F, e.2 = true
  mem : ∀ id, (mget F id).isSome = true ↔ ∃ q, mget M id = some q ∧ hit id q = true
/-- The changes gone through so far. -/
def hitO (cs : List Chg) (k : Nat) : Int → Qry → Bool := fun _ q => (cs.take k).any (Pm.touches q)
/-- And of one more, the numbers pre. -/
def hitI (cs : List Chg) (k : Nat) (c : Chg) (pre : List Int) : Int → Qry → Bool := fun id q => (cs.take k).any (Pm.touches q) || (Pm.touches q c && decide (id ∈ pre))
theorem Fo.start (M : Ix) (cs : List Chg) : Fo M (hitO cs 0) [] := ⟨by simp, fun id => by simp [mget, hitO]⟩
theorem Fo.into {M : Ix} {cs : List Chg} {k : Nat} {F : List (Int × Bool)} (h : Fo M (hitO cs k) F) (c : Chg) : Fo M (hitI cs k c []) F :=
  ⟨h.yes, fun id => by rw [h.mem id]; simp [hitO, hitI]⟩
theorem Fo.same {M : Ix} {cs : List Chg} {k : Nat} {c : Chg} {pre : List Int} {x : Int} {F : List (Int × Bool)} (h : Fo M (hitI cs k c pre) F) (hx : ∀ q, mget M x = some q → Pm.touches q c = true → (mget F x).isSome = true) : Fo M (hitI cs k c (pre ++ [x])) F := by
  refine ⟨h.yes, fun id => (h.mem id).trans ⟨fun ⟨q, h1, h2⟩ => ⟨q, h1, ?_⟩, fun ⟨q, h1, h2⟩ => ?_⟩⟩
  · unfold hitI at h2 ⊢
    simp only [Bool.or_eq_true, Bool.and_eq_true, decide_eq_true_eq] at h2 ⊢
    rcases h2 with h2 | ⟨h2, h3⟩
    · exact .inl h2
    · exact .inr ⟨h2, List.mem_append.2 (.inl h3)⟩
  · by_cases e : id = x
    · subst e
      by_cases ht : Pm.touches q c = true
      · exact (h.mem id).1 (hx q h1 ht)
      · refine ⟨q, h1, ?_⟩
        unfold hitI at h2 ⊢
        simp only [Bool.or_eq_true, Bool.and_eq_true, decide_eq_true_eq] at h2 ⊢
        rcases h2 with h2 | ⟨h2, h3⟩
        · exact .inl h2
        · exact absurd h2 ht
    · refine ⟨q, h1, ?_⟩
      unfold hitI at h2 ⊢
      simp only [Bool.or_eq_true, Bool.and_eq_true, decide_eq_true_eq] at h2 ⊢
      rcases h2 with h2 | ⟨h2, h3⟩
      · exact .inl h2
      · rcases List.mem_append.1 h3 with h3 | h3
        · exact .inr ⟨h2, h3⟩
        · exact absurd (by simpa using h3) e
theorem Fo.more {M : Ix} {cs : List Chg} {k : Nat} {c : Chg} {pre : List Int} {x : Int} {F : List (Int × Bool)} {q : Qry} (h : Fo M (hitI cs k c pre) F) (hx : mget M x = some q) (ht : Pm.touches q c = true) : Fo M (hitI cs k c (pre ++ [x])) (mput F x true) := by
  refine ⟨fun e he => ?_, fun id => ?_⟩
  · rcases mem_mput.1 he with rfl | ⟨he, -⟩
    · rfl
    · exact h.yes e he
  · by_cases e : id = x
    · subst e
      rw [mget_put_same]
      exact ⟨fun _ => ⟨q, hx, by unfold hitI; simp [ht]⟩, fun _ => rfl⟩
    · rw [mget_put_other e]
      refine (h.mem id).trans ⟨fun ⟨q, h1, h2⟩ => ⟨q, h1, ?_⟩, fun ⟨q, h1, h2⟩ => ⟨q, h1, ?_⟩⟩
      · unfold hitI at h2 ⊢
        simp only [Bool.or_eq_true, Bool.and_eq_true, decide_eq_true_eq] at h2 ⊢
        rcases h2 with h2 | ⟨h2, h3⟩
        · exact .inl h2
        · exact .inr ⟨h2, List.mem_append.2 (.inl h3)⟩
      · unfold hitI at h2 ⊢
        simp only [Bool.or_eq_true, Bool.and_eq_true, decide_eq_true_eq] at h2 ⊢
        rcases h2 with h2 | ⟨h2, h3⟩
        · exact .inl h2
        · rcases List.mem_append.1 h3 with h3 | h3
          · exact .inr ⟨h2, h3⟩
          · exact absurd (by simpa using h3) e
theorem Fo.out {M : Ix} {SC : Sc} {JN : Jn} {cs : List Chg} {k : Nat} {F : List (Int × Bool)} (hk : k < cs.length) (hl : Lists M SC JN) (h : Fo M (hitI cs k cs[k] (near SC JN cs[k])) F) : Fo M (hitO cs (k + 1)) F := by
  refine ⟨h.yes, fun id => (h.mem id).trans ⟨fun ⟨q, h1, h2⟩ => ⟨q, h1, ?_⟩, fun ⟨q, h1, h2⟩ => ⟨q, h1, ?_⟩⟩⟩
  · unfold hitI at h2
    unfold hitO
    rw [List.take_succ_eq_append_getElem hk, List.any_append]
    simp only [Bool.or_eq_true, Bool.and_eq_true, decide_eq_true_eq] at h2 ⊢
    rcases h2 with h2 | ⟨h2, h3⟩
    · exact .inl h2
    · exact .inr (by simpa using h2)
  · unfold hitI
    unfold hitO at h2
    rw [List.take_succ_eq_append_getElem hk, List.any_append] at h2
    simp only [Bool.or_eq_true, Bool.and_eq_true, decide_eq_true_eq] at h2 ⊢
    rcases h2 with h2 | h2
    · exact .inl h2
    · have h3 : Pm.touches q cs[k] = true := by simpa using h2
      refine .inr ⟨h3, ?_⟩
      have hm : (id, q) ∈ M := by
        unfold mget at h1
        rw [Option.map_eq_some_iff] at h1
        obtain ⟨⟨a1, a2⟩, ha, hb⟩ := h1
        have h0 := List.find?_some ha
        simp only [decide_eq_true_eq] at h0
        subst hb h0
        exact List.mem_of_find?_eq_some ha
      exact touched_near hl hm h3
theorem Fo.len : ∀ (F : List (Int × Bool)) (M : Ix), Nd F → (∀ e ∈ F, (mget M e.1).isSome = true) → F.length ≤ M.length
  | [], _, _, _ => Nat.zero_le _
  | e :: r, M, hn, h => by
    obtain ⟨n1, n2⟩ := List.pairwise_cons.1 hn
    have h1 := h e (by simp)
    have ih := Fo.len r (mdel M e.1) n2 (fun e' he' => by
      rw [mget_del_other (Ne.symm (n1 e' he'))]
      exact h e' (List.mem_cons_of_mem _ he'))
    have h2 : (mdel M e.1).length < M.length := by
      unfold mdel
      rw [List.length_filter_lt_length_iff_exists]
      obtain ⟨u, hu⟩ := Option.isSome_iff_exists.1 h1
      unfold mget at hu
      rw [Option.map_eq_some_iff] at hu
      obtain ⟨a, ha, -⟩ := hu
      have h0 := List.find?_some ha
      simp only [decide_eq_true_eq] at h0
      exact ⟨a, List.mem_of_find?_eq_some ha, by simpa using h0⟩
    rw [List.length_cons]
    omega
theorem Fo.le {M : Ix} {hit : Int → Qry → Bool} {F : List (Int × Bool)} (h : Fo M hit F) (hn : Nd F) : F.length ≤ M.length := by
  refine Fo.len F M hn (fun e he => ?_)
  have h1 : mget F e.1 = some e.2 := (mget_iff hn).2 (by simpa using he)
  obtain ⟨q, h2, -⟩ := (h.mem e.1).1 (by rw [h1]; rfl)
  rw [h2]
  rfl
theorem Fo.keys {M : Ix} {hit : Int → Qry → Bool} {F : List (Int × Bool)} (h : Fo M hit F) (hn : Nd F) (id : Int) : id ∈ F.map (·.1) ↔ ∃ q, mget M id = some q ∧ hit id q = true := by
  rw [← h.mem id]
  refine ⟨fun hm => ?_, fun hm => ?_⟩
  · obtain ⟨e, he, rfl⟩ := List.mem_map.1 hm
    rw [(mget_iff hn).2 (show (e.1, e.2) ∈ F by simpa using he)]
    rfl
  · obtain ⟨u, hu⟩ := Option.isSome_iff_exists.1 hm
    exact List.mem_map.2 ⟨_, (mget_iff hn).1 hu, rfl⟩
/-- Sorted, the found numbers are the match. -/
theorem Fo.hit {M : Ix} {cs : List Chg} {F : List (Int × Bool)} {ss : List Int} (h : Fo M (hitO cs cs.length) F) (hn : Nd F) (hp : ss.Perm (F.map (·.1))) : Hit M cs (ss.mergeSort (fun x y => decide (x ≤ y))) := by
  have hnd : (F.map (·.1)).Pairwise (· ≠ ·) := by
    rw [List.pairwise_map]
    exact hn
  have hp2 := (List.mergeSort_perm ss (fun x y => decide (x ≤ y))).trans hp
  refine ⟨?_, fun id => ?_⟩
  · have h1 := List.pairwise_mergeSort (le := fun (x y : Int) => decide (x ≤ y)) (fun a b c hab hbc => by simp only [decide_eq_true_eq] at *; omega) (fun a b => by simp only [Bool.or_eq_true, decide_eq_true_eq]; omega) ss
    have h2 : (ss.mergeSort (fun x y => decide (x ≤ y))).Pairwise (· ≠ ·) := (hp2.pairwise_iff (fun h => Ne.symm h)).2 hnd
    exact List.Pairwise.imp (fun ⟨a, b⟩ => by simp only [decide_eq_true_eq] at a; omega) (h1.and h2)
  · rw [hp2.mem_iff, h.keys hn]
    unfold hitO
    rw [List.take_length]
/-- The numbers that 'near' hands over are numbers of the machine. -/
theorem near_okI {M : Ix} {SC : Sc} {JN : Jn} (hl : Lists M SC JN) {c : Chg} {x : Int} (hx : x ∈ near SC JN c) : okI x := by
  rcases List.mem_append.1 hx with hx | hx
  · obtain ⟨r, -, hx⟩ := List.mem_flatMap.1 hx
    obtain ⟨col, -, hx⟩ := List.mem_flatMap.1 hx
    unfold cont at hx
    obtain ⟨y, hy, rfl⟩ := List.mem_map.1 hx
    have hy1 := (List.mem_filter.1 hy).1
    have hy2 : y ∈ scanOf SC c.t col := (List.takeWhile_sublist _).subset (List.mem_reverse.1 ((List.takeWhile_sublist _).subset hy1))
    unfold scanOf at hy2
    cases hg : mget SC (c.t, col) with
    | none => rw [hg] at hy2; simp at hy2
    | some L =>
      rw [hg] at hy2
      unfold mget at hg
      rw [Option.map_eq_some_iff] at hg
      obtain ⟨a, ha, hb⟩ := hg
      exact ((hl.ok a (List.mem_of_find?_eq_some ha)).2 y (by rw [hb]; exact hy2)).2.2.2
  · cases hg : mget JN c.t with
    | none => rw [hg] at hx; simp at hx
    | some L =>
      rw [hg] at hx
      unfold mget at hg
      rw [Option.map_eq_some_iff] at hg
      obtain ⟨a, ha, hb⟩ := hg
      exact (hl.okJ a (List.mem_of_find?_eq_some ha)).2 x (by rw [hb]; exact hx)
end Mm
end Go.Proofs.YtciaallekkdnhaaGreat
namespace Go.Proofs.YtciaallekkdnhaaGreat
open Go.RowKit Go.WideShapes Go.ChangeShapes

end Go.Proofs.YtciaallekkdnhaaGreat
namespace Go.Proofs.YtciaallekkdnhaaGreat
open Go.RowKit Go.WideShapes Go.ChangeShapes

/-- The integers of a change fit. -/
structure ChgFit (c : Chg) : Prop where
  t : okI c.t
  k : okI c.k
  o0 : okI c.o0
  o1 : okI c.o1
  o2 : okI c.o2
  n0 : okI c.n0
  n1 : okI c.n1
  n2 : okI c.n2
section
variable {H : Type} {enc : TypeId × Value → H} {W : World}
/-- n records that were handed in. -/
structure RawAt (w : World) (b off n : Nat) : Prop where
  each : ∀ i, i < n → ∃ p A len cap cs, w.cell? ⟨b, off + i * 2, none⟩ = some (.int .i64 p) ∧ w.cell? ⟨b, off + i * 2 + 1, none⟩ = some (.slice A len cap) ∧ okI p ∧ len ≤ cap ∧ cap ≤ maxLen ∧ cs.length = len ∧ ChgsAt w A cs ∧ ∀ c ∈ cs, ChgFit c
  lt : b < w.heap.size
theorem RawAt.fr0 {w w' : World} {b off n : Nat} (h : RawAt w b off n) (hf : Fr [] w w') : RawAt w' b off n :=
  ⟨fun i hi => by
    obtain ⟨p, A, len, cap, cs, h1, h2, h3, h4, h5, h6, h7, h8⟩ := h.each i hi
    exact ⟨p, A, len, cap, cs, (hf.rules.1 b _ h.lt).trans h1, (hf.rules.1 b _ h.lt).trans h2, h3, h4, h5, h6, h7.fr hf (by simp), h8⟩, Nat.lt_of_lt_of_le h.lt hf.size⟩
end
end Go.Proofs.YtciaallekkdnhaaGreat

/-
  extreme: how a least or a greatest value is patched.
-/
import Derived.Test.YthiaaminkfkjpaaGreatGaz
import Derived.Test.YthiaaminkfkjpaaGreatGaa
namespace Go.Proofs.YthiaaminkfkjpaaGreat
open Go.RowKit

set_option maxRecDepth 100000 in
set_option maxHeartbeats 4000000 in
/-- The rows of the change itself. -/
theorem prows1_any (q : Qry) (c : Chg) (pb pa : Option Addr) (u v : Int) (ge : Nat) (x : RowV) (w : World) (he : EffAt w ge q c pb pa u v) :
    Calls Tryz.prog 98 #[x.val, .pointer (some ⟨ge, 0, none⟩)] w fun e w' => e = .returned (.bool (Pm.own c x)) ∧ Fr [] w w' := by
  obtain ⟨r0, r1, r2, r3, r4⟩ := x
  have F0 := (Fr.refl [] w).alloc (.cells #[.int .i64 r0, .int .i64 r1, .int .i64 r2, .int .i64 r3, .int .i64 r4] 67)
  have hb := Blk.new w 67 #[.int .i64 r0, .int .i64 r1, .int .i64 r2, .int .i64 r3, .int .i64 r4]
  have HE := Lib.hid (he.fr0 F0)
  have HF := Lib.hid F0
  have HB := Lib.hid hb
  clear he F0 hb
  obtain ⟨R, hR⟩ : ∃ R, Pm.own c ⟨r0, r1, r2, r3, r4⟩ = R := ⟨_, rfl⟩
  rw [hR]
  have HP : Hid (R = (decide (r0 = c.t) && decide (r1 = c.k))) := Lib.hid hR.symm
  clear hR
  go_enter Tryz.func98, Tryz.ntmps98
  go_upto_region 1 with (fail)
  generalize w.alloc (.cells #[.int .i64 r0, .int .i64 r1, .int .i64 r2, .int .i64 r3, .int .i64 r4] 67) = w1 at *
  have b0 := HB.out.cell 0
  have b1 : w1.cell? ⟨w.heap.size, 1, none⟩ = some (.int .i64 r1) := HB.out.cell 1
  have e7 := HE.out.c7
  have e8 := HE.out.c8
  by_cases h1 : r0 = c.t
  · have E : Hid ((decide (r0 = c.t) && decide (r1 = c.k)) = (r1 == c.k)) := Lib.hid (by simp [h1]; rfl)
    have g1 : (r0 == c.t) = true := by simp [h1]
    have HH := Lib.hid h1
    clear h1
    go_wp2
    go_ret
    exact ⟨by rw [HP.out, E.out]; rfl, HF.out⟩
  · have E : Hid ((decide (r0 = c.t) && decide (r1 = c.k)) = false) := Lib.hid (by simp [h1])
    have g1 : (r0 == c.t) = false := by simp [h1]
    have HH := Lib.hid h1
    clear h1
    go_wp2
    go_ret
    exact ⟨by rw [HP.out, E.out]; rfl, HF.out⟩
set_option maxRecDepth 100000 in
set_option maxHeartbeats 8000000 in
theorem prows_any (q : Qry) (c : Chg) (pb pa : Option Addr) (u v : Int) (X : Option Addr) (n cap : Nat) (m : Int) (f : Bool) (L : List RowV) (w : World) (hx : AtL RowV.cells 5 w X L) (hn : n = L.length) (hl : n ≤ 100000) (hpa : PtrR w pa (Pm.A q c)) :
    Calls Tryz.prog 76 #[.agg (effArr q c pb pa u v), .agg #[.slice X n cap, .int .i64 m, .bool f]] w fun e w' => ∃ A' n' c', e = .returned (.tuple #[.agg #[.slice A' n' c', .int .i64 m, .bool f], .bool true]) ∧ OwnL 67 5 RowV.cells w' (.slice A' n' c') (Pm.rows q L c) ∧ Fr [] w w' := by
  have F0 : Hid (Fr [] w (((w.alloc (.cells (effArr q c pb pa u v) 120)).alloc (.cells #[.slice X n cap, .int .i64 m, .bool f] 37)).alloc (.cells #[.slice none 0 0, .int .i64 0, .bool false] 37))) := Lib.hid ((((Fr.refl _ _).alloc _).alloc _).alloc _)
  have HB : Hid (EffAt (((w.alloc (.cells (effArr q c pb pa u v) 120)).alloc (.cells #[.slice X n cap, .int .i64 m, .bool f] 37)).alloc (.cells #[.slice none 0 0, .int .i64 0, .bool false] 37)) w.heap.size q c pb pa u v) := Lib.hid (Blk.alloc (Blk.alloc (EffAt.new w q c pb pa u v) _) _)
  have hr := Blk.new (w.alloc (.cells (effArr q c pb pa u v) 120)) 37 #[.slice X n cap, .int .i64 m, .bool f]
  rw [World.size_alloc] at hr
  have HR : Hid (Blk (((w.alloc (.cells (effArr q c pb pa u v) 120)).alloc (.cells #[.slice X n cap, .int .i64 m, .bool f] 37)).alloc (.cells #[.slice none 0 0, .int .i64 0, .bool false] 37)) (w.heap.size + 1) 37 #[.slice X n cap, .int .i64 m, .bool f]) := Lib.hid (hr.alloc _)
  have hz := Blk.new ((w.alloc (.cells (effArr q c pb pa u v) 120)).alloc (.cells #[.slice X n cap, .int .i64 m, .bool f] 37)) 37 #[.slice none 0 0, .int .i64 0, .bool false]
  rw [World.size_alloc, World.size_alloc] at hz
  have HZ := Lib.hid hz
  have HS3 : Hid ((((w.alloc (.cells (effArr q c pb pa u v) 120)).alloc (.cells #[.slice X n cap, .int .i64 m, .bool f] 37)).alloc (.cells #[.slice none 0 0, .int .i64 0, .bool false] 37)).heap.size = w.heap.size + 3) := Lib.hid (by simp [World.size_alloc])
  clear hr hz
  have HX := Lib.hid (hx.fr0 F0.out)
  have HPA := Lib.hid (hpa.fr0 F0.out)
  have HN := Lib.hid hn
  have HGA : Hid (∀ r, Pm.A q c = some r → ∀ ga, pa = some ⟨ga, 0, none⟩ → ga < w.heap.size) := Lib.hid (fun r hr ga hga => by
    rw [hr] at hpa
    obtain ⟨g, h1, h2⟩ := hpa
    rw [hga] at h1
    injection h1 with h1
    injection h1 with h1
    subst h1
    exact h2.lt)
  clear hx hpa hn
  go_enter Tryz.func76, Tryz.ntmps76
  go_upto_region 1 with (fail)
  generalize (((w.alloc (.cells (effArr q c pb pa u v) 120)).alloc (.cells #[.slice X n cap, .int .i64 m, .bool f] 37)).alloc (.cells #[.slice none 0 0, .int .i64 0, .bool false] 37)) = w1 at *
  have c0 := HR.out.cell 0
  have HWO := Lib.hid (rowWithout_any 98 #[.pointer (some ⟨w.heap.size, 0, none⟩)] (Pm.own c) X n cap L w1 HX.out HN.out hl (enters_of Tryz.func98 (by kernel_rfl) rfl) (fun W x hf => prows1_any q c pb pa u v w.heap.size x W (HB.out.fr0 hf)))
  have HL2 : Hid ((L.filter fun x => !Pm.own c x).length ≤ 100000) := Lib.hid (Nat.le_trans (List.length_filter_le _ _) (by rw [← HN.out]; exact hl))
  go_upto_region 2 with (go_at_call 97; refine HWO.out.mono ?_; rintro e w2 ⟨A2, n2, c2, rfl, ho2, f2, hg2⟩; have HO2 := Lib.hid ho2; have F2 := Lib.hid f2; have HG2 : Hid (∀ ad, A2 = some ad → w.heap.size + 3 ≤ ad.block) := Lib.hid (fun ad ha => by have := hg2 ad ha; have := HS3.out; omega); have z0 := (HR.out.fr f2 (by simp)).frozen 0; have d0 := (HR.out.fr f2 (by simp)).cell 0; clear ho2 f2 hg2)
  clear z0 d0 c0 HWO
  have hfs : Fr [w.heap.size + 1] w2 (w2.setCell ⟨w.heap.size + 1, 0, none⟩ (.slice A2 n2 c2)) := (Fr.refl _ _).setCell (.inl (by simp)) _
  have HR2 : Hid (Blk (w2.setCell ⟨w.heap.size + 1, 0, none⟩ (.slice A2 n2 c2)) (w.heap.size + 1) 37 #[.slice A2 n2 c2, .int .i64 m, .bool f]) := Lib.hid ((HR.out.fr F2.out (by simp)).set_ 0 _)
  have HZ2 := Lib.hid ((HZ.out.fr F2.out (by simp)).fr hfs (by simp))
  have HB2 := Lib.hid ((HB.out.fr0 F2.out).fr hfs (by simp))
  have HO3 := Lib.hid (HO2.out.fr hfs (fun g hg => by obtain ⟨ad, h1, h2⟩ := mem_sliceB.1 (own_sliceB hg); have := HG2.out ad h1; simp; omega))
  have FA := Lib.hid ((F0.out.trans F2.out).trans' hfs (by simp))
  have HPA2 : Hid (PtrR (w2.setCell ⟨w.heap.size + 1, 0, none⟩ (.slice A2 n2 c2)) pa (Pm.A q c)) := Lib.hid ((HPA.out.fr0 F2.out).frE hfs (fun g' cs hb e => by
    subst e
    have h9 : Blk _ _ _ _ := HR.out.fr F2.out (by simp)
    unfold Blk at h9 hb
    rw [h9] at hb
    injection hb with hb
    injection hb with _ ht
    exact absurd ht (by decide)))
  have HS4 : Hid (w.heap.size + 3 ≤ (w2.setCell ⟨w.heap.size + 1, 0, none⟩ (.slice A2 n2 c2)).heap.size) := Lib.hid (by have h1 := F2.out.size; have h2 := hfs.size; have := HS3.out; omega)
  clear hfs HR HZ HB HO2 HPA HX F0 F2
  generalize w2.setCell ⟨w.heap.size + 1, 0, none⟩ (.slice A2 n2 c2) = w4 at *
  obtain ⟨T, HT⟩ : ∃ T, Hid (Pm.rows q L c = T) := ⟨_, Lib.hid rfl⟩
  cases hA : Pm.A q c with
  | none =>
    have hpn : pa = none := by have h := HPA2.out; rw [hA] at h; exact h
    subst hpn
    have HOR : Hid (OwnL 67 5 RowV.cells w4 (.slice A2 n2 c2) (Pm.rows q L c)) := Lib.hid (by
      unfold Pm.rows
      rw [hA]
      exact HO3.out)
    have e18 := HB2.out.c18
    have HR3 := HR2.out
    have HZ3 := HZ2.out
    clear hA HT HGA
    go_wp2_with (first
      | (refine wpList_load_row rfl _ _ rfl (w.heap.size + 1) rfl 37 _ (0, 0) _ HR3 Tryz.underlying37 rfl (by kernel_rfl) ?_)
      | (refine wpList_store_blk rfl _ _ _ rfl (w.heap.size + 1 + 1) #[.slice A2 n2 c2, .int .i64 m, .bool f] rfl rfl 37 _ HZ3 (by kernel_rfl) rfl rfl ?_; intro w9 hb9 hf9; have HB9 := Lib.hid hb9; have HF9 := Lib.hid hf9; clear hb9 hf9))
    have q0 := HB9.out.cell 0
    have q1 := HB9.out.cell 1
    have q2 := HB9.out.cell 2
    refine bodyPost_ret (v := .tuple #[.agg #[.slice A2 n2 c2, .int .i64 m, .bool f], .bool true]) (by simp [results, Tryz.results76, go_sem, q0, q1, q2]) rfl ⟨_, _, _, rfl, HOR.out.fr HF9.out (fun g hg => by obtain ⟨ad, h1, h2⟩ := mem_sliceB.1 (own_sliceB hg); have := HG2.out ad h1; simp; omega), FA.out.trans' HF9.out (fun i hi => .inr (by rw [List.mem_singleton] at hi; omega))⟩
  | some a =>
    have hpa : ∃ ga, pa = some ⟨ga, 0, none⟩ ∧ Blk w4 ga 67 a.cells.toArray := by have h := HPA2.out; rw [hA] at h; exact h
    obtain ⟨ga, rfl, hga⟩ := hpa
    have HA2 := Lib.hid hga
    have HGA2 : Hid (ga < w.heap.size) := Lib.hid (HGA.out _ hA ga rfl)
    clear HGA
    have HRO : Hid (Pm.rows q L c = Pm.ins (Pm.behind q a) a (L.filter fun x => !Pm.own c x)) := Lib.hid (by
      unfold Pm.rows
      rw [hA])
    clear hA hga HT
    obtain ⟨r0, r1, r2, r3, r4⟩ := a
    have e18 := HB2.out.c18
    go_upto_region 3 with (fail)
    clear e18
    have HS : Hid (∀ W, Fr [] w4 W → W.cell? ⟨w.heap.size + 1, 0, none⟩ = some (.slice A2 n2 c2) ∧ W.cell? ⟨w.heap.size, 18, none⟩ = some (.pointer (some ⟨ga, 0, none⟩)) ∧ Blk W w.heap.size 120 (effArr q c pb (some ⟨ga, 0, none⟩) u v) ∧ Blk W ga 67 #[.int .i64 r0, .int .i64 r1, .int .i64 r2, .int .i64 r3, .int .i64 r4]) := Lib.hid (fun W hf => ⟨(HR2.out.fr hf (by simp)).cell 0, (HB2.out.fr0 hf).c18, HB2.out.fr0 hf, HA2.out.fr hf (by simp)⟩)
    have HAF : Hid (∀ W, Fr [] w4 W → Blk W ga 67 (RowV.cells ⟨r0, r1, r2, r3, r4⟩).toArray) := Lib.hid (fun W hf => HA2.out.fr hf (by simp))
    have HNR : Hid (w.heap.size + 1 ∉ sliceB A2) := Lib.hid (fun hm => by obtain ⟨ad, h1, h2⟩ := mem_sliceB.1 hm; have := HG2.out ad h1; omega)
    have HNZ : Hid (w.heap.size + 1 + 1 ∉ sliceB A2) := Lib.hid (fun hm => by obtain ⟨ad, h1, h2⟩ := mem_sliceB.1 hm; have := HG2.out ad h1; omega)
    have HIN : Hid (∀ W ge gv, Fr [] w4 W → EffAt W ge q c pb (some ⟨ga, 0, none⟩) u v → Blk W gv 3 #[.int .i64 (RowV.value ⟨r0, r1, r2, r3, r4⟩ q.column)] → Calls Tryz.prog 99 #[.slice A2 n2 c2, .agg #[.int .i64 r0, .int .i64 r1, .int .i64 r2, .int .i64 r3, .int .i64 r4], .func (.func 116) #[] #[.pointer (some ⟨ge, 0, none⟩), .pointer (some ⟨gv, 0, none⟩)]] W fun e w' => ∃ A' n' c', e = .returned (.slice A' n' c') ∧ Hid (OwnL 67 5 RowV.cells w' (.slice A' n' c') (Pm.rows q L c)) ∧ Hid (Fr (sliceB A2) W w') ∧ Hid (∀ ad, A' = some ad → ad.block ∈ sliceB A2 ∨ W.heap.size ≤ ad.block)) := Lib.hid (fun W ge gv hf he hv => by
      have ho := HO3.out.fr hf (by simp)
      refine (rowInserted_any 116 #[.pointer (some ⟨ge, 0, none⟩), .pointer (some ⟨gv, 0, none⟩)] (Pm.behind q ⟨r0, r1, r2, r3, r4⟩) A2 n2 c2 _ ⟨r0, r1, r2, r3, r4⟩ W ho (by rw [ho.blk.1]; exact HL2.out) (enters_of Tryz.func116 (by kernel_rfl) rfl) (fun W' x hf' => pbehind1_any q c pb u v ga ge gv ⟨r0, r1, r2, r3, r4⟩ x W' (he.fr0 hf') (hv.fr hf' (by simp)) (HA2.out.fr (hf.trans hf') (by simp)))).mono ?_
      rintro e w' ⟨A', n', c', rfl, h1, h2, h3⟩
      exact ⟨A', n', c', rfl, Lib.hid (by rw [HRO.out]; exact h1), Lib.hid h2, Lib.hid h3⟩)
    have HSX : Hid (∀ W1 W, Fr [] w4 W1 → Fr (sliceB A2) W1 W → W.cell? ⟨w.heap.size + 1, 0, none⟩ = some (.slice A2 n2 c2) ∧ W.cell? ⟨w.heap.size, 18, none⟩ = some (.pointer (some ⟨ga, 0, none⟩)) ∧ Blk W w.heap.size 120 (effArr q c pb (some ⟨ga, 0, none⟩) u v) ∧ Blk W ga 67 #[.int .i64 r0, .int .i64 r1, .int .i64 r2, .int .i64 r3, .int .i64 r4]) := Lib.hid (fun W1 W h1 h2 => by
      have k : ∀ g, g < w.heap.size + 3 → g ∉ sliceB A2 := fun g hg hm => by obtain ⟨ad, e1, e2⟩ := mem_sliceB.1 hm; have := HG2.out ad e1; omega
      have b := (HB2.out.fr0 h1).fr h2 (k _ (by omega))
      have r := (HR2.out.fr h1 (by simp)).fr h2 (k _ (by omega))
      have a := (HA2.out.fr h1 (by simp)).fr h2 (k _ (by have := HGA2.out; omega))
      exact ⟨r.cell 0, b.c18, b, a⟩)
    refine wp_region_head (fun W => W.cell? ⟨w.heap.size + 1, 0, none⟩ = some (.slice A2 n2 c2) ∧ W.cell? ⟨w.heap.size, 18, none⟩ = some (.pointer (some ⟨ga, 0, none⟩)) ∧ Blk W w.heap.size 120 (effArr q c pb (some ⟨ga, 0, none⟩) u v) ∧ Blk W ga 67 #[.int .i64 r0, .int .i64 r1, .int .i64 r2, .int .i64 r3, .int .i64 r4]) 10 (by kernel_rfl) (by kernel_rfl) (HS.out _ (Fr.refl [] w4).drew) (fun hHeld => ?_)
    refine wpHead_take (i := 0) (oi := ⟨some 14, _, _, _, _, _⟩) (v := ?_) rfl (by kernel_rfl) (fun _ _ _ h => h) (Or.inl ⟨by rfl, ?_⟩) hHeld ?_
    rotate_left
    · (intro w hSw; (try dsimp only at hSw); go_simp; try with_reducible rfl)
    try simp only [Act.put, List.setIfInBounds_toArray, List.set_cons_zero, List.set_cons_succ]
    refine wpHead_take (i := 1) (oi := ⟨some 15, _, _, _, _, _⟩) (v := ?_) rfl (by kernel_rfl) (fun _ _ _ h => h) (Or.inl ⟨by rfl, ?_⟩) hHeld ?_
    rotate_left
    · (intro w hSw; (try dsimp only at hSw); go_simp; try with_reducible rfl)
    try simp only [Act.put, List.setIfInBounds_toArray, List.set_cons_zero, List.set_cons_succ]
    refine wpHead_take (i := 2) (oi := ⟨some 16, _, _, _, _, _⟩) (v := ?_) rfl (by kernel_rfl) (fun _ _ _ h => h) (Or.inl ⟨by rfl, ?_⟩) hHeld ?_
    rotate_left
    · (intro w hSw; (try dsimp only at hSw); go_simp; try with_reducible rfl)
    try simp only [Act.put, List.setIfInBounds_toArray, List.set_cons_zero, List.set_cons_succ]
    refine wpHead_take (i := 3) (oi := ⟨some 17, _, _, _, _, _⟩) (v := ?_) rfl (by kernel_rfl) (fun _ _ _ h => h) (Or.inl ⟨by rfl, ?_⟩) hHeld ?_
    rotate_left
    · (intro w hSw; (try dsimp only at hSw); go_simp; try with_reducible rfl)
    try simp only [Act.put, List.setIfInBounds_toArray, List.set_cons_zero, List.set_cons_succ]
    refine wpHead_take (i := 4) (oi := ⟨some 18, _, _, _, _, _⟩) (v := ?_) rfl (by kernel_rfl) (fun _ _ _ h => h) (Or.inl ⟨by rfl, ?_⟩) hHeld ?_
    rotate_left
    · (intro w hSw; (try dsimp only at hSw); go_simp; try with_reducible rfl)
    try simp only [Act.put, List.setIfInBounds_toArray, List.set_cons_zero, List.set_cons_succ]
    refine wpHead_take (i := 5) (oi := ⟨some 19, _, _, _, _, _⟩) (v := .agg (#[.int .i64 r0, .int .i64 r1, .int .i64 r2, .int .i64 r3, .int .i64 r4])) rfl (by kernel_rfl) (fun _ _ _ h => h) (yieldsIf_load_blk (by rfl) _ _ rfl ga rfl 67 (#[.int .i64 r0, .int .i64 r1, .int .i64 r2, .int .i64 r3, .int .i64 r4]) _ (fun _ h => h.2.2.2) Tryz.underlying67 rfl (by kernel_rfl)) hHeld ?_
    try simp only [Act.put, List.setIfInBounds_toArray, List.set_cons_zero, List.set_cons_succ]
    refine wpHead_take (i := 6) (oi := ⟨some 20, _, _, _, _, _⟩) (v := .agg (effArr q c pb (some ⟨ga, 0, none⟩) u v)) rfl (by kernel_rfl) (fun _ _ _ h => h) (yieldsIf_load_blk (by rfl) _ _ rfl w.heap.size rfl 120 (effArr q c pb (some ⟨ga, 0, none⟩) u v) _ (fun _ h => h.2.2.1) Tryz.underlying120 rfl (by kernel_rfl)) hHeld ?_
    try simp only [Act.put, List.setIfInBounds_toArray, List.set_cons_zero, List.set_cons_succ]
    refine wpHead_one (i := 7) (o := ⟨some 21, _, _, _, _, _⟩) rfl (by kernel_rfl) (by decide) (fun K hK => ?_)
    go_simp
    (with_reducible refine (pbehind_any q c pb u v ga ⟨r0, r1, r2, r3, r4⟩ _ (HAF.out _ (Fr.refl [] w4).drew)).mono ?_)
    rintro e wb ⟨ge, gv, rfl, he5, hv5, f5, -, -⟩
    have HE5 := Lib.hid he5
    have HV5 := Lib.hid hv5
    have FB : Hid (Fr [] w4 wb) := Lib.hid ((Fr.refl [] w4).drew.trans f5)
    clear he5 hv5 f5
    refine hK.out _ _ ?_ (fun hHeld => ?_)
    · exact HS.out _ FB.out
    clear hK K
    try simp only [Act.put, List.setIfInBounds_toArray, List.set_cons_zero, List.set_cons_succ]
    refine wpHead_one (i := 8) (o := ⟨some 22, _, _, _, _, _⟩) rfl (by kernel_rfl) (by decide) (fun K hK => ?_)
    go_simp
    (with_reducible refine (HIN.out _ _ _ FB.out HE5.out HV5.out).mono ?_)
    rintro e wi ⟨A3, n3, c3, rfl, HOi, HFi, HGi⟩
    refine hK.out _ _ ?_ (fun hHeld => ?_)
    · exact HSX.out _ _ FB.out HFi.out
    clear hK K
    try simp only [Act.put, List.setIfInBounds_toArray, List.set_cons_zero, List.set_cons_succ]
    refine wpHead_take (i := 9) (oi := ⟨some 23, _, _, _, _, _⟩) (v := ?_) rfl (by kernel_rfl) (fun _ _ _ h => h) (Or.inl ⟨by rfl, ?_⟩) hHeld ?_
    rotate_left
    · (intro w hSw; (try dsimp only at hSw); go_simp; try with_reducible rfl)
    try simp only [Act.put, List.setIfInBounds_toArray, List.set_cons_zero, List.set_cons_succ]
    refine wpHead_done (by kernel_rfl) ?_
    simp only [List.drop_succ_cons, List.drop_zero]
    
    have hr := (HR2.out.fr FB.out (by simp)).fr HFi.out HNR.out
    have z0 := hr.frozen 0
    have d0 := hr.cell 0
    have hfs : Fr [w.heap.size + 1] wi (wi.setCell ⟨w.heap.size + 1, 0, none⟩ (.slice A3 n3 c3)) := (Fr.refl _ _).setCell (.inl (by simp)) _
    have HR4 : Hid (Blk (wi.setCell ⟨w.heap.size + 1, 0, none⟩ (.slice A3 n3 c3)) (w.heap.size + 1) 37 #[.slice A3 n3 c3, .int .i64 m, .bool f]) := Lib.hid (hr.set_ 0 _)
    have HZ4 := Lib.hid (((HZ2.out.fr FB.out (by simp)).fr HFi.out HNZ.out).fr hfs (by simp))
    have hbig : ∀ ad, A3 = some ad → w.heap.size + 3 ≤ ad.block := fun ad ha => by
      rcases HGi.out ad ha with h | h
      · obtain ⟨ad2, e1, e2⟩ := mem_sliceB.1 h
        have := HG2.out ad2 e1
        omega
      · have h1 := FB.out.size
        have h2 := HS4.out
        omega
    have HO4 := Lib.hid (HOi.out.fr hfs (fun g hg => by obtain ⟨ad, h1, h2⟩ := mem_sliceB.1 (own_sliceB hg); have := hbig ad h1; simp; omega))
    have HBG := Lib.hid hbig
    have FA4 : Hid (Fr [] w (wi.setCell ⟨w.heap.size + 1, 0, none⟩ (.slice A3 n3 c3))) := Lib.hid (((FA.out.trans FB.out).trans' HFi.out (fun i hi => by obtain ⟨ad, h1, h2⟩ := mem_sliceB.1 hi; have := HG2.out ad h1; exact .inr (by omega))).trans' hfs (by simp))
    clear hr hbig
    go_upto_region 4 with (fail)
    clear z0 d0 hfs
    generalize wi.setCell ⟨w.heap.size + 1, 0, none⟩ (.slice A3 n3 c3) = w8 at *
    have HR5 := HR4.out
    have HZ5 := HZ4.out
    go_wp2_with (first
      | (refine wpList_load_row rfl _ _ rfl (w.heap.size + 1) rfl 37 _ (0, 0) _ HR5 Tryz.underlying37 rfl (by kernel_rfl) ?_)
      | (refine wpList_store_blk rfl _ _ _ rfl (w.heap.size + 1 + 1) #[.slice A3 n3 c3, .int .i64 m, .bool f] rfl rfl 37 _ HZ5 (by kernel_rfl) rfl rfl ?_; intro w9 hb9 hf9; have HB9 := Lib.hid hb9; have HF9 := Lib.hid hf9; clear hb9 hf9))
    have q0 := HB9.out.cell 0
    have q1 := HB9.out.cell 1
    have q2 := HB9.out.cell 2
    refine bodyPost_ret (v := .tuple #[.agg #[.slice A3 n3 c3, .int .i64 m, .bool f], .bool true]) (by simp [results, Tryz.results76, go_sem, q0, q1, q2]) rfl ⟨_, _, _, rfl, HO4.out.fr HF9.out (fun g hg => by obtain ⟨ad, h1, h2⟩ := mem_sliceB.1 (own_sliceB hg); have := HBG.out ad h1; simp; omega), FA4.out.trans' HF9.out (fun i hi => .inr (by rw [List.mem_singleton] at hi; omega))⟩
end Go.Proofs.YthiaaminkfkjpaaGreat
namespace Go.Proofs.YthiaaminkfkjpaaGreat
open Go.RowKit

namespace Pm
/-- The value, whether there is one, and whether it is known. -/
def extE (bt : Int → Int → Bool) (p r f : Bool) (m u v : Int) : Int × Bool × Bool :=
  if (p && (!f || !bt m u)) = true then (v, f, r && (f && !bt m v)) else if r = true then (if (!f || bt v m) = true then v else m, true, true) else (m, f, true)
end Pm
set_option maxRecDepth 100000 in
set_option maxHeartbeats 8000000 in
theorem pext_any (lf gb : Nat) (bt : Int → Int → Bool) (q : Qry) (c : Chg) (pb pa : Option Addr) (u v : Int) (X : Option Addr) (n cap : Nat) (m : Int) (f : Bool) (w : World)
    (eg : ∀ args w, (callFunc lf args).run Tryz.prog w = .ok (.enter lf args) w) (hbt : ∀ a b w, Calls Tryz.prog lf #[.int .i64 a, .int .i64 b] w fun e w' => e = .returned (.bool (bt a b)) ∧ w = w') (hg : Blk w gb 105 #[fnV lf]) :
    Calls Tryz.prog 101 #[.agg (effArr q c pb pa u v), .agg #[.slice X n cap, .int .i64 m, .bool f], .pointer (some ⟨gb, 0, none⟩)] w fun e w' => e = .returned (.tuple #[.agg #[.slice X n cap, .int .i64 (Pm.extE bt pb.isSome pa.isSome f m u v).1, .bool (Pm.extE bt pb.isSome pa.isSome f m u v).2.1], .bool (Pm.extE bt pb.isSome pa.isSome f m u v).2.2]) ∧ Fr [] w w' := by
  have F0 : Hid (Fr [] w (((w.alloc (.cells (effArr q c pb pa u v) 120)).alloc (.cells #[.slice X n cap, .int .i64 m, .bool f] 37)).alloc (.cells #[.slice none 0 0, .int .i64 0, .bool false] 37))) := Lib.hid ((((Fr.refl _ _).alloc _).alloc _).alloc _)
  have HB : Hid (EffAt (((w.alloc (.cells (effArr q c pb pa u v) 120)).alloc (.cells #[.slice X n cap, .int .i64 m, .bool f] 37)).alloc (.cells #[.slice none 0 0, .int .i64 0, .bool false] 37)) w.heap.size q c pb pa u v) := Lib.hid (Blk.alloc (Blk.alloc (EffAt.new w q c pb pa u v) _) _)
  have hr := Blk.new (w.alloc (.cells (effArr q c pb pa u v) 120)) 37 #[.slice X n cap, .int .i64 m, .bool f]
  rw [World.size_alloc] at hr
  have HR : Hid (Blk (((w.alloc (.cells (effArr q c pb pa u v) 120)).alloc (.cells #[.slice X n cap, .int .i64 m, .bool f] 37)).alloc (.cells #[.slice none 0 0, .int .i64 0, .bool false] 37)) (w.heap.size + 1) 37 #[.slice X n cap, .int .i64 m, .bool f]) := Lib.hid (hr.alloc _)
  have hz := Blk.new ((w.alloc (.cells (effArr q c pb pa u v) 120)).alloc (.cells #[.slice X n cap, .int .i64 m, .bool f] 37)) 37 #[.slice none 0 0, .int .i64 0, .bool false]
  rw [World.size_alloc, World.size_alloc] at hz
  have HZ := Lib.hid hz
  have HG := Lib.hid (hg.fr F0.out (by simp))
  have HBT := Lib.hid hbt
  clear hr hz hg hbt
  go_enter Tryz.func101, Tryz.ntmps101
  go_upto_region 1 with (fail)
  generalize (((w.alloc (.cells (effArr q c pb pa u v) 120)).alloc (.cells #[.slice X n cap, .int .i64 m, .bool f] 37)).alloc (.cells #[.slice none 0 0, .int .i64 0, .bool false] 37)) = w1 at *
  cases pb with
  | none =>
    cases pa with
    | none =>
      cases hf : f with
      | true =>
        have e17 := HB.out.c17
        have e18 := HB.out.c18
        have e19 := HB.out.c19
        have e20 := HB.out.c20
        have r1 := HR.out.cell 1
        have r2 := HR.out.cell 2
        have y1 := HR.out.frozen 1
        have y2 := HR.out.frozen 2
        have g0 := HG.out.cell 0
        have B1 : Hid True := Lib.hid trivial
        have B2 : Hid True := Lib.hid trivial
        have B3 : Hid True := Lib.hid trivial
        have HE : Hid (Pm.extE bt false false f m u v = (m, f, true)) := Lib.hid (by simp [Pm.extE, hf])
        subst hf
        go_upto_region 9 with (go_at_fn lf; refine (HBT.out _ _ _).mono ?_; rintro e wx ⟨rfl, rfl⟩; (first | rw [B1.out] | rw [B2.out] | rw [B3.out]))
        have HRF := HR.out
        have HZF := HZ.out
        go_wp2_with (first
          | (refine wpList_load_row rfl _ _ rfl (w.heap.size + 1) rfl 37 _ (0, 0) _ HRF Tryz.underlying37 rfl (by kernel_rfl) ?_)
          | (refine wpList_store_blk rfl _ _ _ rfl (w.heap.size + 1 + 1) #[.slice X n cap, .int .i64 m, .bool true] rfl rfl 37 _ HZF (by kernel_rfl) rfl rfl ?_; intro w9 hb9 hf9; have HB9 := Lib.hid hb9; have HF9 := Lib.hid hf9; clear hb9 hf9))
        have q0 := HB9.out.cell 0
        have q1 := HB9.out.cell 1
        have q2 := HB9.out.cell 2
        exact bodyPost_ret (v := .tuple #[.agg #[.slice X n cap, .int .i64 m, .bool true], .bool true]) (by simp [results, Tryz.results101, go_sem, q0, q1, q2]) rfl ⟨by simp only [Option.isSome, HE.out], F0.out.trans' HF9.out (fun i hi => .inr (by rw [List.mem_singleton] at hi; omega))⟩
      | false =>
        have e17 := HB.out.c17
        have e18 := HB.out.c18
        have e19 := HB.out.c19
        have e20 := HB.out.c20
        have r1 := HR.out.cell 1
        have r2 := HR.out.cell 2
        have y1 := HR.out.frozen 1
        have y2 := HR.out.frozen 2
        have g0 := HG.out.cell 0
        have B1 : Hid True := Lib.hid trivial
        have B2 : Hid True := Lib.hid trivial
        have B3 : Hid True := Lib.hid trivial
        have HE : Hid (Pm.extE bt false false f m u v = (m, f, true)) := Lib.hid (by simp [Pm.extE, hf])
        subst hf
        go_upto_region 9 with (go_at_fn lf; refine (HBT.out _ _ _).mono ?_; rintro e wx ⟨rfl, rfl⟩; (first | rw [B1.out] | rw [B2.out] | rw [B3.out]))
        have HRF := HR.out
        have HZF := HZ.out
        go_wp2_with (first
          | (refine wpList_load_row rfl _ _ rfl (w.heap.size + 1) rfl 37 _ (0, 0) _ HRF Tryz.underlying37 rfl (by kernel_rfl) ?_)
          | (refine wpList_store_blk rfl _ _ _ rfl (w.heap.size + 1 + 1) #[.slice X n cap, .int .i64 m, .bool false] rfl rfl 37 _ HZF (by kernel_rfl) rfl rfl ?_; intro w9 hb9 hf9; have HB9 := Lib.hid hb9; have HF9 := Lib.hid hf9; clear hb9 hf9))
        have q0 := HB9.out.cell 0
        have q1 := HB9.out.cell 1
        have q2 := HB9.out.cell 2
        exact bodyPost_ret (v := .tuple #[.agg #[.slice X n cap, .int .i64 m, .bool false], .bool true]) (by simp [results, Tryz.results101, go_sem, q0, q1, q2]) rfl ⟨by simp only [Option.isSome, HE.out], F0.out.trans' HF9.out (fun i hi => .inr (by rw [List.mem_singleton] at hi; omega))⟩
    | some aa =>
      cases hf : f with
      | true =>
        cases hb3 : bt v m with
        | true =>
          have e17 := HB.out.c17
          have e18 := HB.out.c18
          have e19 := HB.out.c19
          have e20 := HB.out.c20
          have r1 := HR.out.cell 1
          have r2 := HR.out.cell 2
          have y1 := HR.out.frozen 1
          have y2 := HR.out.frozen 2
          have g0 := HG.out.cell 0
          have B1 : Hid True := Lib.hid trivial
          have B2 : Hid True := Lib.hid trivial
          have HE : Hid (Pm.extE bt false true f m u v = (v, true, true)) := Lib.hid (by simp [Pm.extE, hf, hb3])
          have B3 : Hid (bt v m = true) := Lib.hid hb3
          clear hb3
          subst hf
          go_upto_region 8 with (go_at_fn lf; refine (HBT.out _ _ _).mono ?_; rintro e wx ⟨rfl, rfl⟩; (first | rw [B1.out] | rw [B2.out] | rw [B3.out]))
          have hfsA : Fr [w.heap.size + 1] w1 (w1.setCell ⟨w.heap.size + 1, 1, none⟩ (.int .i64 v)) := (Fr.refl _ _).setCell (.inl (by simp)) _
          have HRA : Hid (Blk (w1.setCell ⟨w.heap.size + 1, 1, none⟩ (.int .i64 v)) (w.heap.size + 1) 37 #[.slice X n cap, .int .i64 v, .bool true]) := Lib.hid (HR.out.set_ 1 _)
          have HZA := Lib.hid (HZ.out.fr hfsA (by simp))
          have FA := Lib.hid (F0.out.trans' hfsA (by simp))
          clear hfsA
          generalize w1.setCell ⟨w.heap.size + 1, 1, none⟩ (.int .i64 v) = w2 at *
          have x2 := HRA.out.cell 2
          have x3 := HRA.out.frozen 2
          go_upto_region 9 with (go_at_fn lf; refine (HBT.out _ _ _).mono ?_; rintro e wx ⟨rfl, rfl⟩; (first | rw [B1.out] | rw [B2.out] | rw [B3.out]))
          have hfsB : Fr [w.heap.size + 1] w2 (w2.setCell ⟨w.heap.size + 1, 2, none⟩ (.bool true)) := (Fr.refl _ _).setCell (.inl (by simp)) _
          have HRB : Hid (Blk (w2.setCell ⟨w.heap.size + 1, 2, none⟩ (.bool true)) (w.heap.size + 1) 37 #[.slice X n cap, .int .i64 v, .bool true]) := Lib.hid (HRA.out.set_ 2 _)
          have HZB := Lib.hid (HZA.out.fr hfsB (by simp))
          have FB := Lib.hid (FA.out.trans' hfsB (by simp))
          clear hfsB
          generalize w2.setCell ⟨w.heap.size + 1, 2, none⟩ (.bool true) = w3 at *
          have HRF := HRB.out
          have HZF := HZB.out
          go_wp2_with (first
            | (refine wpList_load_row rfl _ _ rfl (w.heap.size + 1) rfl 37 _ (0, 0) _ HRF Tryz.underlying37 rfl (by kernel_rfl) ?_)
            | (refine wpList_store_blk rfl _ _ _ rfl (w.heap.size + 1 + 1) #[.slice X n cap, .int .i64 v, .bool true] rfl rfl 37 _ HZF (by kernel_rfl) rfl rfl ?_; intro w9 hb9 hf9; have HB9 := Lib.hid hb9; have HF9 := Lib.hid hf9; clear hb9 hf9))
          have q0 := HB9.out.cell 0
          have q1 := HB9.out.cell 1
          have q2 := HB9.out.cell 2
          exact bodyPost_ret (v := .tuple #[.agg #[.slice X n cap, .int .i64 v, .bool true], .bool true]) (by simp [results, Tryz.results101, go_sem, q0, q1, q2]) rfl ⟨by simp only [Option.isSome, HE.out], FB.out.trans' HF9.out (fun i hi => .inr (by rw [List.mem_singleton] at hi; omega))⟩
        | false =>
          have e17 := HB.out.c17
          have e18 := HB.out.c18
          have e19 := HB.out.c19
          have e20 := HB.out.c20
          have r1 := HR.out.cell 1
          have r2 := HR.out.cell 2
          have y1 := HR.out.frozen 1
          have y2 := HR.out.frozen 2
          have g0 := HG.out.cell 0
          have B1 : Hid True := Lib.hid trivial
          have B2 : Hid True := Lib.hid trivial
          have HE : Hid (Pm.extE bt false true f m u v = (m, true, true)) := Lib.hid (by simp [Pm.extE, hf, hb3])
          have B3 : Hid (bt v m = false) := Lib.hid hb3
          clear hb3
          subst hf
          go_upto_region 9 with (go_at_fn lf; refine (HBT.out _ _ _).mono ?_; rintro e wx ⟨rfl, rfl⟩; (first | rw [B1.out] | rw [B2.out] | rw [B3.out]))
          have hfsB : Fr [w.heap.size + 1] w1 (w1.setCell ⟨w.heap.size + 1, 2, none⟩ (.bool true)) := (Fr.refl _ _).setCell (.inl (by simp)) _
          have HRB : Hid (Blk (w1.setCell ⟨w.heap.size + 1, 2, none⟩ (.bool true)) (w.heap.size + 1) 37 #[.slice X n cap, .int .i64 m, .bool true]) := Lib.hid (HR.out.set_ 2 _)
          have HZB := Lib.hid (HZ.out.fr hfsB (by simp))
          have FB := Lib.hid (F0.out.trans' hfsB (by simp))
          clear hfsB
          generalize w1.setCell ⟨w.heap.size + 1, 2, none⟩ (.bool true) = w3 at *
          have HRF := HRB.out
          have HZF := HZB.out
          go_wp2_with (first
            | (refine wpList_load_row rfl _ _ rfl (w.heap.size + 1) rfl 37 _ (0, 0) _ HRF Tryz.underlying37 rfl (by kernel_rfl) ?_)
            | (refine wpList_store_blk rfl _ _ _ rfl (w.heap.size + 1 + 1) #[.slice X n cap, .int .i64 m, .bool true] rfl rfl 37 _ HZF (by kernel_rfl) rfl rfl ?_; intro w9 hb9 hf9; have HB9 := Lib.hid hb9; have HF9 := Lib.hid hf9; clear hb9 hf9))
          have q0 := HB9.out.cell 0
          have q1 := HB9.out.cell 1
          have q2 := HB9.out.cell 2
          exact bodyPost_ret (v := .tuple #[.agg #[.slice X n cap, .int .i64 m, .bool true], .bool true]) (by simp [results, Tryz.results101, go_sem, q0, q1, q2]) rfl ⟨by simp only [Option.isSome, HE.out], FB.out.trans' HF9.out (fun i hi => .inr (by rw [List.mem_singleton] at hi; omega))⟩
      | false =>
        have e17 := HB.out.c17
        have e18 := HB.out.c18
        have e19 := HB.out.c19
        have e20 := HB.out.c20
        have r1 := HR.out.cell 1
        have r2 := HR.out.cell 2
        have y1 := HR.out.frozen 1
        have y2 := HR.out.frozen 2
        have g0 := HG.out.cell 0
        have B1 : Hid True := Lib.hid trivial
        have B2 : Hid True := Lib.hid trivial
        have B3 : Hid True := Lib.hid trivial
        have HE : Hid (Pm.extE bt false true f m u v = (v, true, true)) := Lib.hid (by simp [Pm.extE, hf])
        subst hf
        go_upto_region 8 with (go_at_fn lf; refine (HBT.out _ _ _).mono ?_; rintro e wx ⟨rfl, rfl⟩; (first | rw [B1.out] | rw [B2.out] | rw [B3.out]))
        have hfsA : Fr [w.heap.size + 1] w1 (w1.setCell ⟨w.heap.size + 1, 1, none⟩ (.int .i64 v)) := (Fr.refl _ _).setCell (.inl (by simp)) _
        have HRA : Hid (Blk (w1.setCell ⟨w.heap.size + 1, 1, none⟩ (.int .i64 v)) (w.heap.size + 1) 37 #[.slice X n cap, .int .i64 v, .bool false]) := Lib.hid (HR.out.set_ 1 _)
        have HZA := Lib.hid (HZ.out.fr hfsA (by simp))
        have FA := Lib.hid (F0.out.trans' hfsA (by simp))
        clear hfsA
        generalize w1.setCell ⟨w.heap.size + 1, 1, none⟩ (.int .i64 v) = w2 at *
        have x2 := HRA.out.cell 2
        have x3 := HRA.out.frozen 2
        go_upto_region 9 with (go_at_fn lf; refine (HBT.out _ _ _).mono ?_; rintro e wx ⟨rfl, rfl⟩; (first | rw [B1.out] | rw [B2.out] | rw [B3.out]))
        have hfsB : Fr [w.heap.size + 1] w2 (w2.setCell ⟨w.heap.size + 1, 2, none⟩ (.bool true)) := (Fr.refl _ _).setCell (.inl (by simp)) _
        have HRB : Hid (Blk (w2.setCell ⟨w.heap.size + 1, 2, none⟩ (.bool true)) (w.heap.size + 1) 37 #[.slice X n cap, .int .i64 v, .bool true]) := Lib.hid (HRA.out.set_ 2 _)
        have HZB := Lib.hid (HZA.out.fr hfsB (by simp))
        have FB := Lib.hid (FA.out.trans' hfsB (by simp))
        clear hfsB
        generalize w2.setCell ⟨w.heap.size + 1, 2, none⟩ (.bool true) = w3 at *
        have HRF := HRB.out
        have HZF := HZB.out
        go_wp2_with (first
          | (refine wpList_load_row rfl _ _ rfl (w.heap.size + 1) rfl 37 _ (0, 0) _ HRF Tryz.underlying37 rfl (by kernel_rfl) ?_)
          | (refine wpList_store_blk rfl _ _ _ rfl (w.heap.size + 1 + 1) #[.slice X n cap, .int .i64 v, .bool true] rfl rfl 37 _ HZF (by kernel_rfl) rfl rfl ?_; intro w9 hb9 hf9; have HB9 := Lib.hid hb9; have HF9 := Lib.hid hf9; clear hb9 hf9))
        have q0 := HB9.out.cell 0
        have q1 := HB9.out.cell 1
        have q2 := HB9.out.cell 2
        exact bodyPost_ret (v := .tuple #[.agg #[.slice X n cap, .int .i64 v, .bool true], .bool true]) (by simp [results, Tryz.results101, go_sem, q0, q1, q2]) rfl ⟨by simp only [Option.isSome, HE.out], FB.out.trans' HF9.out (fun i hi => .inr (by rw [List.mem_singleton] at hi; omega))⟩
  | some ab =>
    cases pa with
    | none =>
      cases hf : f with
      | true =>
        cases hb1 : bt m u with
        | true =>
          have e17 := HB.out.c17
          have e18 := HB.out.c18
          have e19 := HB.out.c19
          have e20 := HB.out.c20
          have r1 := HR.out.cell 1
          have r2 := HR.out.cell 2
          have y1 := HR.out.frozen 1
          have y2 := HR.out.frozen 2
          have g0 := HG.out.cell 0
          have B2 : Hid True := Lib.hid trivial
          have B3 : Hid True := Lib.hid trivial
          have HE : Hid (Pm.extE bt true false f m u v = (m, f, true)) := Lib.hid (by simp [Pm.extE, hf, hb1])
          have B1 : Hid (bt m u = true) := Lib.hid hb1
          clear hb1
          subst hf
          go_upto_region 9 with (go_at_fn lf; refine (HBT.out _ _ _).mono ?_; rintro e wx ⟨rfl, rfl⟩; (first | rw [B1.out] | rw [B2.out] | rw [B3.out]))
          have HRF := HR.out
          have HZF := HZ.out
          go_wp2_with (first
            | (refine wpList_load_row rfl _ _ rfl (w.heap.size + 1) rfl 37 _ (0, 0) _ HRF Tryz.underlying37 rfl (by kernel_rfl) ?_)
            | (refine wpList_store_blk rfl _ _ _ rfl (w.heap.size + 1 + 1) #[.slice X n cap, .int .i64 m, .bool true] rfl rfl 37 _ HZF (by kernel_rfl) rfl rfl ?_; intro w9 hb9 hf9; have HB9 := Lib.hid hb9; have HF9 := Lib.hid hf9; clear hb9 hf9))
          have q0 := HB9.out.cell 0
          have q1 := HB9.out.cell 1
          have q2 := HB9.out.cell 2
          exact bodyPost_ret (v := .tuple #[.agg #[.slice X n cap, .int .i64 m, .bool true], .bool true]) (by simp [results, Tryz.results101, go_sem, q0, q1, q2]) rfl ⟨by simp only [Option.isSome, HE.out], F0.out.trans' HF9.out (fun i hi => .inr (by rw [List.mem_singleton] at hi; omega))⟩
        | false =>
          have e17 := HB.out.c17
          have e18 := HB.out.c18
          have e19 := HB.out.c19
          have e20 := HB.out.c20
          have r1 := HR.out.cell 1
          have r2 := HR.out.cell 2
          have y1 := HR.out.frozen 1
          have y2 := HR.out.frozen 2
          have g0 := HG.out.cell 0
          have B2 : Hid True := Lib.hid trivial
          have B3 : Hid True := Lib.hid trivial
          have HE : Hid (Pm.extE bt true false f m u v = (v, f, false)) := Lib.hid (by simp [Pm.extE, hf, hb1])
          have B1 : Hid (bt m u = false) := Lib.hid hb1
          clear hb1
          subst hf
          go_upto_region 4 with (go_at_fn lf; refine (HBT.out _ _ _).mono ?_; rintro e wx ⟨rfl, rfl⟩; (first | rw [B1.out] | rw [B2.out] | rw [B3.out]))
          have hfsA : Fr [w.heap.size + 1] w1 (w1.setCell ⟨w.heap.size + 1, 1, none⟩ (.int .i64 v)) := (Fr.refl _ _).setCell (.inl (by simp)) _
          have HRA : Hid (Blk (w1.setCell ⟨w.heap.size + 1, 1, none⟩ (.int .i64 v)) (w.heap.size + 1) 37 #[.slice X n cap, .int .i64 v, .bool true]) := Lib.hid (HR.out.set_ 1 _)
          have HZA := Lib.hid (HZ.out.fr hfsA (by simp))
          have FA := Lib.hid (F0.out.trans' hfsA (by simp))
          clear hfsA
          generalize w1.setCell ⟨w.heap.size + 1, 1, none⟩ (.int .i64 v) = w2 at *
          have HRF := HRA.out
          have HZF := HZA.out
          go_wp2_with (first
            | (refine wpList_load_row rfl _ _ rfl (w.heap.size + 1) rfl 37 _ (0, 0) _ HRF Tryz.underlying37 rfl (by kernel_rfl) ?_)
            | (refine wpList_store_blk rfl _ _ _ rfl (w.heap.size + 1 + 1) #[.slice X n cap, .int .i64 v, .bool true] rfl rfl 37 _ HZF (by kernel_rfl) rfl rfl ?_; intro w9 hb9 hf9; have HB9 := Lib.hid hb9; have HF9 := Lib.hid hf9; clear hb9 hf9))
          have q0 := HB9.out.cell 0
          have q1 := HB9.out.cell 1
          have q2 := HB9.out.cell 2
          exact bodyPost_ret (v := .tuple #[.agg #[.slice X n cap, .int .i64 v, .bool true], .bool false]) (by simp [results, Tryz.results101, go_sem, q0, q1, q2]) rfl ⟨by simp only [Option.isSome, HE.out], FA.out.trans' HF9.out (fun i hi => .inr (by rw [List.mem_singleton] at hi; omega))⟩
      | false =>
        have e17 := HB.out.c17
        have e18 := HB.out.c18
        have e19 := HB.out.c19
        have e20 := HB.out.c20
        have r1 := HR.out.cell 1
        have r2 := HR.out.cell 2
        have y1 := HR.out.frozen 1
        have y2 := HR.out.frozen 2
        have g0 := HG.out.cell 0
        have B1 : Hid True := Lib.hid trivial
        have B2 : Hid True := Lib.hid trivial
        have B3 : Hid True := Lib.hid trivial
        have HE : Hid (Pm.extE bt true false f m u v = (v, f, false)) := Lib.hid (by simp [Pm.extE, hf])
        subst hf
        go_upto_region 4 with (go_at_fn lf; refine (HBT.out _ _ _).mono ?_; rintro e wx ⟨rfl, rfl⟩; (first | rw [B1.out] | rw [B2.out] | rw [B3.out]))
        have hfsA : Fr [w.heap.size + 1] w1 (w1.setCell ⟨w.heap.size + 1, 1, none⟩ (.int .i64 v)) := (Fr.refl _ _).setCell (.inl (by simp)) _
        have HRA : Hid (Blk (w1.setCell ⟨w.heap.size + 1, 1, none⟩ (.int .i64 v)) (w.heap.size + 1) 37 #[.slice X n cap, .int .i64 v, .bool false]) := Lib.hid (HR.out.set_ 1 _)
        have HZA := Lib.hid (HZ.out.fr hfsA (by simp))
        have FA := Lib.hid (F0.out.trans' hfsA (by simp))
        clear hfsA
        generalize w1.setCell ⟨w.heap.size + 1, 1, none⟩ (.int .i64 v) = w2 at *
        have HRF := HRA.out
        have HZF := HZA.out
        go_wp2_with (first
          | (refine wpList_load_row rfl _ _ rfl (w.heap.size + 1) rfl 37 _ (0, 0) _ HRF Tryz.underlying37 rfl (by kernel_rfl) ?_)
          | (refine wpList_store_blk rfl _ _ _ rfl (w.heap.size + 1 + 1) #[.slice X n cap, .int .i64 v, .bool false] rfl rfl 37 _ HZF (by kernel_rfl) rfl rfl ?_; intro w9 hb9 hf9; have HB9 := Lib.hid hb9; have HF9 := Lib.hid hf9; clear hb9 hf9))
        have q0 := HB9.out.cell 0
        have q1 := HB9.out.cell 1
        have q2 := HB9.out.cell 2
        exact bodyPost_ret (v := .tuple #[.agg #[.slice X n cap, .int .i64 v, .bool false], .bool false]) (by simp [results, Tryz.results101, go_sem, q0, q1, q2]) rfl ⟨by simp only [Option.isSome, HE.out], FA.out.trans' HF9.out (fun i hi => .inr (by rw [List.mem_singleton] at hi; omega))⟩
    | some aa =>
      cases hf : f with
      | true =>
        cases hb1 : bt m u with
        | true =>
          cases hb3 : bt v m with
          | true =>
            have e17 := HB.out.c17
            have e18 := HB.out.c18
            have e19 := HB.out.c19
            have e20 := HB.out.c20
            have r1 := HR.out.cell 1
            have r2 := HR.out.cell 2
            have y1 := HR.out.frozen 1
            have y2 := HR.out.frozen 2
            have g0 := HG.out.cell 0
            have B2 : Hid True := Lib.hid trivial
            have HE : Hid (Pm.extE bt true true f m u v = (v, true, true)) := Lib.hid (by simp [Pm.extE, hf, hb1, hb3])
            have B1 : Hid (bt m u = true) := Lib.hid hb1
            clear hb1
            have B3 : Hid (bt v m = true) := Lib.hid hb3
            clear hb3
            subst hf
            go_upto_region 8 with (go_at_fn lf; refine (HBT.out _ _ _).mono ?_; rintro e wx ⟨rfl, rfl⟩; (first | rw [B1.out] | rw [B2.out] | rw [B3.out]))
            have hfsA : Fr [w.heap.size + 1] w1 (w1.setCell ⟨w.heap.size + 1, 1, none⟩ (.int .i64 v)) := (Fr.refl _ _).setCell (.inl (by simp)) _
            have HRA : Hid (Blk (w1.setCell ⟨w.heap.size + 1, 1, none⟩ (.int .i64 v)) (w.heap.size + 1) 37 #[.slice X n cap, .int .i64 v, .bool true]) := Lib.hid (HR.out.set_ 1 _)
            have HZA := Lib.hid (HZ.out.fr hfsA (by simp))
            have FA := Lib.hid (F0.out.trans' hfsA (by simp))
            clear hfsA
            generalize w1.setCell ⟨w.heap.size + 1, 1, none⟩ (.int .i64 v) = w2 at *
            have x2 := HRA.out.cell 2
            have x3 := HRA.out.frozen 2
            go_upto_region 9 with (go_at_fn lf; refine (HBT.out _ _ _).mono ?_; rintro e wx ⟨rfl, rfl⟩; (first | rw [B1.out] | rw [B2.out] | rw [B3.out]))
            have hfsB : Fr [w.heap.size + 1] w2 (w2.setCell ⟨w.heap.size + 1, 2, none⟩ (.bool true)) := (Fr.refl _ _).setCell (.inl (by simp)) _
            have HRB : Hid (Blk (w2.setCell ⟨w.heap.size + 1, 2, none⟩ (.bool true)) (w.heap.size + 1) 37 #[.slice X n cap, .int .i64 v, .bool true]) := Lib.hid (HRA.out.set_ 2 _)
            have HZB := Lib.hid (HZA.out.fr hfsB (by simp))
            have FB := Lib.hid (FA.out.trans' hfsB (by simp))
            clear hfsB
            generalize w2.setCell ⟨w.heap.size + 1, 2, none⟩ (.bool true) = w3 at *
            have HRF := HRB.out
            have HZF := HZB.out
            go_wp2_with (first
              | (refine wpList_load_row rfl _ _ rfl (w.heap.size + 1) rfl 37 _ (0, 0) _ HRF Tryz.underlying37 rfl (by kernel_rfl) ?_)
              | (refine wpList_store_blk rfl _ _ _ rfl (w.heap.size + 1 + 1) #[.slice X n cap, .int .i64 v, .bool true] rfl rfl 37 _ HZF (by kernel_rfl) rfl rfl ?_; intro w9 hb9 hf9; have HB9 := Lib.hid hb9; have HF9 := Lib.hid hf9; clear hb9 hf9))
            have q0 := HB9.out.cell 0
            have q1 := HB9.out.cell 1
            have q2 := HB9.out.cell 2
            exact bodyPost_ret (v := .tuple #[.agg #[.slice X n cap, .int .i64 v, .bool true], .bool true]) (by simp [results, Tryz.results101, go_sem, q0, q1, q2]) rfl ⟨by simp only [Option.isSome, HE.out], FB.out.trans' HF9.out (fun i hi => .inr (by rw [List.mem_singleton] at hi; omega))⟩
          | false =>
            have e17 := HB.out.c17
            have e18 := HB.out.c18
            have e19 := HB.out.c19
            have e20 := HB.out.c20
            have r1 := HR.out.cell 1
            have r2 := HR.out.cell 2
            have y1 := HR.out.frozen 1
            have y2 := HR.out.frozen 2
            have g0 := HG.out.cell 0
            have B2 : Hid True := Lib.hid trivial
            have HE : Hid (Pm.extE bt true true f m u v = (m, true, true)) := Lib.hid (by simp [Pm.extE, hf, hb1, hb3])
            have B1 : Hid (bt m u = true) := Lib.hid hb1
            clear hb1
            have B3 : Hid (bt v m = false) := Lib.hid hb3
            clear hb3
            subst hf
            go_upto_region 9 with (go_at_fn lf; refine (HBT.out _ _ _).mono ?_; rintro e wx ⟨rfl, rfl⟩; (first | rw [B1.out] | rw [B2.out] | rw [B3.out]))
            have hfsB : Fr [w.heap.size + 1] w1 (w1.setCell ⟨w.heap.size + 1, 2, none⟩ (.bool true)) := (Fr.refl _ _).setCell (.inl (by simp)) _
            have HRB : Hid (Blk (w1.setCell ⟨w.heap.size + 1, 2, none⟩ (.bool true)) (w.heap.size + 1) 37 #[.slice X n cap, .int .i64 m, .bool true]) := Lib.hid (HR.out.set_ 2 _)
            have HZB := Lib.hid (HZ.out.fr hfsB (by simp))
            have FB := Lib.hid (F0.out.trans' hfsB (by simp))
            clear hfsB
            generalize w1.setCell ⟨w.heap.size + 1, 2, none⟩ (.bool true) = w3 at *
            have HRF := HRB.out
            have HZF := HZB.out
            go_wp2_with (first
              | (refine wpList_load_row rfl _ _ rfl (w.heap.size + 1) rfl 37 _ (0, 0) _ HRF Tryz.underlying37 rfl (by kernel_rfl) ?_)
              | (refine wpList_store_blk rfl _ _ _ rfl (w.heap.size + 1 + 1) #[.slice X n cap, .int .i64 m, .bool true] rfl rfl 37 _ HZF (by kernel_rfl) rfl rfl ?_; intro w9 hb9 hf9; have HB9 := Lib.hid hb9; have HF9 := Lib.hid hf9; clear hb9 hf9))
            have q0 := HB9.out.cell 0
            have q1 := HB9.out.cell 1
            have q2 := HB9.out.cell 2
            exact bodyPost_ret (v := .tuple #[.agg #[.slice X n cap, .int .i64 m, .bool true], .bool true]) (by simp [results, Tryz.results101, go_sem, q0, q1, q2]) rfl ⟨by simp only [Option.isSome, HE.out], FB.out.trans' HF9.out (fun i hi => .inr (by rw [List.mem_singleton] at hi; omega))⟩
        | false =>
          cases hb2 : bt m v with
          | true =>
            have e17 := HB.out.c17
            have e18 := HB.out.c18
            have e19 := HB.out.c19
            have e20 := HB.out.c20
            have r1 := HR.out.cell 1
            have r2 := HR.out.cell 2
            have y1 := HR.out.frozen 1
            have y2 := HR.out.frozen 2
            have g0 := HG.out.cell 0
            have B3 : Hid True := Lib.hid trivial
            have HE : Hid (Pm.extE bt true true f m u v = (v, f, false)) := Lib.hid (by simp [Pm.extE, hf, hb1, hb2])
            have B1 : Hid (bt m u = false) := Lib.hid hb1
            clear hb1
            have B2 : Hid (bt m v = true) := Lib.hid hb2
            clear hb2
            subst hf
            go_upto_region 4 with (go_at_fn lf; refine (HBT.out _ _ _).mono ?_; rintro e wx ⟨rfl, rfl⟩; (first | rw [B1.out] | rw [B2.out] | rw [B3.out]))
            have hfsA : Fr [w.heap.size + 1] w1 (w1.setCell ⟨w.heap.size + 1, 1, none⟩ (.int .i64 v)) := (Fr.refl _ _).setCell (.inl (by simp)) _
            have HRA : Hid (Blk (w1.setCell ⟨w.heap.size + 1, 1, none⟩ (.int .i64 v)) (w.heap.size + 1) 37 #[.slice X n cap, .int .i64 v, .bool true]) := Lib.hid (HR.out.set_ 1 _)
            have HZA := Lib.hid (HZ.out.fr hfsA (by simp))
            have FA := Lib.hid (F0.out.trans' hfsA (by simp))
            clear hfsA
            generalize w1.setCell ⟨w.heap.size + 1, 1, none⟩ (.int .i64 v) = w2 at *
            have HRF := HRA.out
            have HZF := HZA.out
            go_wp2_with (first
              | (refine wpList_load_row rfl _ _ rfl (w.heap.size + 1) rfl 37 _ (0, 0) _ HRF Tryz.underlying37 rfl (by kernel_rfl) ?_)
              | (refine wpList_store_blk rfl _ _ _ rfl (w.heap.size + 1 + 1) #[.slice X n cap, .int .i64 v, .bool true] rfl rfl 37 _ HZF (by kernel_rfl) rfl rfl ?_; intro w9 hb9 hf9; have HB9 := Lib.hid hb9; have HF9 := Lib.hid hf9; clear hb9 hf9))
            have q0 := HB9.out.cell 0
            have q1 := HB9.out.cell 1
            have q2 := HB9.out.cell 2
            exact bodyPost_ret (v := .tuple #[.agg #[.slice X n cap, .int .i64 v, .bool true], .bool false]) (by simp [results, Tryz.results101, go_sem, q0, q1, q2]) rfl ⟨by simp only [Option.isSome, HE.out], FA.out.trans' HF9.out (fun i hi => .inr (by rw [List.mem_singleton] at hi; omega))⟩
          | false =>
            have e17 := HB.out.c17
            have e18 := HB.out.c18
            have e19 := HB.out.c19
            have e20 := HB.out.c20
            have r1 := HR.out.cell 1
            have r2 := HR.out.cell 2
            have y1 := HR.out.frozen 1
            have y2 := HR.out.frozen 2
            have g0 := HG.out.cell 0
            have B3 : Hid True := Lib.hid trivial
            have HE : Hid (Pm.extE bt true true f m u v = (v, f, true)) := Lib.hid (by simp [Pm.extE, hf, hb1, hb2])
            have B1 : Hid (bt m u = false) := Lib.hid hb1
            clear hb1
            have B2 : Hid (bt m v = false) := Lib.hid hb2
            clear hb2
            subst hf
            go_upto_region 4 with (go_at_fn lf; refine (HBT.out _ _ _).mono ?_; rintro e wx ⟨rfl, rfl⟩; (first | rw [B1.out] | rw [B2.out] | rw [B3.out]))
            have hfsA : Fr [w.heap.size + 1] w1 (w1.setCell ⟨w.heap.size + 1, 1, none⟩ (.int .i64 v)) := (Fr.refl _ _).setCell (.inl (by simp)) _
            have HRA : Hid (Blk (w1.setCell ⟨w.heap.size + 1, 1, none⟩ (.int .i64 v)) (w.heap.size + 1) 37 #[.slice X n cap, .int .i64 v, .bool true]) := Lib.hid (HR.out.set_ 1 _)
            have HZA := Lib.hid (HZ.out.fr hfsA (by simp))
            have FA := Lib.hid (F0.out.trans' hfsA (by simp))
            clear hfsA
            generalize w1.setCell ⟨w.heap.size + 1, 1, none⟩ (.int .i64 v) = w2 at *
            have HRF := HRA.out
            have HZF := HZA.out
            go_wp2_with (first
              | (refine wpList_load_row rfl _ _ rfl (w.heap.size + 1) rfl 37 _ (0, 0) _ HRF Tryz.underlying37 rfl (by kernel_rfl) ?_)
              | (refine wpList_store_blk rfl _ _ _ rfl (w.heap.size + 1 + 1) #[.slice X n cap, .int .i64 v, .bool true] rfl rfl 37 _ HZF (by kernel_rfl) rfl rfl ?_; intro w9 hb9 hf9; have HB9 := Lib.hid hb9; have HF9 := Lib.hid hf9; clear hb9 hf9))
            have q0 := HB9.out.cell 0
            have q1 := HB9.out.cell 1
            have q2 := HB9.out.cell 2
            exact bodyPost_ret (v := .tuple #[.agg #[.slice X n cap, .int .i64 v, .bool true], .bool true]) (by simp [results, Tryz.results101, go_sem, q0, q1, q2]) rfl ⟨by simp only [Option.isSome, HE.out], FA.out.trans' HF9.out (fun i hi => .inr (by rw [List.mem_singleton] at hi; omega))⟩
      | false =>
        have e17 := HB.out.c17
        have e18 := HB.out.c18
        have e19 := HB.out.c19
        have e20 := HB.out.c20
        have r1 := HR.out.cell 1
        have r2 := HR.out.cell 2
        have y1 := HR.out.frozen 1
        have y2 := HR.out.frozen 2
        have g0 := HG.out.cell 0
        have B1 : Hid True := Lib.hid trivial
        have B2 : Hid True := Lib.hid trivial
        have B3 : Hid True := Lib.hid trivial
        have HE : Hid (Pm.extE bt true true f m u v = (v, f, false)) := Lib.hid (by simp [Pm.extE, hf])
        subst hf
        go_upto_region 4 with (go_at_fn lf; refine (HBT.out _ _ _).mono ?_; rintro e wx ⟨rfl, rfl⟩; (first | rw [B1.out] | rw [B2.out] | rw [B3.out]))
        have hfsA : Fr [w.heap.size + 1] w1 (w1.setCell ⟨w.heap.size + 1, 1, none⟩ (.int .i64 v)) := (Fr.refl _ _).setCell (.inl (by simp)) _
        have HRA : Hid (Blk (w1.setCell ⟨w.heap.size + 1, 1, none⟩ (.int .i64 v)) (w.heap.size + 1) 37 #[.slice X n cap, .int .i64 v, .bool false]) := Lib.hid (HR.out.set_ 1 _)
        have HZA := Lib.hid (HZ.out.fr hfsA (by simp))
        have FA := Lib.hid (F0.out.trans' hfsA (by simp))
        clear hfsA
        generalize w1.setCell ⟨w.heap.size + 1, 1, none⟩ (.int .i64 v) = w2 at *
        have HRF := HRA.out
        have HZF := HZA.out
        go_wp2_with (first
          | (refine wpList_load_row rfl _ _ rfl (w.heap.size + 1) rfl 37 _ (0, 0) _ HRF Tryz.underlying37 rfl (by kernel_rfl) ?_)
          | (refine wpList_store_blk rfl _ _ _ rfl (w.heap.size + 1 + 1) #[.slice X n cap, .int .i64 v, .bool false] rfl rfl 37 _ HZF (by kernel_rfl) rfl rfl ?_; intro w9 hb9 hf9; have HB9 := Lib.hid hb9; have HF9 := Lib.hid hf9; clear hb9 hf9))
        have q0 := HB9.out.cell 0
        have q1 := HB9.out.cell 1
        have q2 := HB9.out.cell 2
        exact bodyPost_ret (v := .tuple #[.agg #[.slice X n cap, .int .i64 v, .bool false], .bool false]) (by simp [results, Tryz.results101, go_sem, q0, q1, q2]) rfl ⟨by simp only [Option.isSome, HE.out], FA.out.trans' HF9.out (fun i hi => .inr (by rw [List.mem_singleton] at hi; omega))⟩
end Go.Proofs.YthiaaminkfkjpaaGreat

/-
  Patch.
-/
import Derived.Test.YtciaallekkdnhaaGreatJu
namespace Go.Proofs.YtciaallekkdnhaaGreat
open Go.RowKit

/-- What Patch leaves. -/
def PP (w w' : World) (J : Option Res) (A : Option Addr) (n : Nat) (m : Int) (f k : Bool) (b : Nat) : Prop :=
  (k = true → ∃ L', J = some ⟨L', m, f⟩ ∧ AtL RowV.cells 5 w' A L' ∧ n = L'.length ∧ n ≤ b) ∧ (k = false → J = none ∧ A = none ∧ n = 0 ∧ m = 0 ∧ f = false) ∧ Fr [] w w'
theorem AtL.ne_small {w w' : World} {A : Option Addr} {L : List RowV} {g t : Nat} {cs : Array Value} (h : AtL RowV.cells 5 w A L) (hb : Blk w g t cs) (hs : cs.size ≤ 4) (hf : Fr [g] w w') : AtL RowV.cells 5 w' A L := by
  intro hl
  obtain ⟨b, off, e, hlt, hc⟩ := h hl
  have hne : b ≠ g := fun e2 => by
    subst e2
    have h1 := hc 0 hl 4 (by decide)
    rw [hb.cell, Array.getElem?_eq_none (by omega)] at h1
    have h2 : (RowV.cells L[0])[4]? = some (.int .i64 L[0].z) := rfl
    rw [h2] at h1
    cases h1
  refine ⟨b, off, e, Nat.lt_of_lt_of_le hlt hf.size, fun i hi j hj => ?_⟩
  rw [hf.cell (p := ⟨b, off + i * 5 + j, none⟩) hlt (by simpa using hne)]
  exact hc i hi j hj
theorem PK.move {w W w' : World} {J : Option Res} {A : Option Addr} {n : Nat} {m : Int} {f k : Bool} {b g t : Nat} {cs : Array Value} (h : PK w W J A n m f k b) (hb : Blk W g t cs) (hs : cs.size ≤ 4) (hf : Fr [g] W w') (hg : w.heap.size ≤ g) : PK w w' J A n m f k b :=
  ⟨fun hk => by
    obtain ⟨L', e1, e2, e3, e4⟩ := h.1 hk
    exact ⟨L', e1, e2.ne_small hb hs hf, e3, e4⟩, h.2.1, h.2.2.trans' hf (fun i hi => .inr (by rw [List.mem_singleton] at hi; omega))⟩
theorem PK.fr0 {w W w' : World} {J : Option Res} {A : Option Addr} {n : Nat} {m : Int} {f k : Bool} {b : Nat} (h : PK w W J A n m f k b) (hf : Fr [] W w') : PK w w' J A n m f k b :=
  ⟨fun hk => by
    obtain ⟨L', e1, e2, e3, e4⟩ := h.1 hk
    exact ⟨L', e1, e2.fr0 hf, e3, e4⟩, h.2.1, h.2.2.trans hf⟩
theorem PK.from_ {w W w' : World} {J J' : Option Res} {A : Option Addr} {n : Nat} {m : Int} {f k : Bool} {b b' : Nat} (h : PK W w' J A n m f k b) (hw : Fr [] w W) (hj : J' = J) (hb : b = b') : PK w w' J' A n m f k b' := by
  subst hj
  subst hb
  exact ⟨h.1, h.2.1, hw.trans h.2.2⟩
theorem cells3 {W : World} {g t : Nat} {a b c : Value} (h : Blk W g t #[a, b, c]) : W.cell? ⟨g, 0, none⟩ = some a ∧ W.cell? ⟨g, 1, none⟩ = some b ∧ W.cell? ⟨g, 2, none⟩ = some c := ⟨h.cell 0, h.cell 1, h.cell 2⟩
/-- A result in memory that is written anew. -/
theorem set3 {W : World} {g : Nat} {v v' : Value} {m m' : Int} {f f' : Bool} (h : Blk W g 71 #[v, .int .i64 m, .bool f]) : Blk (((W.setCell ⟨g, 0, none⟩ v').setCell ⟨g, 1, none⟩ (.int .i64 m')).setCell ⟨g, 2, none⟩ (.bool f')) g 71 #[v', .int .i64 m', .bool f'] ∧ Fr [g] W (((W.setCell ⟨g, 0, none⟩ v').setCell ⟨g, 1, none⟩ (.int .i64 m')).setCell ⟨g, 2, none⟩ (.bool f')) :=
  ⟨((h.set_ 0 v').set_ 1 _).set_ 2 _, (((Fr.refl [g] W).setCell (.inl (by simp)) _).setCell (.inl (by simp)) _).setCell (.inl (by simp)) _⟩
set_option maxRecDepth 100000 in
set_option maxHeartbeats 8000000 in
theorem patch_any (q : Qry) (c : Chg) (hok : okI q.kind) (X : Option Addr) (n cap : Nat) (m : Int) (f : Bool) (L : List RowV) (w : World) (hx : AtL RowV.cells 5 w X L) (hn : n = L.length) (hl : n ≤ 50000) (hm1 : -4000000000000000000 ≤ m) (hm2 : m ≤ 4000000000000000000) :
    Calls Tryz.prog 56 #[q.val, .agg #[.slice X n cap, .int .i64 m, .bool f], c.val] w fun e w' => ∃ A' n' c' m' f' k, e = .returned (.tuple #[.agg #[.slice A' n' c', .int .i64 m', .bool f'], .bool k]) ∧ PP w w' (Pm.patch q ⟨L, m, f⟩ c) A' n' m' f' k (n + 2) := by
  have F0 : Hid (Fr [] w ((((w.alloc (.cells #[.int .i64 q.kind, .int .i64 q.table, .int .i64 q.column, .int .i64 q.low, .int .i64 q.high, .int .i64 q.by_, .int .i64 q.other] 35)).alloc (.cells #[.slice X n cap, .int .i64 m, .bool f] 71)).alloc (.cells #[.int .i64 c.t, .int .i64 c.k, .bool c.had, .int .i64 c.o0, .int .i64 c.o1, .int .i64 c.o2, .bool c.has, .int .i64 c.n0, .int .i64 c.n1, .int .i64 c.n2] 59)).alloc (.cells #[.slice none 0 0, .int .i64 0, .bool false] 71))) := Lib.hid (((((Fr.refl _ _).alloc _).alloc _).alloc _).alloc _)
  have HQ : Hid (QAt ((((w.alloc (.cells #[.int .i64 q.kind, .int .i64 q.table, .int .i64 q.column, .int .i64 q.low, .int .i64 q.high, .int .i64 q.by_, .int .i64 q.other] 35)).alloc (.cells #[.slice X n cap, .int .i64 m, .bool f] 71)).alloc (.cells #[.int .i64 c.t, .int .i64 c.k, .bool c.had, .int .i64 c.o0, .int .i64 c.o1, .int .i64 c.o2, .bool c.has, .int .i64 c.n0, .int .i64 c.n1, .int .i64 c.n2] 59)).alloc (.cells #[.slice none 0 0, .int .i64 0, .bool false] 71)) w.heap.size q) := Lib.hid (Blk.alloc (Blk.alloc (Blk.alloc (QAt.new w q) _) _) _)
  have hr := Blk.new (w.alloc (.cells #[.int .i64 q.kind, .int .i64 q.table, .int .i64 q.column, .int .i64 q.low, .int .i64 q.high, .int .i64 q.by_, .int .i64 q.other] 35)) 71 #[.slice X n cap, .int .i64 m, .bool f]
  rw [World.size_alloc] at hr
  have HR : Hid (Blk ((((w.alloc (.cells #[.int .i64 q.kind, .int .i64 q.table, .int .i64 q.column, .int .i64 q.low, .int .i64 q.high, .int .i64 q.by_, .int .i64 q.other] 35)).alloc (.cells #[.slice X n cap, .int .i64 m, .bool f] 71)).alloc (.cells #[.int .i64 c.t, .int .i64 c.k, .bool c.had, .int .i64 c.o0, .int .i64 c.o1, .int .i64 c.o2, .bool c.has, .int .i64 c.n0, .int .i64 c.n1, .int .i64 c.n2] 59)).alloc (.cells #[.slice none 0 0, .int .i64 0, .bool false] 71)) (w.heap.size + 1) 71 #[.slice X n cap, .int .i64 m, .bool f]) := Lib.hid ((hr.alloc _).alloc _)
  have hc := Blk.new ((w.alloc (.cells #[.int .i64 q.kind, .int .i64 q.table, .int .i64 q.column, .int .i64 q.low, .int .i64 q.high, .int .i64 q.by_, .int .i64 q.other] 35)).alloc (.cells #[.slice X n cap, .int .i64 m, .bool f] 71)) 59 #[.int .i64 c.t, .int .i64 c.k, .bool c.had, .int .i64 c.o0, .int .i64 c.o1, .int .i64 c.o2, .bool c.has, .int .i64 c.n0, .int .i64 c.n1, .int .i64 c.n2]
  rw [World.size_alloc, World.size_alloc] at hc
  have HC : Hid (Blk ((((w.alloc (.cells #[.int .i64 q.kind, .int .i64 q.table, .int .i64 q.column, .int .i64 q.low, .int .i64 q.high, .int .i64 q.by_, .int .i64 q.other] 35)).alloc (.cells #[.slice X n cap, .int .i64 m, .bool f] 71)).alloc (.cells #[.int .i64 c.t, .int .i64 c.k, .bool c.had, .int .i64 c.o0, .int .i64 c.o1, .int .i64 c.o2, .bool c.has, .int .i64 c.n0, .int .i64 c.n1, .int .i64 c.n2] 59)).alloc (.cells #[.slice none 0 0, .int .i64 0, .bool false] 71)) (w.heap.size + 1 + 1) 59 #[.int .i64 c.t, .int .i64 c.k, .bool c.had, .int .i64 c.o0, .int .i64 c.o1, .int .i64 c.o2, .bool c.has, .int .i64 c.n0, .int .i64 c.n1, .int .i64 c.n2]) := Lib.hid (hc.alloc _)
  have hz := Blk.new (((w.alloc (.cells #[.int .i64 q.kind, .int .i64 q.table, .int .i64 q.column, .int .i64 q.low, .int .i64 q.high, .int .i64 q.by_, .int .i64 q.other] 35)).alloc (.cells #[.slice X n cap, .int .i64 m, .bool f] 71)).alloc (.cells #[.int .i64 c.t, .int .i64 c.k, .bool c.had, .int .i64 c.o0, .int .i64 c.o1, .int .i64 c.o2, .bool c.has, .int .i64 c.n0, .int .i64 c.n1, .int .i64 c.n2] 59)) 71 #[.slice none 0 0, .int .i64 0, .bool false]
  rw [World.size_alloc, World.size_alloc, World.size_alloc] at hz
  have HZ := Lib.hid hz
  have HX := Lib.hid (hx.fr0 F0.out)
  have HN := Lib.hid hn
  have HL := Lib.hid hl
  have HM : Hid (-4000000000000000000 ≤ m ∧ m ≤ 4000000000000000000) := Lib.hid ⟨hm1, hm2⟩
  have HOK := Lib.hid hok
  have HT := Lib.hid (touches_any q c hok)
  have HEF := Lib.hid (effectOf_any q c)
  clear hr hc hz hx hn hm1 hm2 hok hl
  obtain ⟨JJ, HJJ⟩ : ∃ l, Hid (Pm.patch q ⟨L, m, f⟩ c = l) := ⟨_, Lib.hid rfl⟩
  rw [HJJ.out]
  obtain ⟨T, hT⟩ : ∃ t, Pm.touches q c = t := ⟨_, rfl⟩
  rw [hT] at HT
  have HTT := Lib.hid hT
  clear hT
  go_enter Tryz.func56, Tryz.ntmps56
  go_upto_region 1 with (fail)
  generalize ((((w.alloc (.cells #[.int .i64 q.kind, .int .i64 q.table, .int .i64 q.column, .int .i64 q.low, .int .i64 q.high, .int .i64 q.by_, .int .i64 q.other] 35)).alloc (.cells #[.slice X n cap, .int .i64 m, .bool f] 71)).alloc (.cells #[.int .i64 c.t, .int .i64 c.k, .bool c.had, .int .i64 c.o0, .int .i64 c.o1, .int .i64 c.o2, .bool c.has, .int .i64 c.n0, .int .i64 c.n1, .int .i64 c.n2] 59)).alloc (.cells #[.slice none 0 0, .int .i64 0, .bool false] 71)) = w1 at *
  have c0 : w1.cell? ⟨w.heap.size + 1, 0, none⟩ = some (.slice X n cap) := HR.out.cell 0
  have HCL := Lib.hid (rowClone_any X n cap L w1 HX.out HN.out (Nat.le_trans HL.out (by decide)))
  have HB1 : Hid (w.heap.size + 4 ≤ w1.heap.size) := Lib.hid (by have := HZ.out.lt; omega)
  go_upto_region 2 with (go_at_call 55; refine HCL.out.mono ?_; rintro e w2 ⟨v, rfl, ho, hf, hg⟩; obtain ⟨A1, n1, c1, hv, hn1⟩ := own_val ho; subst hv; have HO2 := Lib.hid ho; have F2 := Lib.hid hf; have HG2 : Hid (∀ ad, A1 = some ad → w.heap.size + 4 ≤ ad.block) := Lib.hid (fun ad ha => Nat.le_trans HB1.out (hg _ (sliceB_own ho ha))); have HN1 := Lib.hid hn1; have z0 := (HR.out.fr hf (by simp)).frozen 0; have d0 := (HR.out.fr hf (by simp)).cell 0; clear ho hf hg hn1)
  clear z0 d0 c0 HCL
  have hfs : Fr [w.heap.size + 1] w2 (w2.setCell ⟨w.heap.size + 1, 0, none⟩ (.slice A1 n1 c1)) := (Fr.refl _ _).setCell (.inl (by simp)) _
  have HR5 : Hid (Blk (w2.setCell ⟨w.heap.size + 1, 0, none⟩ (.slice A1 n1 c1)) (w.heap.size + 1) 71 #[.slice A1 n1 c1, .int .i64 m, .bool f]) := Lib.hid ((HR.out.fr F2.out (by simp)).set_ 0 _)
  have HQ5 := Lib.hid ((HQ.out.fr F2.out (by simp)).fr hfs (by rw [List.mem_singleton]; omega))
  have HC5 := Lib.hid ((HC.out.fr F2.out (by simp)).fr hfs (by rw [List.mem_singleton]; omega))
  have HZ5 := Lib.hid ((HZ.out.fr F2.out (by simp)).fr hfs (by rw [List.mem_singleton]; omega))
  have HO5 := Lib.hid (HO2.out.fr hfs (fun g hg => by obtain ⟨ad, h1, h2⟩ := mem_sliceB.1 (own_sliceB hg); have := HG2.out ad h1; simp; omega))
  have FA := Lib.hid ((F0.out.trans F2.out).trans' hfs (by simp))
  have HB5 : Hid (w.heap.size + 4 ≤ (w2.setCell ⟨w.heap.size + 1, 0, none⟩ (.slice A1 n1 c1)).heap.size) := Lib.hid (Nat.le_trans HB1.out (Nat.le_trans F2.out.size hfs.size))
  clear hfs HR HZ HC HQ HO2 F0 F2 HX HB1
  generalize w2.setCell ⟨w.heap.size + 1, 0, none⟩ (.slice A1 n1 c1) = w5 at *
  have HAT : Hid (∀ W, Fr [] w5 W → AtL RowV.cells 5 W A1 L ∧ n1 = L.length) := Lib.hid (fun W hf => (HO5.out.fr hf (by simp)).at1 RowV.cells_len)
  have hq5 : Blk w5 w.heap.size 35 #[.int .i64 q.kind, .int .i64 q.table, .int .i64 q.column, .int .i64 q.low, .int .i64 q.high, .int .i64 q.by_, .int .i64 q.other] := HQ5.out
  have hc5 := HC5.out
  cases T with
  | false =>
    go_upto_region 3 with (first
      | (refine wpList_load_row rfl _ _ rfl w.heap.size rfl 35 _ (0, 0) _ hq5 Tryz.underlying35 rfl (by kernel_rfl) ?_)
      | (refine wpList_load_row rfl _ _ rfl (w.heap.size + 1 + 1) rfl 59 _ (0, 0) _ hc5 Tryz.underlying59 rfl (by kernel_rfl) ?_)
      | (go_at_call 25; refine (HT.out w5).mono ?_; rintro e w6 ⟨rfl, f6⟩; have F6 := Lib.hid f6; clear f6))
    clear hq5 hc5
    have HE : Hid (JJ = some ⟨L, m, f⟩) := Lib.hid (by rw [← HJJ.out]; unfold Pm.patch; rw [HTT.out]; rfl)
    have HRF := HR5.out.fr F6.out (by simp)
    have HZF := HZ5.out.fr F6.out (by simp)
    go_wp2_with (first
      | (refine wpList_load_row rfl _ _ rfl (w.heap.size + 1) rfl 71 _ (0, 0) _ HRF Tryz.underlying71 rfl (by kernel_rfl) ?_)
      | (refine wpList_store_blk rfl _ _ _ rfl (w.heap.size + 1 + 1 + 1) #[.slice A1 n1 c1, .int .i64 m, .bool f] rfl rfl 71 _ HZF (by kernel_rfl) rfl rfl ?_; intro w9 hb9 hf9; have HB9 := Lib.hid hb9; have HF9 := Lib.hid hf9; clear hb9 hf9))
    have q0 := HB9.out.cell 0
    have q1 := HB9.out.cell 1
    have q2 := HB9.out.cell 2
    refine bodyPost_ret (v := .tuple #[.agg #[.slice A1 n1 c1, .int .i64 m, .bool f], .bool true]) (by simp [results, Tryz.results56, go_sem, q0, q1, q2]) rfl ⟨_, _, _, _, _, _, rfl, fun _ => ⟨L, HE.out, ?_, (HAT.out w5 (Fr.refl _ _)).2, ?_⟩, fun h => (by cases h), (FA.out.trans F6.out).trans' HF9.out (fun i hi => .inr (by rw [List.mem_singleton] at hi; omega))⟩
    · refine (HAT.out w6 F6.out).1.fr HF9.out (fun ad ha => ?_)
      have := HG2.out ad ha
      simp
      omega
    · rw [(HAT.out w5 (Fr.refl _ _)).2, HN.out]
      omega
  | true =>
    go_upto_region 4 with (first
      | (refine wpList_load_row rfl _ _ rfl w.heap.size rfl 35 _ (0, 0) _ hq5 Tryz.underlying35 rfl (by kernel_rfl) ?_)
      | (refine wpList_load_row rfl _ _ rfl (w.heap.size + 1 + 1) rfl 59 _ (0, 0) _ hc5 Tryz.underlying59 rfl (by kernel_rfl) ?_)
      | (go_at_call 25; refine (HT.out w5).mono ?_; rintro e w6 ⟨rfl, f6⟩; have F6 := Lib.hid f6; clear f6))
    clear hq5 hc5
    have hv : Em.valid q = true ∧ Rw.chg c = true := by
      have h := HTT.out
      simp only [Pm.touches, Bool.and_eq_true] at h
      exact ⟨h.1, h.2.1⟩
    have HE : Hid (JJ = Pm.pk q ⟨L, m, f⟩ c) := Lib.hid (by rw [← HJJ.out]; unfold Pm.patch; rw [if_pos HTT.out])
    have HCH : Hid (Rw.chg c = true) := Lib.hid hv.2
    obtain ⟨nf, eg, hM⟩ := kindP hv.1
    have HMM := Lib.hid hM
    clear hv hM HT
    have F5 := Lib.hid (FA.out.trans F6.out)
    replace HQ5 := Lib.hid (HQ5.out.fr F6.out (by simp))
    replace HC5 := Lib.hid (HC5.out.fr F6.out (by simp))
    replace HR5 := Lib.hid (HR5.out.fr F6.out (by simp))
    replace HZ5 := Lib.hid (HZ5.out.fr F6.out (by simp))
    replace HAT : Hid (∀ W, Fr [] w6 W → AtL RowV.cells 5 W A1 L ∧ n1 = L.length) := Lib.hid (fun W hf => HAT.out W (F6.out.trans hf))
    replace HB5 : Hid (w.heap.size + 4 ≤ w6.heap.size) := Lib.hid (Nat.le_trans HB5.out F6.out.size)
    clear F6 FA HO5 HG2
    have HN5 : Hid (n1 ≤ 50000) := Lib.hid (by rw [(HAT.out w6 (Fr.refl _ _)).2, ← HN.out]; exact HL.out)
    have HNB : Hid (n1 + 2 = n + 2) := Lib.hid (by rw [(HAT.out w6 (Fr.refl _ _)).2, ← HN.out])
    have HS : Hid (∀ W, Fr [] w6 W → W.cell? ⟨w.heap.size, 0, none⟩ = some (.int .i64 q.kind) ∧ W.cell? ⟨w.heap.size, 1, none⟩ = some (.int .i64 q.table) ∧ W.cell? ⟨w.heap.size, 2, none⟩ = some (.int .i64 q.column) ∧ W.cell? ⟨w.heap.size, 3, none⟩ = some (.int .i64 q.low) ∧ W.cell? ⟨w.heap.size, 4, none⟩ = some (.int .i64 q.high) ∧ W.cell? ⟨w.heap.size, 5, none⟩ = some (.int .i64 q.by_) ∧ W.cell? ⟨w.heap.size, 6, none⟩ = some (.int .i64 q.other) ∧ W.cell? ⟨w.heap.size + 1 + 1, 0, none⟩ = some (.int .i64 c.t) ∧ W.cell? ⟨w.heap.size + 1 + 1, 1, none⟩ = some (.int .i64 c.k) ∧ W.cell? ⟨w.heap.size + 1 + 1, 2, none⟩ = some (.bool c.had) ∧ W.cell? ⟨w.heap.size + 1 + 1, 3, none⟩ = some (.int .i64 c.o0) ∧ W.cell? ⟨w.heap.size + 1 + 1, 4, none⟩ = some (.int .i64 c.o1) ∧ W.cell? ⟨w.heap.size + 1 + 1, 5, none⟩ = some (.int .i64 c.o2) ∧ W.cell? ⟨w.heap.size + 1 + 1, 6, none⟩ = some (.bool c.has) ∧ W.cell? ⟨w.heap.size + 1 + 1, 7, none⟩ = some (.int .i64 c.n0) ∧ W.cell? ⟨w.heap.size + 1 + 1, 8, none⟩ = some (.int .i64 c.n1) ∧ W.cell? ⟨w.heap.size + 1 + 1, 9, none⟩ = some (.int .i64 c.n2) ∧ W.cell? ⟨w.heap.size + 1, 0, none⟩ = some (.slice A1 n1 c1) ∧ W.cell? ⟨w.heap.size + 1, 1, none⟩ = some (.int .i64 m) ∧ W.cell? ⟨w.heap.size + 1, 2, none⟩ = some (.bool f)) := Lib.hid (fun W hf => ⟨(HQ5.out.fr hf (by simp)).c0, (HQ5.out.fr hf (by simp)).c1, (HQ5.out.fr hf (by simp)).c2, (HQ5.out.fr hf (by simp)).c3, (HQ5.out.fr hf (by simp)).c4, (HQ5.out.fr hf (by simp)).c5, (HQ5.out.fr hf (by simp)).c6, (HC5.out.fr hf (by simp)).cell 0, (HC5.out.fr hf (by simp)).cell 1, (HC5.out.fr hf (by simp)).cell 2, (HC5.out.fr hf (by simp)).cell 3, (HC5.out.fr hf (by simp)).cell 4, (HC5.out.fr hf (by simp)).cell 5, (HC5.out.fr hf (by simp)).cell 6, (HC5.out.fr hf (by simp)).cell 7, (HC5.out.fr hf (by simp)).cell 8, (HC5.out.fr hf (by simp)).cell 9, (HR5.out.fr hf (by simp)).cell 0, (HR5.out.fr hf (by simp)).cell 1, (HR5.out.fr hf (by simp)).cell 2⟩)
    go_cut [8, 9] (fun p8 p9 wn => ∃ g8 A3 n3 c3 m3 f3 k3, p8 = .pointer (some ⟨g8, 0, none⟩) ∧ p9 = .bool k3 ∧ Hid (Blk wn g8 71 #[.slice A3 n3 c3, .int .i64 m3, .bool f3]) ∧ Hid (PK w6 wn JJ A3 n3 m3 f3 k3 (n + 2)))
    case first =>
      obtain ⟨s0, s1, s2, s3, s4, s5, s6, s7, s8, s9, s10, s11, s12, s13, s14, s15, s16, s17, s18, s19⟩ := HS.out w6 (Fr.refl _ _)
      go_region_held3 (fun W => W.cell? ⟨w.heap.size, 0, none⟩ = some (.int .i64 q.kind) ∧ W.cell? ⟨w.heap.size, 1, none⟩ = some (.int .i64 q.table) ∧ W.cell? ⟨w.heap.size, 2, none⟩ = some (.int .i64 q.column) ∧ W.cell? ⟨w.heap.size, 3, none⟩ = some (.int .i64 q.low) ∧ W.cell? ⟨w.heap.size, 4, none⟩ = some (.int .i64 q.high) ∧ W.cell? ⟨w.heap.size, 5, none⟩ = some (.int .i64 q.by_) ∧ W.cell? ⟨w.heap.size, 6, none⟩ = some (.int .i64 q.other) ∧ W.cell? ⟨w.heap.size + 1 + 1, 0, none⟩ = some (.int .i64 c.t) ∧ W.cell? ⟨w.heap.size + 1 + 1, 1, none⟩ = some (.int .i64 c.k) ∧ W.cell? ⟨w.heap.size + 1 + 1, 2, none⟩ = some (.bool c.had) ∧ W.cell? ⟨w.heap.size + 1 + 1, 3, none⟩ = some (.int .i64 c.o0) ∧ W.cell? ⟨w.heap.size + 1 + 1, 4, none⟩ = some (.int .i64 c.o1) ∧ W.cell? ⟨w.heap.size + 1 + 1, 5, none⟩ = some (.int .i64 c.o2) ∧ W.cell? ⟨w.heap.size + 1 + 1, 6, none⟩ = some (.bool c.has) ∧ W.cell? ⟨w.heap.size + 1 + 1, 7, none⟩ = some (.int .i64 c.n0) ∧ W.cell? ⟨w.heap.size + 1 + 1, 8, none⟩ = some (.int .i64 c.n1) ∧ W.cell? ⟨w.heap.size + 1 + 1, 9, none⟩ = some (.int .i64 c.n2) ∧ W.cell? ⟨w.heap.size + 1, 0, none⟩ = some (.slice A1 n1 c1) ∧ W.cell? ⟨w.heap.size + 1, 1, none⟩ = some (.int .i64 m) ∧ W.cell? ⟨w.heap.size + 1, 2, none⟩ = some (.bool f))
        (first | exact ⟨s0, s1, s2, s3, s4, s5, s6, s7, s8, s9, s10, s11, s12, s13, s14, s15, s16, s17, s18, s19⟩ | exact HS.out _ (Fr.refl [] w6).drew | exact HS.out _ ((Fr.refl [] w6).drew.alloc _) | exact HS.out _ ((Fr.refl [] w6).alloc _).drew | exact HS.out _ KF.out | exact HS.out _ (KF.out.alloc _) | exact HS.out _ EF.out | exact HS.out _ (EF.out.alloc _) | exact HS.out _ TF.out | exact HS.out _ (TF.out.alloc _) | exact HSX.out)
        ((first
          | (go_at_call 44; (with_reducible refine (kinds_any _).mono ?_); rintro e wk ⟨bm, g5, g6, rfl, hvm, hb5, hb6, fv⟩; (first | (have HG8 := Lib.hid ((Blk.new w6 71 #[.slice none 0 0, .int .i64 0, .bool false]).drew.fr fv (by simp)); have KF : Hid (Fr [] w6 wk) := Lib.hid ((((Fr.refl [] w6).alloc (.cells #[.slice none 0 0, .int .i64 0, .bool false] 71)).drew).trans fv)) | (have HG8 := Lib.hid ((Blk.new w6.drew 71 #[.slice none 0 0, .int .i64 0, .bool false]).fr fv (by simp)); have KF : Hid (Fr [] w6 wk) := Lib.hid (((Fr.refl [] w6).drew.alloc (.cells #[.slice none 0 0, .int .i64 0, .bool false] 71)).trans fv)) | (have KF : Hid (Fr [] w6 wk) := Lib.hid ((Fr.refl [] w6).drew.trans fv))); have VK := Lib.hid hvm; obtain ⟨tf, cb, hpp, hpf⟩ := HMM.out g5 g6; have hlk : ∀ W, Fr [] wk W → (Instr.lookup 99 (.map (some bm)) (.int .i64 q.kind) false).run Tryz.prog W = .ok (.agg #[tf, .func (.func nf) #[] cb]) W := (fun W hW => by have h9 := (VK.out.fr hW (by simp)).look tyKind q.kind HOK.out false; rw [hpp] at h9; exact h9); have hk1 := hlk wk (Fr.refl _ _); have hk2 := hlk (wk.alloc (.cells #[.slice none 0 0, .int .i64 0, .bool false] 71)) ((Fr.refl _ _).alloc _); have hfd : ∀ W, (Instr.field 98 (.agg #[tf, .func (.func nf) #[] cb]) 1).run Tryz.prog W = .ok (.func (.func nf) #[] cb) W := (fun W => by kernel_rfl); have HPF : Hid (∀ W, Fr [] wk W → PFun nf cb q W) := Lib.hid (fun W hW => hpf W (hb5.fr hW (by simp)) (hb6.fr hW (by simp))); have HLK := Lib.hid hlk; clear fv hvm hpp hpf hb5 hb6 hlk)
          | (go_at_call 45; (with_reducible refine (HEF.out _).mono ?_); rintro e we ⟨pb, pa, rfl, hpb, hpa, fv⟩; (first | (have HG8 := Lib.hid (HG8.out.fr fv (by simp)); have EK : Hid (Fr [] wk we) := Lib.hid fv) | (have HG8 := Lib.hid ((Blk.new wk 71 #[.slice none 0 0, .int .i64 0, .bool false]).fr fv (by simp)); have EK : Hid (Fr [] wk we) := Lib.hid (((Fr.refl [] wk).alloc _).trans fv)) | (have EK : Hid (Fr [] wk we) := Lib.hid fv)); have EF : Hid (Fr [] w6 we) := Lib.hid (KF.out.trans EK.out); have PB := Lib.hid hpb; have PAA := Lib.hid hpa; have hk3 := HLK.out we EK.out; have hk4 := HLK.out (we.alloc (.cells #[.slice none 0 0, .int .i64 0, .bool false] 71)) (EK.out.alloc (.cells #[.slice none 0 0, .int .i64 0, .bool false] 71)); clear fv hpb hpa)
          | (go_at_fn nf; (first | ((with_reducible refine (HPF.out we EK.out c pb pa (Pm.old q c) (Pm.now q c) A1 n1 c1 m f L rfl rfl (HAT.out _ EF.out).1 (HAT.out _ EF.out).2 HN5.out HM.out.1 HM.out.2 PB.out PAA.out HCH.out).mono ?_); have TK : Hid (Fr [] w6 we) := Lib.hid EF.out) | ((with_reducible refine (HPF.out (we.alloc (.cells #[.slice none 0 0, .int .i64 0, .bool false] 71)) (EK.out.alloc (.cells #[.slice none 0 0, .int .i64 0, .bool false] 71)) c pb pa (Pm.old q c) (Pm.now q c) A1 n1 c1 m f L rfl rfl (HAT.out (we.alloc (.cells #[.slice none 0 0, .int .i64 0, .bool false] 71)) (EF.out.alloc (.cells #[.slice none 0 0, .int .i64 0, .bool false] 71))).1 (HAT.out (we.alloc (.cells #[.slice none 0 0, .int .i64 0, .bool false] 71)) (EF.out.alloc (.cells #[.slice none 0 0, .int .i64 0, .bool false] 71))).2 HN5.out HM.out.1 HM.out.2 (PB.out.fr0 ((Fr.refl [] we).alloc (.cells #[.slice none 0 0, .int .i64 0, .bool false] 71))) (PAA.out.fr0 ((Fr.refl [] we).alloc (.cells #[.slice none 0 0, .int .i64 0, .bool false] 71))) HCH.out).mono ?_); have TK : Hid (Fr [] w6 (we.alloc (.cells #[.slice none 0 0, .int .i64 0, .bool false] 71))) := Lib.hid (EF.out.alloc (.cells #[.slice none 0 0, .int .i64 0, .bool false] 71)))); rintro e wp ⟨A3, n3, c3, m3, f3, k3, rfl, hpk⟩; have TF : Hid (Fr [] w6 wp) := Lib.hid (TK.out.trans hpk.2.2); have PKK := Lib.hid (hpk.from_ TK.out HE.out HNB.out); (first | (have HG8 := Lib.hid (HG8.out.fr hpk.2.2 (by simp))) | (have HG8 := Lib.hid ((Blk.new we 71 #[.slice none 0 0, .int .i64 0, .bool false]).fr hpk.2.2 (by simp))) | skip); (first | (have y0 := HG8.out.frozen 0; have y1 := HG8.out.frozen 1; have y2 := HG8.out.frozen 2; have x0 := (cells3 HG8.out).1; have x1 := (cells3 HG8.out).2.1; have x2 := (cells3 HG8.out).2.2; have H3 := Lib.hid (set3 (v' := .slice A3 n3 c3) (m' := m3) (f' := f3) HG8.out); have HSX := Lib.hid (HS.out _ (TF.out.trans' H3.out.2 (fun i hi => .inr (by rw [List.mem_singleton] at hi; have h1 := EK.out.size; have h2 := KF.out.size; have h0 : w6.drew.heap.size = w6.heap.size := rfl; omega))))) | skip); clear hpk)))
      all_goals
        go_wp2_with fail
        go_meet
        first
          | exact ⟨_, A3, n3, c3, m3, f3, k3, rfl, rfl, Lib.hid H3.out.1, Lib.hid (PKK.out.move HG8.out (by simp) H3.out.2 (by have h1 := EK.out.size; have h2 := KF.out.size; have h0 : w6.drew.heap.size = w6.heap.size := rfl; omega))⟩
          | exact ⟨_, A3, n3, c3, m3, f3, k3, rfl, rfl, Lib.hid (Blk.new _ _ _), Lib.hid (PKK.out.fr0 ((Fr.refl _ _).alloc _))⟩
    case rest =>
    obtain ⟨g8, A3, n3, c3, m3, f3, k3, rfl, rfl, HB8, PKK⟩ := hcut
    have HZF := HZ5.out.fr PKK.out.2.2 (by simp)
    cases k3 with
    | true =>
      have HRF := HB8.out
      obtain ⟨L', e1, e2, e3, e4⟩ := PKK.out.1 rfl
      have HE1 := Lib.hid e1
      have HE2 := Lib.hid e2
      have HE34 := Lib.hid (And.intro e3 e4)
      clear e1 e2 e3 e4
      go_wp2_with (first
        | (refine wpList_load_row rfl _ _ rfl g8 rfl 71 _ (0, 0) _ HRF Tryz.underlying71 rfl (by kernel_rfl) ?_)
        | (refine wpList_store_blk rfl _ _ _ rfl (w.heap.size + 1 + 1 + 1) #[.slice A3 n3 c3, .int .i64 m3, .bool f3] rfl rfl 71 _ HZF (by kernel_rfl) rfl rfl ?_; intro w9 hb9 hf9; have HB9 := Lib.hid hb9; have HF9 := Lib.hid hf9; clear hb9 hf9))
      have q0 := HB9.out.cell 0
      have q1 := HB9.out.cell 1
      have q2 := HB9.out.cell 2
      refine bodyPost_ret (v := .tuple #[.agg #[.slice A3 n3 c3, .int .i64 m3, .bool f3], .bool true]) (by simp [results, Tryz.results56, go_sem, q0, q1, q2]) rfl ⟨_, _, _, _, _, _, rfl, fun _ => ⟨L', HE1.out, ?_, HE34.out.1, HE34.out.2⟩, fun h => (by cases h), (F5.out.trans PKK.out.2.2).trans' HF9.out (fun i hi => .inr (by rw [List.mem_singleton] at hi; omega))⟩
      have hf0 : Fr [(w.heap.size + 1 + 1 + 1)] wc w9 := HF9.out
      exact HE2.out.ne_small HZF (by simp) hf0
    | false =>
      go_wp2_with (first
        | (refine wpList_build_is rfl _ _ rfl #[.slice none 0 0, .int .i64 0, .bool false] (by kernel_rfl) ?_)
        | (refine wpList_store_blk rfl _ _ _ rfl (w.heap.size + 1 + 1 + 1) #[.slice none 0 0, .int .i64 0, .bool false] rfl rfl 71 _ HZF (by kernel_rfl) rfl rfl ?_; intro w9 hb9 hf9; have HB9 := Lib.hid hb9; have HF9 := Lib.hid hf9; clear hb9 hf9))
      have q0 := HB9.out.cell 0
      have q1 := HB9.out.cell 1
      have q2 := HB9.out.cell 2
      refine bodyPost_ret (v := .tuple #[.agg #[.slice none 0 0, .int .i64 0, .bool false], .bool false]) (by simp [results, Tryz.results56, go_sem, q0, q1, q2]) rfl ⟨_, _, _, _, _, _, rfl, fun h => (by cases h), fun _ => ⟨PKK.out.2.1 rfl, rfl, rfl, rfl, rfl⟩, (F5.out.trans PKK.out.2.2).trans' HF9.out (fun i hi => .inr (by rw [List.mem_singleton] at hi; omega))⟩
end Go.Proofs.YtciaallekkdnhaaGreat

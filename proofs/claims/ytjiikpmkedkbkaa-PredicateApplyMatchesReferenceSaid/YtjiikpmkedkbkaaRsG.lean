/-
  Reference 07: Patch.
-/
import Derived.Test.YtjiikpmkedkbkaaRsD
import Derived.Test.YtjiikpmkedkbkaaRsF
import Derived.Test.YtjiikpmkedkbkaaGas
namespace Go.Proofs.Ytjiikpmkedkbkaa
open Go.RowKit

section
variable {w wB wC w9 : World} {J : Option Res} {L' : List RowV} {A : Option Addr} {n b gz tz : Nat} {m : Int} {f k : Bool} {cs : Array Value}
theorem PP.fin (hF : Fr [] w wC) (hA : AtL RowV.cells 5 wC A L') (hz : Blk wC gz tz cs) (hs : cs.size ≤ 4) (hf : Fr [gz] wC w9) (hg : w.heap.size ≤ gz) (hn : n = L'.length) (hb : n ≤ b) (hJ : J = some ⟨L', m, f⟩) : PP w w9 J A n m f true b :=
  ⟨fun _ => ⟨L', hJ, hA.ne_small hz hs hf, hn, hb⟩, fun h => (by cases h), hF.trans' hf (fun i hi => .inr (by rw [List.mem_singleton] at hi; omega))⟩
theorem PP.zero (hF : Fr [] w wC) (hf : Fr [gz] wC w9) (hg : w.heap.size ≤ gz) (hJ : J = none) : PP w w9 J none 0 0 false false b :=
  ⟨fun h => (by cases h), fun _ => ⟨hJ, rfl, rfl, rfl, rfl⟩, hF.trans' hf (fun i hi => .inr (by rw [List.mem_singleton] at hi; omega))⟩
theorem PP.store (h : PP wB wC J A n m f k b) (hF : Fr [] w wB) (hz : Blk wC gz tz cs) (hs : cs.size ≤ 4) (hf : Fr [gz] wC w9) (hg : w.heap.size ≤ gz) : PP w w9 J A n m f k b :=
  ⟨fun hk => by
    obtain ⟨L', h1, h2, h3, h4⟩ := h.1 hk
    exact ⟨L', h1, h2.ne_small hz hs hf, h3, h4⟩, h.2.1, (hF.trans h.2.2).trans' hf (fun i hi => .inr (by rw [List.mem_singleton] at hi; omega))⟩
end
namespace Pm
theorem left_len {q : Qry} {c : Chg} {l l' : List (RowV × RowV)} (h : left q l c = some l') : l'.length ≤ l.length + 1 := by
  have hr : (rest l c).length ≤ l.length := List.length_filter_le _ _
  unfold left at h
  repeat' split at h
  all_goals first | (cases h; done) | (injection h with h; subst h; first | (rw [ins_len]; omega) | omega)
theorem pk1 {q : Qry} (r : Res) (c : Chg) (h : q.kind = 1 ∨ q.kind = 2) : pk q r c = some ⟨rows q r.rows c, r.value, r.found⟩ := by
  unfold pk
  rw [if_neg (by omega), if_neg (by omega), if_neg (by omega), if_neg (by omega)]
theorem pk3 {q : Qry} (r : Res) (c : Chg) (h : q.kind = 3) : pk q r c = some ⟨r.rows, if (A q c).isSome = true then r.value + 1 else r.value - 1, r.found⟩ := by
  unfold pk
  rw [if_pos h]
theorem pk4 {q : Qry} (r : Res) (c : Chg) (h : q.kind = 4) : pk q r c = some ⟨r.rows, r.value + (now q c - old q c), r.found⟩ := by
  unfold pk
  rw [if_neg (by omega), if_pos h]
theorem pk5 {q : Qry} (r : Res) (c : Chg) (h : q.kind = 5 ∨ q.kind = 6) : pk q r c = ext q r c := by
  unfold pk
  rw [if_neg (by omega), if_neg (by omega), if_pos h]
theorem pk7 {q : Qry} (r : Res) (c : Chg) (h : q.kind = 7) : pk q r c = if q.table = q.other then none else (join q (pairs r.rows) c).map fun l => ⟨flat l, r.value, r.found⟩ := by
  unfold pk
  rw [if_neg (by omega), if_neg (by omega), if_neg (by omega), if_pos h]
theorem touched {q : Qry} {c : Chg} (h : touches q c = true) : Em.valid q = true ∧ Rw.chg c = true ∧ tk q c = true := by
  unfold touches at h
  simpa using h
end Pm

set_option maxRecDepth 100000 in
set_option maxHeartbeats 8000000 in
theorem rpatch_any (q : Qry) (c : Chg) (X : Option Addr) (n cap : Nat) (m : Int) (f : Bool) (L : List RowV) (w : World) (hx : AtL RowV.cells 5 w X L) (hn : n = L.length) (hl : n ≤ 50000) (hm1 : -4000000000000000000 ≤ m) (hm2 : m ≤ 4000000000000000000) :
    Calls Try.prog 12 #[q.val, .agg #[.slice X n cap, .int .i64 m, .bool f], c.val] w fun e w' => ∃ A' n' c' m' f' k, e = .returned (.tuple #[.agg #[.slice A' n' c', .int .i64 m', .bool f'], .bool k]) ∧ PP w w' (Pm.patch q ⟨L, m, f⟩ c) A' n' m' f' k (n + 2) := by
  obtain ⟨J, HJJ⟩ : ∃ o, Hid (Pm.patch q ⟨L, m, f⟩ c = o) := ⟨_, Lib.hid rfl⟩
  rw [HJJ.out]
  have HX := Lib.hid hx
  have HN := Lib.hid hn
  have HLN := Lib.hid hl
  have HMB := Lib.hid (And.intro hm1 hm2)
  clear hx hn hl hm1 hm2
  have F0 : Hid (Fr [] w ((((w.alloc (.cells #[.int .i64 q.kind, .int .i64 q.table, .int .i64 q.column, .int .i64 q.low, .int .i64 q.high, .int .i64 q.by_, .int .i64 q.other] 24)).alloc (.cells #[.slice X n cap, .int .i64 m, .bool f] 27)).alloc (.cells #[.int .i64 c.t, .int .i64 c.k, .bool c.had, .int .i64 c.o0, .int .i64 c.o1, .int .i64 c.o2, .bool c.has, .int .i64 c.n0, .int .i64 c.n1, .int .i64 c.n2] 30)).alloc (.cells #[.slice none 0 0, .int .i64 0, .bool false] 27))) := Lib.hid ((((((Fr.refl _ _).alloc _).alloc _).alloc _).alloc _))
  have hbq := Blk.new w 24 #[.int .i64 q.kind, .int .i64 q.table, .int .i64 q.column, .int .i64 q.low, .int .i64 q.high, .int .i64 q.by_, .int .i64 q.other]
  have hqB : Blk ((((w.alloc (.cells #[.int .i64 q.kind, .int .i64 q.table, .int .i64 q.column, .int .i64 q.low, .int .i64 q.high, .int .i64 q.by_, .int .i64 q.other] 24)).alloc (.cells #[.slice X n cap, .int .i64 m, .bool f] 27)).alloc (.cells #[.int .i64 c.t, .int .i64 c.k, .bool c.had, .int .i64 c.o0, .int .i64 c.o1, .int .i64 c.o2, .bool c.has, .int .i64 c.n0, .int .i64 c.n1, .int .i64 c.n2] 30)).alloc (.cells #[.slice none 0 0, .int .i64 0, .bool false] 27)) w.heap.size 24 #[.int .i64 q.kind, .int .i64 q.table, .int .i64 q.column, .int .i64 q.low, .int .i64 q.high, .int .i64 q.by_, .int .i64 q.other] := (((hbq.alloc _).alloc _).alloc _)
  have hbr := Blk.new (w.alloc (.cells #[.int .i64 q.kind, .int .i64 q.table, .int .i64 q.column, .int .i64 q.low, .int .i64 q.high, .int .i64 q.by_, .int .i64 q.other] 24)) 27 #[.slice X n cap, .int .i64 m, .bool f]
  rw [World.size_alloc] at hbr
  have HR : Hid (Blk ((((w.alloc (.cells #[.int .i64 q.kind, .int .i64 q.table, .int .i64 q.column, .int .i64 q.low, .int .i64 q.high, .int .i64 q.by_, .int .i64 q.other] 24)).alloc (.cells #[.slice X n cap, .int .i64 m, .bool f] 27)).alloc (.cells #[.int .i64 c.t, .int .i64 c.k, .bool c.had, .int .i64 c.o0, .int .i64 c.o1, .int .i64 c.o2, .bool c.has, .int .i64 c.n0, .int .i64 c.n1, .int .i64 c.n2] 30)).alloc (.cells #[.slice none 0 0, .int .i64 0, .bool false] 27)) (w.heap.size + 1) 27 #[.slice X n cap, .int .i64 m, .bool f]) := Lib.hid ((hbr.alloc _).alloc _)
  have hbc := Blk.new ((w.alloc (.cells #[.int .i64 q.kind, .int .i64 q.table, .int .i64 q.column, .int .i64 q.low, .int .i64 q.high, .int .i64 q.by_, .int .i64 q.other] 24)).alloc (.cells #[.slice X n cap, .int .i64 m, .bool f] 27)) 30 #[.int .i64 c.t, .int .i64 c.k, .bool c.had, .int .i64 c.o0, .int .i64 c.o1, .int .i64 c.o2, .bool c.has, .int .i64 c.n0, .int .i64 c.n1, .int .i64 c.n2]
  rw [World.size_alloc, World.size_alloc] at hbc
  have hcB : Blk ((((w.alloc (.cells #[.int .i64 q.kind, .int .i64 q.table, .int .i64 q.column, .int .i64 q.low, .int .i64 q.high, .int .i64 q.by_, .int .i64 q.other] 24)).alloc (.cells #[.slice X n cap, .int .i64 m, .bool f] 27)).alloc (.cells #[.int .i64 c.t, .int .i64 c.k, .bool c.had, .int .i64 c.o0, .int .i64 c.o1, .int .i64 c.o2, .bool c.has, .int .i64 c.n0, .int .i64 c.n1, .int .i64 c.n2] 30)).alloc (.cells #[.slice none 0 0, .int .i64 0, .bool false] 27)) (w.heap.size + 1 + 1) 30 #[.int .i64 c.t, .int .i64 c.k, .bool c.had, .int .i64 c.o0, .int .i64 c.o1, .int .i64 c.o2, .bool c.has, .int .i64 c.n0, .int .i64 c.n1, .int .i64 c.n2] := (hbc.alloc _)
  have hbz := Blk.new (((w.alloc (.cells #[.int .i64 q.kind, .int .i64 q.table, .int .i64 q.column, .int .i64 q.low, .int .i64 q.high, .int .i64 q.by_, .int .i64 q.other] 24)).alloc (.cells #[.slice X n cap, .int .i64 m, .bool f] 27)).alloc (.cells #[.int .i64 c.t, .int .i64 c.k, .bool c.had, .int .i64 c.o0, .int .i64 c.o1, .int .i64 c.o2, .bool c.has, .int .i64 c.n0, .int .i64 c.n1, .int .i64 c.n2] 30)) 27 #[.slice none 0 0, .int .i64 0, .bool false]
  rw [World.size_alloc, World.size_alloc, World.size_alloc] at hbz
  have HZ : Hid (Blk ((((w.alloc (.cells #[.int .i64 q.kind, .int .i64 q.table, .int .i64 q.column, .int .i64 q.low, .int .i64 q.high, .int .i64 q.by_, .int .i64 q.other] 24)).alloc (.cells #[.slice X n cap, .int .i64 m, .bool f] 27)).alloc (.cells #[.int .i64 c.t, .int .i64 c.k, .bool c.had, .int .i64 c.o0, .int .i64 c.o1, .int .i64 c.o2, .bool c.has, .int .i64 c.n0, .int .i64 c.n1, .int .i64 c.n2] 30)).alloc (.cells #[.slice none 0 0, .int .i64 0, .bool false] 27)) (w.heap.size + 1 + 1 + 1) 27 #[.slice none 0 0, .int .i64 0, .bool false]) := Lib.hid hbz
  have AT : Hid (RtAt ((((w.alloc (.cells #[.int .i64 q.kind, .int .i64 q.table, .int .i64 q.column, .int .i64 q.low, .int .i64 q.high, .int .i64 q.by_, .int .i64 q.other] 24)).alloc (.cells #[.slice X n cap, .int .i64 m, .bool f] 27)).alloc (.cells #[.int .i64 c.t, .int .i64 c.k, .bool c.had, .int .i64 c.o0, .int .i64 c.o1, .int .i64 c.o2, .bool c.has, .int .i64 c.n0, .int .i64 c.n1, .int .i64 c.n2] 30)).alloc (.cells #[.slice none 0 0, .int .i64 0, .bool false] 27)) w.heap.size (w.heap.size + 1 + 1) q c) := Lib.hid ⟨hqB, hcB⟩
  clear hqB hcB
  clear hbq hbr hbc hbz
  go_enter Try.func12, Try.ntmps12
  go_upto_region 1 with (fail)
  replace HX := Lib.hid (HX.out.fr0 F0.out)
  generalize ((((w.alloc (.cells #[.int .i64 q.kind, .int .i64 q.table, .int .i64 q.column, .int .i64 q.low, .int .i64 q.high, .int .i64 q.by_, .int .i64 q.other] 24)).alloc (.cells #[.slice X n cap, .int .i64 m, .bool f] 27)).alloc (.cells #[.int .i64 c.t, .int .i64 c.k, .bool c.had, .int .i64 c.o0, .int .i64 c.o1, .int .i64 c.o2, .bool c.has, .int .i64 c.n0, .int .i64 c.n1, .int .i64 c.n2] 30)).alloc (.cells #[.slice none 0 0, .int .i64 0, .bool false] 27)) = w5 at *
  obtain ⟨T, HT⟩ : ∃ T, Hid (Pm.touches q c = T) := ⟨_, Lib.hid rfl⟩
  have HTC := Lib.hid (fun W => rtouches_any q c W)
  rw [HT.out] at HTC
  have hq : Blk w5 w.heap.size 24 #[.int .i64 q.kind, .int .i64 q.table, .int .i64 q.column, .int .i64 q.low, .int .i64 q.high, .int .i64 q.by_, .int .i64 q.other] := AT.out.q
  have hc := AT.out.c
  go_upto_region 2 with (first
    | (refine wpList_load_row rfl _ _ rfl w.heap.size rfl 24 _ (0, 0) _ hq Try.underlying24 rfl (by kernel_rfl) ?_)
    | (refine wpList_load_row rfl _ _ rfl (w.heap.size + 1 + 1) rfl 30 _ (0, 0) _ hc Try.underlying30 rfl (by kernel_rfl) ?_)
    | (go_at_call 14; refine (HTC.out _).mono ?_; rintro e w4 ⟨rfl, f3⟩; have F3 := Lib.hid f3; clear f3))
  clear hq hc HTC
  replace AT := Lib.hid (AT.out.fr0 F3.out)
  replace F0 := Lib.hid (F0.out.trans F3.out)
  replace HR := Lib.hid (HR.out.fr F3.out (by simp))
  replace HZ := Lib.hid (HZ.out.fr F3.out (by simp))
  replace HX := Lib.hid (HX.out.fr0 F3.out)
  clear F3
  generalize hw5 : w4 = w5 at *
  clear hw5
  cases T
  · have HJ0 : Hid (J = some ⟨L, m, f⟩) := Lib.hid (by rw [← HJJ.out]; unfold Pm.patch; rw [HT.out, if_neg (by simp)])
    have HRF := HR.out
    have HZF := HZ.out
    go_wp2_with (first
      | (refine wpList_load_row rfl _ _ rfl (w.heap.size + 1) rfl 27 _ (0, 0) _ HRF Try.underlying27 rfl (by kernel_rfl) ?_)
      | (refine wpList_store_blk rfl _ _ _ rfl (w.heap.size + 1 + 1 + 1) #[.slice X n cap, .int .i64 m, .bool f] rfl rfl 27 _ HZF (by kernel_rfl) rfl rfl ?_; intro w9 hb9 hf9; have HB9 := Lib.hid hb9; have HF9 := Lib.hid hf9; clear hb9 hf9))
    have q0' := HB9.out.cell 0
    have q1' := HB9.out.cell 1
    have q2' := HB9.out.cell 2
    exact bodyPost_ret (v := .tuple #[.agg #[.slice X n cap, .int .i64 m, .bool f], .bool true]) (by simp [results, Try.results12, go_sem, q0', q1', q2']) rfl ⟨_, _, _, _, _, _, rfl, PP.fin F0.out HX.out HZ.out (by simp) HF9.out (by omega) HN.out (by omega) HJ0.out⟩
  have HJ0 : Hid (J = Pm.pk q ⟨L, m, f⟩ c) := Lib.hid (by rw [← HJJ.out]; unfold Pm.patch; rw [HT.out, if_pos rfl])
  have HVQ := Lib.hid (Pm.touched HT.out)
  clear HJJ HT
  have HC := Lib.hid (fun W => rhad_row c W)
  have hc := AT.out.c
  go_upto_region 5 with (first
    | (refine wpList_load_row rfl _ _ rfl (w.heap.size + 1 + 1) rfl 30 _ (0, 0) _ hc Try.underlying30 rfl (by kernel_rfl) ?_)
    | (go_at_call 21; refine (HC.out _).mono ?_; rintro e w4 ⟨rfl, f3⟩; have F3 := Lib.hid f3; clear f3))
  clear hc HC
  have f5 := F3.out.alloc (.cells #[.int .i64 (Pm.rowB c).t, .int .i64 (Pm.rowB c).k, .int .i64 (Pm.rowB c).x, .int .i64 (Pm.rowB c).y, .int .i64 (Pm.rowB c).z] 57)
  have Brb := Lib.hid (Blk.new w4 57 #[.int .i64 (Pm.rowB c).t, .int .i64 (Pm.rowB c).k, .int .i64 (Pm.rowB c).x, .int .i64 (Pm.rowB c).y, .int .i64 (Pm.rowB c).z])
  have HGrb : Hid (w.heap.size ≤ w4.heap.size) := Lib.hid (Nat.le_trans F0.out.size F3.out.size)
  replace AT := Lib.hid (AT.out.fr0 f5)
  replace F0 := Lib.hid (F0.out.trans f5)
  replace HR := Lib.hid (HR.out.fr f5 (by simp))
  replace HZ := Lib.hid (HZ.out.fr f5 (by simp))
  replace HX := Lib.hid (HX.out.fr0 f5)
  clear f5 F3
  generalize hw5 : w4.alloc (.cells #[.int .i64 (Pm.rowB c).t, .int .i64 (Pm.rowB c).k, .int .i64 (Pm.rowB c).x, .int .i64 (Pm.rowB c).y, .int .i64 (Pm.rowB c).z] 57) = w5 at *
  clear hw5
  generalize w4.heap.size = grb at *
  have HC := Lib.hid (fun W => rhas_row c W)
  have hc := AT.out.c
  go_upto_region 6 with (first
    | (refine wpList_load_row rfl _ _ rfl (w.heap.size + 1 + 1) rfl 30 _ (0, 0) _ hc Try.underlying30 rfl (by kernel_rfl) ?_)
    | (go_at_call 22; refine (HC.out _).mono ?_; rintro e w4 ⟨rfl, f3⟩; have F3 := Lib.hid f3; clear f3))
  clear hc HC
  have f5 := F3.out.alloc (.cells #[.int .i64 (Pm.rowA c).t, .int .i64 (Pm.rowA c).k, .int .i64 (Pm.rowA c).x, .int .i64 (Pm.rowA c).y, .int .i64 (Pm.rowA c).z] 57)
  have Bra := Lib.hid (Blk.new w4 57 #[.int .i64 (Pm.rowA c).t, .int .i64 (Pm.rowA c).k, .int .i64 (Pm.rowA c).x, .int .i64 (Pm.rowA c).y, .int .i64 (Pm.rowA c).z])
  have HGra : Hid (w.heap.size ≤ w4.heap.size) := Lib.hid (Nat.le_trans F0.out.size F3.out.size)
  replace AT := Lib.hid (AT.out.fr0 f5)
  replace F0 := Lib.hid (F0.out.trans f5)
  replace HR := Lib.hid (HR.out.fr f5 (by simp))
  replace HZ := Lib.hid (HZ.out.fr f5 (by simp))
  replace Brb := Lib.hid (Brb.out.fr f5 (by simp))
  replace HX := Lib.hid (HX.out.fr0 f5)
  clear f5 F3
  generalize hw5 : w4.alloc (.cells #[.int .i64 (Pm.rowA c).t, .int .i64 (Pm.rowA c).k, .int .i64 (Pm.rowA c).x, .int .i64 (Pm.rowA c).y, .int .i64 (Pm.rowA c).z] 57) = w5 at *
  clear hw5
  generalize w4.heap.size = gra at *
  have HC := Lib.hid (fun W => rin_any q (Pm.rowB c) c.had W)
  rw [Pm.inB] at HC
  have hr := Brb.out
  have hq : Blk w5 w.heap.size 24 #[.int .i64 q.kind, .int .i64 q.table, .int .i64 q.column, .int .i64 q.low, .int .i64 q.high, .int .i64 q.by_, .int .i64 q.other] := AT.out.q
  go_upto_region 7 with (first
    | (refine wpList_load_row rfl _ _ rfl w.heap.size rfl 24 _ (0, 0) _ hq Try.underlying24 rfl (by kernel_rfl) ?_)
    | (refine wpList_load_row rfl _ _ rfl grb rfl 57 _ (0, 0) _ hr Try.underlying57 rfl (by kernel_rfl) ?_)
    | (go_at_call 31; refine (HC.out _).mono ?_; rintro e w4 ⟨rfl, f3⟩; have F3 := Lib.hid f3; clear f3))
  clear hr hq HC
  replace AT := Lib.hid (AT.out.fr0 F3.out)
  replace F0 := Lib.hid (F0.out.trans F3.out)
  replace HR := Lib.hid (HR.out.fr F3.out (by simp))
  replace HZ := Lib.hid (HZ.out.fr F3.out (by simp))
  replace Brb := Lib.hid (Brb.out.fr F3.out (by simp))
  replace Bra := Lib.hid (Bra.out.fr F3.out (by simp))
  replace HX := Lib.hid (HX.out.fr0 F3.out)
  clear F3
  generalize hw5 : w4 = w5 at *
  clear hw5
  have HC := Lib.hid (fun W => rin_any q (Pm.rowA c) c.has W)
  rw [Pm.inA] at HC
  have hr := Bra.out
  have hq : Blk w5 w.heap.size 24 #[.int .i64 q.kind, .int .i64 q.table, .int .i64 q.column, .int .i64 q.low, .int .i64 q.high, .int .i64 q.by_, .int .i64 q.other] := AT.out.q
  go_upto_region 8 with (first
    | (refine wpList_load_row rfl _ _ rfl w.heap.size rfl 24 _ (0, 0) _ hq Try.underlying24 rfl (by kernel_rfl) ?_)
    | (refine wpList_load_row rfl _ _ rfl gra rfl 57 _ (0, 0) _ hr Try.underlying57 rfl (by kernel_rfl) ?_)
    | (go_at_call 31; refine (HC.out _).mono ?_; rintro e w4 ⟨rfl, f3⟩; have F3 := Lib.hid f3; clear f3))
  clear hr hq HC
  replace AT := Lib.hid (AT.out.fr0 F3.out)
  replace F0 := Lib.hid (F0.out.trans F3.out)
  replace HR := Lib.hid (HR.out.fr F3.out (by simp))
  replace HZ := Lib.hid (HZ.out.fr F3.out (by simp))
  replace Brb := Lib.hid (Brb.out.fr F3.out (by simp))
  replace Bra := Lib.hid (Bra.out.fr F3.out (by simp))
  replace HX := Lib.hid (HX.out.fr0 F3.out)
  clear F3
  generalize hw5 : w4 = w5 at *
  clear hw5
  clear HGrb HGra
  have HKB := Lib.hid (Pm.kind_le HVQ.out.1)
  obtain ⟨kd, HKD⟩ : ∃ k, Hid (q.kind = k) := ⟨_, Lib.hid rfl⟩
  rw [HKD.out] at HKB
  have q0 := AT.out.q.c0
  rw [HKD.out] at q0
  by_cases k1 : kd = 1
  · have HJ1 : Hid (J = some ⟨Pm.rows q L c, m, f⟩) := Lib.hid (by rw [HJ0.out]; exact Pm.pk1 _ c (by have := HKD.out; omega))
    subst k1
    clear HJ0 HVQ
    clear Brb Bra
    have HC := Lib.hid (fun W (hx : AtL RowV.cells 5 W X L) => rrows_any q c X n cap L W hx HN.out HLN.out)
    have hq : Blk w5 w.heap.size 24 #[.int .i64 q.kind, .int .i64 q.table, .int .i64 q.column, .int .i64 q.low, .int .i64 q.high, .int .i64 q.by_, .int .i64 q.other] := AT.out.q
    have hc := AT.out.c
    have r0 := HR.out.cell 0
    go_upto_region 12 with (first
      | (refine wpList_load_row rfl _ _ rfl w.heap.size rfl 24 _ (0, 0) _ hq Try.underlying24 rfl (by kernel_rfl) ?_)
      | (refine wpList_load_row rfl _ _ rfl (w.heap.size + 1 + 1) rfl 30 _ (0, 0) _ hc Try.underlying30 rfl (by kernel_rfl) ?_)
      | (go_at_call 32; refine (HC.out _ HX.out).mono ?_; rintro e w6 ⟨v6, rfl, ho6, f6, -⟩; obtain ⟨A6, n6, c6, hv6⟩ : ∃ A n c, v6 = .slice A n c := (match ho6.val with | ⟨_, _, hv⟩ => ⟨_, _, _, hv⟩); subst hv6; have z0 := (HR.out.fr f6 (by simp)).frozen 0; have u0 := (HR.out.fr f6 (by simp)).cell 0; have HO6 := Lib.hid ho6; have F6 := Lib.hid f6; clear ho6 f6))
    clear hq hc r0 z0 u0 HC
    have HR6 := Lib.hid (HR.out.fr F6.out (by simp))
    have HZ6 := Lib.hid (HZ.out.fr F6.out (by simp))
    have F06 := Lib.hid (F0.out.trans F6.out)
    have HAT := Lib.hid (HO6.out.at1 RowV.cells_len)
    clear HR HZ F0 HX AT
    have hfsA : Fr [(w.heap.size + 1)] w6 (w6.setCell ⟨(w.heap.size + 1), 0, none⟩ (.slice A6 n6 c6)) := (Fr.refl _ _).setCell (.inl (by simp)) _
    have HRA : Hid (Blk (w6.setCell ⟨(w.heap.size + 1), 0, none⟩ (.slice A6 n6 c6)) (w.heap.size + 1) 27 #[.slice A6 n6 c6, .int .i64 m, .bool f]) := Lib.hid (HR6.out.set_ 0 _)
    have HZA := Lib.hid (HZ6.out.fr hfsA (by simp only [List.mem_singleton]; omega))
    have FA := Lib.hid (F06.out.trans' hfsA (by simp))
    have HXA := Lib.hid (HAT.out.1.ne_small HR6.out (by simp) hfsA)
    clear hfsA
    generalize w6.setCell ⟨(w.heap.size + 1), 0, none⟩ (.slice A6 n6 c6) = w7 at *
    have HRF := HRA.out
    have HZF := HZA.out
    go_wp2_with (first
      | (refine wpList_load_row rfl _ _ rfl (w.heap.size + 1) rfl 27 _ (0, 0) _ HRF Try.underlying27 rfl (by kernel_rfl) ?_)
      | (refine wpList_store_blk rfl _ _ _ rfl (w.heap.size + 1 + 1 + 1) #[.slice A6 n6 c6, .int .i64 m, .bool f] rfl rfl 27 _ HZF (by kernel_rfl) rfl rfl ?_; intro w9 hb9 hf9; have HB9 := Lib.hid hb9; have HF9 := Lib.hid hf9; clear hb9 hf9))
    have q0' := HB9.out.cell 0
    have q1' := HB9.out.cell 1
    have q2' := HB9.out.cell 2
    exact bodyPost_ret (v := .tuple #[.agg #[.slice A6 n6 c6, .int .i64 m, .bool f], .bool true]) (by simp [results, Try.results12, go_sem, q0', q1', q2']) rfl ⟨_, _, _, _, _, _, rfl, PP.fin FA.out HXA.out HZA.out (by simp) HF9.out (by omega) HAT.out.2 (by have h1 := HAT.out.2; have h2 := Pm.rows_len q L c; have h3 := HN.out; omega) HJ1.out⟩
  have k1' : (kd == 1) = false := by simpa using k1
  by_cases k2 : kd = 2
  · have HJ1 : Hid (J = some ⟨Pm.rows q L c, m, f⟩) := Lib.hid (by rw [HJ0.out]; exact Pm.pk1 _ c (by have := HKD.out; omega))
    subst k2
    clear HJ0 HVQ
    clear Brb Bra
    have HC := Lib.hid (fun W (hx : AtL RowV.cells 5 W X L) => rrows_any q c X n cap L W hx HN.out HLN.out)
    have hq : Blk w5 w.heap.size 24 #[.int .i64 q.kind, .int .i64 q.table, .int .i64 q.column, .int .i64 q.low, .int .i64 q.high, .int .i64 q.by_, .int .i64 q.other] := AT.out.q
    have hc := AT.out.c
    have r0 := HR.out.cell 0
    go_upto_region 12 with (first
      | (refine wpList_load_row rfl _ _ rfl w.heap.size rfl 24 _ (0, 0) _ hq Try.underlying24 rfl (by kernel_rfl) ?_)
      | (refine wpList_load_row rfl _ _ rfl (w.heap.size + 1 + 1) rfl 30 _ (0, 0) _ hc Try.underlying30 rfl (by kernel_rfl) ?_)
      | (go_at_call 32; refine (HC.out _ HX.out).mono ?_; rintro e w6 ⟨v6, rfl, ho6, f6, -⟩; obtain ⟨A6, n6, c6, hv6⟩ : ∃ A n c, v6 = .slice A n c := (match ho6.val with | ⟨_, _, hv⟩ => ⟨_, _, _, hv⟩); subst hv6; have z0 := (HR.out.fr f6 (by simp)).frozen 0; have u0 := (HR.out.fr f6 (by simp)).cell 0; have HO6 := Lib.hid ho6; have F6 := Lib.hid f6; clear ho6 f6))
    clear hq hc r0 z0 u0 HC
    have HR6 := Lib.hid (HR.out.fr F6.out (by simp))
    have HZ6 := Lib.hid (HZ.out.fr F6.out (by simp))
    have F06 := Lib.hid (F0.out.trans F6.out)
    have HAT := Lib.hid (HO6.out.at1 RowV.cells_len)
    clear HR HZ F0 HX AT
    have hfsA : Fr [(w.heap.size + 1)] w6 (w6.setCell ⟨(w.heap.size + 1), 0, none⟩ (.slice A6 n6 c6)) := (Fr.refl _ _).setCell (.inl (by simp)) _
    have HRA : Hid (Blk (w6.setCell ⟨(w.heap.size + 1), 0, none⟩ (.slice A6 n6 c6)) (w.heap.size + 1) 27 #[.slice A6 n6 c6, .int .i64 m, .bool f]) := Lib.hid (HR6.out.set_ 0 _)
    have HZA := Lib.hid (HZ6.out.fr hfsA (by simp only [List.mem_singleton]; omega))
    have FA := Lib.hid (F06.out.trans' hfsA (by simp))
    have HXA := Lib.hid (HAT.out.1.ne_small HR6.out (by simp) hfsA)
    clear hfsA
    generalize w6.setCell ⟨(w.heap.size + 1), 0, none⟩ (.slice A6 n6 c6) = w7 at *
    have HRF := HRA.out
    have HZF := HZA.out
    go_wp2_with (first
      | (refine wpList_load_row rfl _ _ rfl (w.heap.size + 1) rfl 27 _ (0, 0) _ HRF Try.underlying27 rfl (by kernel_rfl) ?_)
      | (refine wpList_store_blk rfl _ _ _ rfl (w.heap.size + 1 + 1 + 1) #[.slice A6 n6 c6, .int .i64 m, .bool f] rfl rfl 27 _ HZF (by kernel_rfl) rfl rfl ?_; intro w9 hb9 hf9; have HB9 := Lib.hid hb9; have HF9 := Lib.hid hf9; clear hb9 hf9))
    have q0' := HB9.out.cell 0
    have q1' := HB9.out.cell 1
    have q2' := HB9.out.cell 2
    exact bodyPost_ret (v := .tuple #[.agg #[.slice A6 n6 c6, .int .i64 m, .bool f], .bool true]) (by simp [results, Try.results12, go_sem, q0', q1', q2']) rfl ⟨_, _, _, _, _, _, rfl, PP.fin FA.out HXA.out HZA.out (by simp) HF9.out (by omega) HAT.out.2 (by have h1 := HAT.out.2; have h2 := Pm.rows_len q L c; have h3 := HN.out; omega) HJ1.out⟩
  have k2' : (kd == 2) = false := by simpa using k2
  by_cases k3 : kd = 3
  · have HJ1 : Hid (J = some ⟨L, if (Pm.A q c).isSome = true then m + 1 else m - 1, f⟩) := Lib.hid (by rw [HJ0.out]; exact Pm.pk3 _ c (by have := HKD.out; omega))
    have H3 : Hid (((Pm.B q c).isSome != (Pm.A q c).isSome) = true) := Lib.hid (by
      have h := HVQ.out.2.2
      unfold Pm.tk Pm.oneE at h
      rwa [if_pos (by rw [HKD.out, k3])] at h)
    subst k3
    clear HJ0 HVQ Brb Bra HKD
    generalize (Pm.B q c).isSome = sb at *
    generalize (Pm.A q c).isSome = sa at *
    have hw1 : IntKind.i64.wrap (m + 1) = m + 1 := IntWalk.i64_in _ (by have := HMB.out; omega)
    have hw2 : IntKind.i64.wrap (m - 1) = m - 1 := IntWalk.i64_in _ (by have := HMB.out; omega)
    have r1 := HR.out.cell 1
    have y1 := HR.out.frozen 1
    cases sb <;> cases sa
    · exact absurd H3.out (by simp)
    · have HJ2 : Hid (J = some ⟨L, m + 1, f⟩) := Lib.hid (by rw [HJ1.out]; simp)
      clear HJ1
      go_upto_region 18 with (fail)
      clear r1 y1
      have hfsA : Fr [(w.heap.size + 1)] w5 (w5.setCell ⟨(w.heap.size + 1), 1, none⟩ (.int .i64 (m + 1))) := (Fr.refl _ _).setCell (.inl (by simp)) _
      have HRA : Hid (Blk (w5.setCell ⟨(w.heap.size + 1), 1, none⟩ (.int .i64 (m + 1))) (w.heap.size + 1) 27 #[.slice X n cap, .int .i64 (m + 1), .bool f]) := Lib.hid (HR.out.set_ 1 _)
      have HZA := Lib.hid (HZ.out.fr hfsA (by simp only [List.mem_singleton]; omega))
      have FA := Lib.hid (F0.out.trans' hfsA (by simp))
      have HXA := Lib.hid (HX.out.ne_small HR.out (by simp) hfsA)
      clear HX HR HZ F0 AT
      clear hfsA
      generalize w5.setCell ⟨(w.heap.size + 1), 1, none⟩ (.int .i64 (m + 1)) = w7 at *
      have HRF := HRA.out
      have HZF := HZA.out
      go_wp2_with (first
        | (refine wpList_load_row rfl _ _ rfl (w.heap.size + 1) rfl 27 _ (0, 0) _ HRF Try.underlying27 rfl (by kernel_rfl) ?_)
        | (refine wpList_store_blk rfl _ _ _ rfl (w.heap.size + 1 + 1 + 1) #[.slice X n cap, .int .i64 (m + 1), .bool f] rfl rfl 27 _ HZF (by kernel_rfl) rfl rfl ?_; intro w9 hb9 hf9; have HB9 := Lib.hid hb9; have HF9 := Lib.hid hf9; clear hb9 hf9))
      have q0' := HB9.out.cell 0
      have q1' := HB9.out.cell 1
      have q2' := HB9.out.cell 2
      exact bodyPost_ret (v := .tuple #[.agg #[.slice X n cap, .int .i64 (m + 1), .bool f], .bool true]) (by simp [results, Try.results12, go_sem, q0', q1', q2']) rfl ⟨_, _, _, _, _, _, rfl, PP.fin FA.out HXA.out HZA.out (by simp) HF9.out (by omega) HN.out (by omega) HJ2.out⟩
    · have HJ2 : Hid (J = some ⟨L, m - 1, f⟩) := Lib.hid (by rw [HJ1.out]; simp)
      clear HJ1
      go_upto_region 18 with (fail)
      clear r1 y1
      have hfsA : Fr [(w.heap.size + 1)] w5 (w5.setCell ⟨(w.heap.size + 1), 1, none⟩ (.int .i64 (m - 1))) := (Fr.refl _ _).setCell (.inl (by simp)) _
      have HRA : Hid (Blk (w5.setCell ⟨(w.heap.size + 1), 1, none⟩ (.int .i64 (m - 1))) (w.heap.size + 1) 27 #[.slice X n cap, .int .i64 (m - 1), .bool f]) := Lib.hid (HR.out.set_ 1 _)
      have HZA := Lib.hid (HZ.out.fr hfsA (by simp only [List.mem_singleton]; omega))
      have FA := Lib.hid (F0.out.trans' hfsA (by simp))
      have HXA := Lib.hid (HX.out.ne_small HR.out (by simp) hfsA)
      clear HX HR HZ F0 AT
      clear hfsA
      generalize w5.setCell ⟨(w.heap.size + 1), 1, none⟩ (.int .i64 (m - 1)) = w7 at *
      have HRF := HRA.out
      have HZF := HZA.out
      go_wp2_with (first
        | (refine wpList_load_row rfl _ _ rfl (w.heap.size + 1) rfl 27 _ (0, 0) _ HRF Try.underlying27 rfl (by kernel_rfl) ?_)
        | (refine wpList_store_blk rfl _ _ _ rfl (w.heap.size + 1 + 1 + 1) #[.slice X n cap, .int .i64 (m - 1), .bool f] rfl rfl 27 _ HZF (by kernel_rfl) rfl rfl ?_; intro w9 hb9 hf9; have HB9 := Lib.hid hb9; have HF9 := Lib.hid hf9; clear hb9 hf9))
      have q0' := HB9.out.cell 0
      have q1' := HB9.out.cell 1
      have q2' := HB9.out.cell 2
      exact bodyPost_ret (v := .tuple #[.agg #[.slice X n cap, .int .i64 (m - 1), .bool f], .bool true]) (by simp [results, Try.results12, go_sem, q0', q1', q2']) rfl ⟨_, _, _, _, _, _, rfl, PP.fin FA.out HXA.out HZA.out (by simp) HF9.out (by omega) HN.out (by omega) HJ2.out⟩
    · exact absurd H3.out (by simp)
  have k3' : (kd == 3) = false := by simpa using k3
  by_cases k4 : kd = 4
  · have HJ1 : Hid (J = some ⟨L, m + (Pm.now q c - Pm.old q c), f⟩) := Lib.hid (by rw [HJ0.out]; exact Pm.pk4 _ c (by have := HKD.out; omega))
    have HBO := Lib.hid (Pm.old_bound q HVQ.out.2.1)
    have HBN := Lib.hid (Pm.now_bound q HVQ.out.2.1)
    subst k4
    clear HJ0 HVQ HKD
    go_upto_region 20 with (fail)
    clear q0
    have K1 := Lib.hid (fun W => rmeasure_any q (Pm.rowA c) (Pm.A q c).isSome W)
    have K2 := Lib.hid (fun W => rmeasure_any q (Pm.rowB c) (Pm.B q c).isSome W)
    rw [Pm.mA] at K1
    rw [Pm.mB] at K2
    generalize (Pm.B q c).isSome = sb at *
    generalize (Pm.A q c).isSome = sa at *
    generalize Pm.old q c = u at *
    generalize Pm.now q c = v at *
    generalize Pm.rowA c = ya at *
    generalize Pm.rowB c = xb at *
    have q0 : ∀ p : Later w5, p.w.cell? ⟨w.heap.size, 0, none⟩ = some (.int .i64 q.kind) := fun p => p.cell (Blk.lt AT.out.q) (QAt.c0 AT.out.q)
    have q1 : ∀ p : Later w5, p.w.cell? ⟨w.heap.size, 1, none⟩ = some (.int .i64 q.table) := fun p => p.cell (Blk.lt AT.out.q) (QAt.c1 AT.out.q)
    have q2 : ∀ p : Later w5, p.w.cell? ⟨w.heap.size, 2, none⟩ = some (.int .i64 q.column) := fun p => p.cell (Blk.lt AT.out.q) (QAt.c2 AT.out.q)
    have q3 : ∀ p : Later w5, p.w.cell? ⟨w.heap.size, 3, none⟩ = some (.int .i64 q.low) := fun p => p.cell (Blk.lt AT.out.q) (QAt.c3 AT.out.q)
    have q4 : ∀ p : Later w5, p.w.cell? ⟨w.heap.size, 4, none⟩ = some (.int .i64 q.high) := fun p => p.cell (Blk.lt AT.out.q) (QAt.c4 AT.out.q)
    have q5 : ∀ p : Later w5, p.w.cell? ⟨w.heap.size, 5, none⟩ = some (.int .i64 q.by_) := fun p => p.cell (Blk.lt AT.out.q) (QAt.c5 AT.out.q)
    have q6 : ∀ p : Later w5, p.w.cell? ⟨w.heap.size, 6, none⟩ = some (.int .i64 q.other) := fun p => p.cell (Blk.lt AT.out.q) (QAt.c6 AT.out.q)
    have ya0 : ∀ p : Later w5, p.w.cell? ⟨gra, 0, none⟩ = some (.int .i64 ya.t) := fun p => p.cell Bra.out.lt (Bra.out.cell 0)
    have ya1 : ∀ p : Later w5, p.w.cell? ⟨gra, 1, none⟩ = some (.int .i64 ya.k) := fun p => p.cell Bra.out.lt (Bra.out.cell 1)
    have ya2 : ∀ p : Later w5, p.w.cell? ⟨gra, 2, none⟩ = some (.int .i64 ya.x) := fun p => p.cell Bra.out.lt (Bra.out.cell 2)
    have ya3 : ∀ p : Later w5, p.w.cell? ⟨gra, 3, none⟩ = some (.int .i64 ya.y) := fun p => p.cell Bra.out.lt (Bra.out.cell 3)
    have ya4 : ∀ p : Later w5, p.w.cell? ⟨gra, 4, none⟩ = some (.int .i64 ya.z) := fun p => p.cell Bra.out.lt (Bra.out.cell 4)
    have xb0 : ∀ p : Later w5, p.w.cell? ⟨grb, 0, none⟩ = some (.int .i64 xb.t) := fun p => p.cell Brb.out.lt (Brb.out.cell 0)
    have xb1 : ∀ p : Later w5, p.w.cell? ⟨grb, 1, none⟩ = some (.int .i64 xb.k) := fun p => p.cell Brb.out.lt (Brb.out.cell 1)
    have xb2 : ∀ p : Later w5, p.w.cell? ⟨grb, 2, none⟩ = some (.int .i64 xb.x) := fun p => p.cell Brb.out.lt (Brb.out.cell 2)
    have xb3 : ∀ p : Later w5, p.w.cell? ⟨grb, 3, none⟩ = some (.int .i64 xb.y) := fun p => p.cell Brb.out.lt (Brb.out.cell 3)
    have xb4 : ∀ p : Later w5, p.w.cell? ⟨grb, 4, none⟩ = some (.int .i64 xb.z) := fun p => p.cell Brb.out.lt (Brb.out.cell 4)
    have r1 : ∀ p : Later w5, p.w.cell? ⟨w.heap.size + 1, 1, none⟩ = some (.int .i64 m) := fun p => p.cell HR.out.lt (HR.out.cell 1)
    have hw1 : wrap64 (m + v) = m + v := IntWalk.wrap64_in _ (by have := HMB.out; have := HBN.out; omega)
    have hw2 : wrap64 (m + v - u) = m + v - u := IntWalk.wrap64_in _ (by have := HMB.out; have := HBN.out; have := HBO.out; omega)
    refine wp_region_quiet_tail (C := fun w' => ∃ p : Later w5, w' = p.w) 13 (by kernel_rfl) (by kernel_rfl) ⟨⟨_, (Fr.refl [] w5).drew⟩, rfl⟩ ?_
    simp only [List.take_succ_cons, List.take_zero, List.drop_succ_cons, List.drop_zero]
    repeat (go_big_quiet_step (first | (with_reducible exact Later.calls (K1.out _)) | (with_reducible exact Later.calls (K2.out _))))
    refine wpQuiet_nil ?_
    rintro wq ⟨p, hp⟩
    have fq : Fr [] w5 wq := hp ▸ p.fr
    clear hp p
    have HR6 := Lib.hid (HR.out.fr fq (by simp))
    have HZ6 := Lib.hid (HZ.out.fr fq (by simp))
    have F06 := Lib.hid (F0.out.trans fq)
    have HX6 := Lib.hid (HX.out.fr0 fq)
    clear fq HR HZ F0 HX AT Bra Brb r1 K1 K2 q0 q1 q2 q3 q4 q5 q6 ya0 xb0 ya1 xb1 ya2 xb2 ya3 xb3 ya4 xb4
    have r1 := HR6.out.cell 1
    have y1 := HR6.out.frozen 1
    go_upto_region 21 with (fail)
    clear r1 y1
    have hfsA : Fr [(w.heap.size + 1)] wq (wq.setCell ⟨(w.heap.size + 1), 1, none⟩ (.int .i64 (m + v - u))) := (Fr.refl _ _).setCell (.inl (by simp)) _
    have HRA : Hid (Blk (wq.setCell ⟨(w.heap.size + 1), 1, none⟩ (.int .i64 (m + v - u))) (w.heap.size + 1) 27 #[.slice X n cap, .int .i64 (m + v - u), .bool f]) := Lib.hid (HR6.out.set_ 1 _)
    have HZA := Lib.hid (HZ6.out.fr hfsA (by simp only [List.mem_singleton]; omega))
    have FA := Lib.hid (F06.out.trans' hfsA (by simp))
    have HXA := Lib.hid (HX6.out.ne_small HR6.out (by simp) hfsA)
    clear hfsA
    generalize wq.setCell ⟨(w.heap.size + 1), 1, none⟩ (.int .i64 (m + v - u)) = w7 at *
    have HRF := HRA.out
    have HZF := HZA.out
    go_wp2_with (first
      | (refine wpList_load_row rfl _ _ rfl (w.heap.size + 1) rfl 27 _ (0, 0) _ HRF Try.underlying27 rfl (by kernel_rfl) ?_)
      | (refine wpList_store_blk rfl _ _ _ rfl (w.heap.size + 1 + 1 + 1) #[.slice X n cap, .int .i64 (m + v - u), .bool f] rfl rfl 27 _ HZF (by kernel_rfl) rfl rfl ?_; intro w9 hb9 hf9; have HB9 := Lib.hid hb9; have HF9 := Lib.hid hf9; clear hb9 hf9))
    have q0' := HB9.out.cell 0
    have q1' := HB9.out.cell 1
    have q2' := HB9.out.cell 2
    exact bodyPost_ret (v := .tuple #[.agg #[.slice X n cap, .int .i64 (m + v - u), .bool f], .bool true]) (by simp [results, Try.results12, go_sem, q0', q1', q2']) rfl ⟨_, _, _, _, _, _, rfl, PP.fin FA.out HXA.out HZA.out (by simp) HF9.out (by omega) HN.out (by omega) (by rw [HJ1.out]; congr 2; omega)⟩
  have k4' : (kd == 4) = false := by simpa using k4
  by_cases k5 : kd = 5
  · have HJ1 : Hid (J = Pm.ext q ⟨L, m, f⟩ c) := Lib.hid (by rw [HJ0.out]; exact Pm.pk5 _ c (by have := HKD.out; omega))
    have HC := Lib.hid (fun W (hx : AtL RowV.cells 5 W X L) => rext_any 1 q c X n cap m f L W (by have := HKD.out; simp; omega) hx HN.out)
    rw [← HJ1.out] at HC
    subst k5
    clear HJ0 HVQ HKD Bra Brb
    have hq : Blk w5 w.heap.size 24 #[.int .i64 q.kind, .int .i64 q.table, .int .i64 q.column, .int .i64 q.low, .int .i64 q.high, .int .i64 q.by_, .int .i64 q.other] := AT.out.q
    have hc := AT.out.c
    have hr := HR.out
    go_wp2_with (first
      | (refine wpList_load_row rfl _ _ rfl w.heap.size rfl 24 _ (0, 0) _ hq Try.underlying24 rfl (by kernel_rfl) ?_)
      | (refine wpList_load_row rfl _ _ rfl (w.heap.size + 1 + 1) rfl 30 _ (0, 0) _ hc Try.underlying30 rfl (by kernel_rfl) ?_)
      | (refine wpList_load_row rfl _ _ rfl (w.heap.size + 1) rfl 27 _ (0, 0) _ hr Try.underlying27 rfl (by kernel_rfl) ?_)
      | (go_at_call 34; refine (HC.out _ HX.out).mono ?_; rintro e w6 ⟨A6, n6, c6, m6, f6, k6, rfl, hpp⟩; have PPP := Lib.hid hpp; have HZB := HZ.out.fr hpp.2.2 (by simp); clear hpp)
      | (refine wpList_store_blk rfl _ _ _ rfl (w.heap.size + 1 + 1 + 1) #[.slice A6 n6 c6, .int .i64 m6, .bool f6] rfl rfl 27 _ HZB (by kernel_rfl) rfl rfl ?_; intro w9 hb9 hf9; have HB9 := Lib.hid hb9; have HF9 := Lib.hid hf9; clear hb9 hf9))
    have q0' := HB9.out.cell 0
    have q1' := HB9.out.cell 1
    have q2' := HB9.out.cell 2
    exact bodyPost_ret (v := .tuple #[.agg #[.slice A6 n6 c6, .int .i64 m6, .bool f6], .bool k6]) (by simp [results, Try.results12, go_sem, q0', q1', q2']) rfl ⟨_, _, _, _, _, _, rfl, PPP.out.store F0.out HZB (by simp) HF9.out (by omega)⟩
  have k5' : (kd == 5) = false := by simpa using k5
  by_cases k6 : kd = 6
  · have HJ1 : Hid (J = Pm.ext q ⟨L, m, f⟩ c) := Lib.hid (by rw [HJ0.out]; exact Pm.pk5 _ c (by have := HKD.out; omega))
    have HC := Lib.hid (fun W (hx : AtL RowV.cells 5 W X L) => rext_any (-1) q c X n cap m f L W (by have := HKD.out; simp; omega) hx HN.out)
    rw [← HJ1.out] at HC
    subst k6
    clear HJ0 HVQ HKD Bra Brb
    have hq : Blk w5 w.heap.size 24 #[.int .i64 q.kind, .int .i64 q.table, .int .i64 q.column, .int .i64 q.low, .int .i64 q.high, .int .i64 q.by_, .int .i64 q.other] := AT.out.q
    have hc := AT.out.c
    have hr := HR.out
    go_wp2_with (first
      | (refine wpList_load_row rfl _ _ rfl w.heap.size rfl 24 _ (0, 0) _ hq Try.underlying24 rfl (by kernel_rfl) ?_)
      | (refine wpList_load_row rfl _ _ rfl (w.heap.size + 1 + 1) rfl 30 _ (0, 0) _ hc Try.underlying30 rfl (by kernel_rfl) ?_)
      | (refine wpList_load_row rfl _ _ rfl (w.heap.size + 1) rfl 27 _ (0, 0) _ hr Try.underlying27 rfl (by kernel_rfl) ?_)
      | (go_at_call 34; refine (HC.out _ HX.out).mono ?_; rintro e w6 ⟨A6, n6, c6, m6, f6, k6, rfl, hpp⟩; have PPP := Lib.hid hpp; have HZB := HZ.out.fr hpp.2.2 (by simp); clear hpp)
      | (refine wpList_store_blk rfl _ _ _ rfl (w.heap.size + 1 + 1 + 1) #[.slice A6 n6 c6, .int .i64 m6, .bool f6] rfl rfl 27 _ HZB (by kernel_rfl) rfl rfl ?_; intro w9 hb9 hf9; have HB9 := Lib.hid hb9; have HF9 := Lib.hid hf9; clear hb9 hf9))
    have q0' := HB9.out.cell 0
    have q1' := HB9.out.cell 1
    have q2' := HB9.out.cell 2
    exact bodyPost_ret (v := .tuple #[.agg #[.slice A6 n6 c6, .int .i64 m6, .bool f6], .bool k6]) (by simp [results, Try.results12, go_sem, q0', q1', q2']) rfl ⟨_, _, _, _, _, _, rfl, PPP.out.store F0.out HZB (by simp) HF9.out (by omega)⟩
  have k6' : (kd == 6) = false := by simpa using k6
  obtain rfl : kd = 7 := by have := HKB.out; omega
  clear k1 k2 k3 k4 k5 k6
  have HJ1 : Hid (J = if q.table = q.other then none else (Pm.join q (Pm.pairs L) c).map fun l => ⟨Pm.flat l, m, f⟩) := Lib.hid (by rw [HJ0.out]; exact Pm.pk7 _ c HKD.out)
  clear HJ0 HVQ HKD Bra Brb
  have q1 := AT.out.q.c1
  have q6 := AT.out.q.c6
  by_cases e1 : q.table = q.other
  · have e1' : (q.table == q.other) = true := by simpa using e1
    have HJ2 : Hid (J = none) := Lib.hid (by rw [HJ1.out, if_pos e1])
    clear e1
    go_upto_region 27 with (fail)
    clear q0 q1 q6
    have HZF := HZ.out
    go_wp2_with (first
      | (refine wpList_build_is rfl _ _ rfl #[.slice none 0 0, .int .i64 0, .bool false] (by kernel_rfl) ?_)
      | (refine wpList_store_blk rfl _ _ _ rfl (w.heap.size + 1 + 1 + 1) #[.slice none 0 0, .int .i64 0, .bool false] rfl rfl 27 _ HZF (by kernel_rfl) rfl rfl ?_; intro w9 hb9 hf9; have HB9 := Lib.hid hb9; have HF9 := Lib.hid hf9; clear hb9 hf9))
    have q0' := HB9.out.cell 0
    have q1' := HB9.out.cell 1
    have q2' := HB9.out.cell 2
    exact bodyPost_ret (v := .tuple #[.agg #[.slice none 0 0, .int .i64 0, .bool false], .bool false]) (by simp [results, Try.results12, go_sem, q0', q1', q2']) rfl ⟨_, _, _, _, _, _, rfl, PP.zero F0.out HF9.out (by omega) HJ2.out⟩
  have e1' : (q.table == q.other) = false := by simpa using e1
  replace HJ1 : Hid (J = (Pm.join q (Pm.pairs L) c).map fun l => ⟨Pm.flat l, m, f⟩) := Lib.hid (by rw [HJ1.out, if_neg e1])
  clear e1
  have c0 : w5.cell? ⟨w.heap.size + 1 + 1, 0, none⟩ = some (.int .i64 c.t) := AT.out.c.cell 0
  have r0 := HR.out.cell 0
  have hc := AT.out.c
  by_cases e2 : c.t = q.other
  · have e2' : (c.t == q.other) = true := by simpa using e2
    replace HJ1 : Hid (J = (if c.had = true then some (Pm.other (Pm.pairs L) c) else none).map fun l => ⟨Pm.flat l, m, f⟩) := Lib.hid (by rw [HJ1.out]; unfold Pm.join; rw [if_pos e2])
    clear e2
    cases hh : c.had with
    | false =>
      have HC := Lib.hid (fun W => rother_no c hh X n cap W)
      have HJ2 : Hid (J = none) := Lib.hid (by rw [HJ1.out, hh]; rfl)
      clear hh
      go_upto_region 32 with (first
        | (refine wpList_load_row rfl _ _ rfl (w.heap.size + 1 + 1) rfl 30 _ (0, 0) _ hc Try.underlying30 rfl (by kernel_rfl) ?_)
        | (go_at_call 35; refine (HC.out _).mono ?_; rintro e w6 ⟨rfl, f6⟩; have z0 := (HR.out.fr f6 (by simp)).frozen 0; have u0 := (HR.out.fr f6 (by simp)).cell 0; have F6 := Lib.hid f6; clear f6))
      clear hc r0 c0 q0 q1 q6 z0 u0 HC
      have HR6 := Lib.hid (HR.out.fr F6.out (by simp))
      have HZ6 := Lib.hid (HZ.out.fr F6.out (by simp))
      have F06 := Lib.hid (F0.out.trans F6.out)
      clear HR HZ F0 AT
      have hfsA : Fr [(w.heap.size + 1)] w6 (w6.setCell ⟨(w.heap.size + 1), 0, none⟩ (.slice none 0 0)) := (Fr.refl _ _).setCell (.inl (by simp)) _
      have HRA : Hid (Blk (w6.setCell ⟨(w.heap.size + 1), 0, none⟩ (.slice none 0 0)) (w.heap.size + 1) 27 #[.slice none 0 0, .int .i64 m, .bool f]) := Lib.hid (HR6.out.set_ 0 _)
      have HZA := Lib.hid (HZ6.out.fr hfsA (by simp only [List.mem_singleton]; omega))
      have FA := Lib.hid (F06.out.trans' hfsA (by simp))
      clear hfsA
      generalize w6.setCell ⟨(w.heap.size + 1), 0, none⟩ (.slice none 0 0) = w7 at *
      have HZF := HZA.out
      go_wp2_with (first
        | (refine wpList_build_is rfl _ _ rfl #[.slice none 0 0, .int .i64 0, .bool false] (by kernel_rfl) ?_)
        | (refine wpList_store_blk rfl _ _ _ rfl (w.heap.size + 1 + 1 + 1) #[.slice none 0 0, .int .i64 0, .bool false] rfl rfl 27 _ HZF (by kernel_rfl) rfl rfl ?_; intro w9 hb9 hf9; have HB9 := Lib.hid hb9; have HF9 := Lib.hid hf9; clear hb9 hf9))
      have q0' := HB9.out.cell 0
      have q1' := HB9.out.cell 1
      have q2' := HB9.out.cell 2
      exact bodyPost_ret (v := .tuple #[.agg #[.slice none 0 0, .int .i64 0, .bool false], .bool false]) (by simp [results, Try.results12, go_sem, q0', q1', q2']) rfl ⟨_, _, _, _, _, _, rfl, PP.zero FA.out HF9.out (by omega) HJ2.out⟩
    | true =>
      have HC := Lib.hid (fun W (hx : AtL RowV.cells 5 W X L) => rother_any c hh X n cap L W hx HN.out HLN.out)
      have HJ2 : Hid (J = some ⟨Pm.flat (Pm.other (Pm.pairs L) c), m, f⟩) := Lib.hid (by rw [HJ1.out, hh]; rfl)
      clear hh
      go_upto_region 32 with (first
        | (refine wpList_load_row rfl _ _ rfl (w.heap.size + 1 + 1) rfl 30 _ (0, 0) _ hc Try.underlying30 rfl (by kernel_rfl) ?_)
        | (go_at_call 35; refine (HC.out _ HX.out).mono ?_; rintro e w6 ⟨A6, n6, c6, rfl, hlo⟩; have f6 := hlo.fr; have HO6 := Lib.hid hlo.row; clear hlo; have z0 := (HR.out.fr f6 (by simp)).frozen 0; have u0 := (HR.out.fr f6 (by simp)).cell 0; have F6 := Lib.hid f6; clear f6))
      clear hc r0 c0 q0 q1 q6 z0 u0 HC
      have HR6 := Lib.hid (HR.out.fr F6.out (by simp))
      have HZ6 := Lib.hid (HZ.out.fr F6.out (by simp))
      have F06 := Lib.hid (F0.out.trans F6.out)
      clear HR HZ F0 AT
      have HAT := Lib.hid (HO6.out.at1 RowV.cells_len)
      have hfsA : Fr [(w.heap.size + 1)] w6 (w6.setCell ⟨(w.heap.size + 1), 0, none⟩ (.slice A6 n6 c6)) := (Fr.refl _ _).setCell (.inl (by simp)) _
      have HRA : Hid (Blk (w6.setCell ⟨(w.heap.size + 1), 0, none⟩ (.slice A6 n6 c6)) (w.heap.size + 1) 27 #[.slice A6 n6 c6, .int .i64 m, .bool f]) := Lib.hid (HR6.out.set_ 0 _)
      have HZA := Lib.hid (HZ6.out.fr hfsA (by simp only [List.mem_singleton]; omega))
      have FA := Lib.hid (F06.out.trans' hfsA (by simp))
      have HXA := Lib.hid (HAT.out.1.ne_small HR6.out (by simp) hfsA)
      clear hfsA
      generalize w6.setCell ⟨(w.heap.size + 1), 0, none⟩ (.slice A6 n6 c6) = w7 at *
      have HRF := HRA.out
      have HZF := HZA.out
      go_wp2_with (first
        | (refine wpList_load_row rfl _ _ rfl (w.heap.size + 1) rfl 27 _ (0, 0) _ HRF Try.underlying27 rfl (by kernel_rfl) ?_)
        | (refine wpList_store_blk rfl _ _ _ rfl (w.heap.size + 1 + 1 + 1) #[.slice A6 n6 c6, .int .i64 m, .bool f] rfl rfl 27 _ HZF (by kernel_rfl) rfl rfl ?_; intro w9 hb9 hf9; have HB9 := Lib.hid hb9; have HF9 := Lib.hid hf9; clear hb9 hf9))
      have q0' := HB9.out.cell 0
      have q1' := HB9.out.cell 1
      have q2' := HB9.out.cell 2
      exact bodyPost_ret (v := .tuple #[.agg #[.slice A6 n6 c6, .int .i64 m, .bool f], .bool true]) (by simp [results, Try.results12, go_sem, q0', q1', q2']) rfl ⟨_, _, _, _, _, _, rfl, PP.fin FA.out HXA.out HZA.out (by simp) HF9.out (by omega) HAT.out.2 (by have h1 := HAT.out.2; have h2 := Pm.oth_len c (Pm.pairs L); rw [← Pm.flat_other, pairs_len] at h2; have h3 := HN.out; omega) HJ2.out⟩
  · have e2' : (c.t == q.other) = false := by simpa using e2
    replace HJ1 : Hid (J = (Pm.left q (Pm.pairs L) c).map fun l => ⟨Pm.flat l, m, f⟩) := Lib.hid (by rw [HJ1.out]; unfold Pm.join; rw [if_neg e2])
    clear e2
    have HC := Lib.hid (fun W (hx : AtL RowV.cells 5 W X L) => rleft_any q c X n cap L W hx HN.out HLN.out)
    have hq : Blk w5 w.heap.size 24 #[.int .i64 q.kind, .int .i64 q.table, .int .i64 q.column, .int .i64 q.low, .int .i64 q.high, .int .i64 q.by_, .int .i64 q.other] := AT.out.q
    go_upto_region 32 with (first
      | (refine wpList_load_row rfl _ _ rfl w.heap.size rfl 24 _ (0, 0) _ hq Try.underlying24 rfl (by kernel_rfl) ?_)
      | (refine wpList_load_row rfl _ _ rfl (w.heap.size + 1 + 1) rfl 30 _ (0, 0) _ hc Try.underlying30 rfl (by kernel_rfl) ?_)
      | (go_at_call 36; refine (HC.out _ HX.out).mono ?_; rintro e w6 ⟨A6, n6, c6, k6, rfl, h61, h62, f6⟩; have z0 := (HR.out.fr f6 (by simp)).frozen 0; have u0 := (HR.out.fr f6 (by simp)).cell 0; have F6 := Lib.hid f6; have H61 := Lib.hid h61; have H62 := Lib.hid h62; clear f6 h61 h62))
    clear hq hc r0 c0 q0 q1 q6 z0 u0 HC
    have HR6 := Lib.hid (HR.out.fr F6.out (by simp))
    have HZ6 := Lib.hid (HZ.out.fr F6.out (by simp))
    have F06 := Lib.hid (F0.out.trans F6.out)
    clear HR HZ F0 AT
    have hfsA : Fr [(w.heap.size + 1)] w6 (w6.setCell ⟨(w.heap.size + 1), 0, none⟩ (.slice A6 n6 c6)) := (Fr.refl _ _).setCell (.inl (by simp)) _
    have HRA : Hid (Blk (w6.setCell ⟨(w.heap.size + 1), 0, none⟩ (.slice A6 n6 c6)) (w.heap.size + 1) 27 #[.slice A6 n6 c6, .int .i64 m, .bool f]) := Lib.hid (HR6.out.set_ 0 _)
    have HZA := Lib.hid (HZ6.out.fr hfsA (by simp only [List.mem_singleton]; omega))
    have FA := Lib.hid (F06.out.trans' hfsA (by simp))
    have HXA : Hid (∀ l, RowsOwn w6 (.slice A6 n6 c6) (Pm.flat l) → AtL RowV.cells 5 (w6.setCell ⟨w.heap.size + 1, 0, none⟩ (.slice A6 n6 c6)) A6 (Pm.flat l) ∧ n6 = (Pm.flat l).length) := Lib.hid (fun l ho => ⟨(ho.at1 RowV.cells_len).1.ne_small HR6.out (by simp) hfsA, (ho.at1 RowV.cells_len).2⟩)
    clear hfsA
    generalize w6.setCell ⟨(w.heap.size + 1), 0, none⟩ (.slice A6 n6 c6) = w7 at *
    cases k6
    · have HJ2 : Hid (J = none) := Lib.hid (by rw [HJ1.out, H62.out rfl]; rfl)
      have HZF := HZA.out
      go_wp2_with (first
        | (refine wpList_build_is rfl _ _ rfl #[.slice none 0 0, .int .i64 0, .bool false] (by kernel_rfl) ?_)
        | (refine wpList_store_blk rfl _ _ _ rfl (w.heap.size + 1 + 1 + 1) #[.slice none 0 0, .int .i64 0, .bool false] rfl rfl 27 _ HZF (by kernel_rfl) rfl rfl ?_; intro w9 hb9 hf9; have HB9 := Lib.hid hb9; have HF9 := Lib.hid hf9; clear hb9 hf9))
      have q0' := HB9.out.cell 0
      have q1' := HB9.out.cell 1
      have q2' := HB9.out.cell 2
      exact bodyPost_ret (v := .tuple #[.agg #[.slice none 0 0, .int .i64 0, .bool false], .bool false]) (by simp [results, Try.results12, go_sem, q0', q1', q2']) rfl ⟨_, _, _, _, .inl (.inl ⟨rfl, PP.zero FA.out HF9.out (by omega) HJ2.out⟩)⟩
    · obtain ⟨l, hl1, hl2⟩ := H61.out rfl
      obtain ⟨hxa, hnl⟩ := HXA.out l hl2
      have HJ2 : Hid (J = some ⟨Pm.flat l, m, f⟩) := Lib.hid (by rw [HJ1.out, hl1]; rfl)
      have HLL : Hid (n6 ≤ n + 2) := Lib.hid (by have h1 := Pm.left_len hl1; rw [pairs_len] at h1; rw [flat_len2] at hnl; have h3 := HN.out; omega)
      have HXB := Lib.hid hxa
      have HNL := Lib.hid hnl
      clear hl1 hl2 hxa hnl HXA H61 H62
      have HRF := HRA.out
      have HZF := HZA.out
      go_wp2_with (first
        | (refine wpList_load_row rfl _ _ rfl (w.heap.size + 1) rfl 27 _ (0, 0) _ HRF Try.underlying27 rfl (by kernel_rfl) ?_)
        | (refine wpList_store_blk rfl _ _ _ rfl (w.heap.size + 1 + 1 + 1) #[.slice A6 n6 c6, .int .i64 m, .bool f] rfl rfl 27 _ HZF (by kernel_rfl) rfl rfl ?_; intro w9 hb9 hf9; have HB9 := Lib.hid hb9; have HF9 := Lib.hid hf9; clear hb9 hf9))
      have q0' := HB9.out.cell 0
      have q1' := HB9.out.cell 1
      have q2' := HB9.out.cell 2
      exact bodyPost_ret (v := .tuple #[.agg #[.slice A6 n6 c6, .int .i64 m, .bool f], .bool true]) (by simp [results, Try.results12, go_sem, q0', q1', q2']) rfl ⟨_, _, _, _, _, _, rfl, PP.fin FA.out HXB.out HZA.out (by simp) HF9.out (by omega) HNL.out HLL.out HJ2.out⟩
end Go.Proofs.Ytjiikpmkedkbkaa

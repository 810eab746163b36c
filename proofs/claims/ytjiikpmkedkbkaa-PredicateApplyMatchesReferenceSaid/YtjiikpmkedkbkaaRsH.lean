/-
  Reference 07: Apply.
-/
import Derived.Test.YtjiikpmkedkbkaaRsG
import Derived.Test.YtjiikpmkedkbkaaGbh
import Derived.Test.YtjiikpmkedkbkaaGaw
namespace Go.Proofs.Ytjiikpmkedkbkaa
open Go.RowKit

theorem PP.ap {w w' : World} {J : Option Res} {A : Option Addr} {n b : Nat} {m : Int} {f k : Bool} (h : PP w w' J A n m f k b) : ∃ r : Res, r.value = m ∧ r.found = f ∧ ApAt w w' (J.map fun x => (x, true)) A n r true k b := by
  cases k with
  | true =>
    obtain ⟨L', e, h1, h2, h3⟩ := h.1 rfl
    exact ⟨⟨L', m, f⟩, rfl, rfl, .inl ⟨rfl, by rw [e]; rfl⟩, h1, h2, h3, h.2.2⟩
  | false =>
    obtain ⟨e, e1, e2, e3, e4⟩ := h.2.1 rfl
    subst e1 e2 e3 e4
    exact ⟨⟨[], 0, false⟩, rfl, rfl, .inr ⟨rfl, by rw [e]; rfl, rfl, rfl⟩, fun h => absurd h (by simp), rfl, Nat.zero_le _, h.2.2⟩
theorem rpatch_rv {w : World} {g : Nat} {A : Option Addr} {n c : Nat} {r : Res} {q : Qry} {ch : Chg} (h : RvAt w g A n c r) (hl : n ≤ 50000) (hb : -4000000000000000000 ≤ r.value ∧ r.value ≤ 4000000000000000000) :
    Calls Try.prog 12 #[q.val, .agg #[.slice A n c, .int .i64 r.value, .bool r.found], ch.val] w fun e w' => ∃ (r' : Res) (A' : Option Addr) (n' c' : Nat) (k : Bool), e = .returned (.tuple #[.agg #[.slice A' n' c', .int .i64 r'.value, .bool r'.found], .bool k]) ∧ ApAt w w' ((Pm.patch q r ch).map fun x => (x, true)) A' n' r' true k (n + 2) := by
  refine (rpatch_any q ch A n c r.value r.found r.rows w h.rows h.len hl hb.1 hb.2).mono ?_
  rintro e w' ⟨A', n', c', m', f', k, he, hp⟩
  obtain ⟨r', rfl, rfl, ha⟩ := hp.ap
  exact ⟨r', A', n', c', k, he, ha⟩
theorem patch_rv {w : World} {g : Nat} {A : Option Addr} {n c : Nat} {r : Res} {q : Qry} {ch : Chg} (hok : okI q.kind) (h : RvAt w g A n c r) (hl : n ≤ 50000) (hb : -4000000000000000000 ≤ r.value ∧ r.value ≤ 4000000000000000000) :
    Calls Try.prog 11 #[q.val, .agg #[.slice A n c, .int .i64 r.value, .bool r.found], ch.val] w fun e w' => ∃ (r' : Res) (A' : Option Addr) (n' c' : Nat) (k : Bool), e = .returned (.tuple #[.agg #[.slice A' n' c', .int .i64 r'.value, .bool r'.found], .bool k]) ∧ ApAt w w' ((Pm.patch q r ch).map fun x => (x, true)) A' n' r' true k (n + 2) := by
  refine (patch_any q ch hok A n c r.value r.found r.rows w h.rows h.len hl hb.1 hb.2).mono ?_
  rintro e w' ⟨A', n', c', m', f', k, he, hp⟩
  obtain ⟨r', rfl, rfl, ha⟩ := hp.ap
  exact ⟨r', A', n', c', k, he, ha⟩
theorem AOut.patch {J : Option Res} {r : Res} {k : Bool} (h : AOut (J.map fun x => (x, true)) r true k) : (k = true ∧ J = some r) ∨ (k = false ∧ J = none ∧ r = ⟨[], 0, false⟩) := by
  rcases h with ⟨h1, h2⟩ | ⟨h1, h2, -, h3⟩
  · cases J with
    | none => cases h2
    | some x =>
      injection h2 with h2
      injection h2 with h2
      exact .inl ⟨h1, by rw [h2]⟩
  · cases J with
    | none => exact .inr ⟨h1, rfl, h3⟩
    | some x => cases h2
/-- What stays while the changes are gone through. -/
structure RaAt (wr : World) (gq gx gz : Nat) (q : Qry) (p : Int) (AC : Option Addr) (nc cc : Nat) : Prop where
  q : QAt wr gq q
  x : Blk wr gx 38 #[.int .i64 p, .slice AC nc cc]
  z : Blk wr gz 27 #[.slice none 0 0, .int .i64 0, .bool false]
theorem RaAt.fr {S : List Nat} {wr w' : World} {gq gx gz : Nat} {q : Qry} {p : Int} {AC : Option Addr} {nc cc : Nat} (h : RaAt wr gq gx gz q p AC nc cc) (hf : Fr S wr w') (h1 : gq ∉ S) (h2 : gx ∉ S) (h3 : gz ∉ S) : RaAt w' gq gx gz q p AC nc cc := ⟨h.q.fr hf h1, h.x.fr hf h2, h.z.fr hf h3⟩
theorem RaAt.fr0 {wr w' : World} {gq gx gz : Nat} {q : Qry} {p : Int} {AC : Option Addr} {nc cc : Nat} (h : RaAt wr gq gx gz q p AC nc cc) (hf : Fr [] wr w') : RaAt w' gq gx gz q p AC nc cc := h.fr hf (by simp) (by simp) (by simp)
theorem PA.fin {w wC w9 : World} {J : Option (Res × Bool)} {A : Option Addr} {n b g gz tz c : Nat} {cs : Array Value} {t : Bool} {r : Res} (hF : Fr [] w wC) (hA : RvAt wC g A n c r) (hz : Blk wC gz tz cs) (hs : cs.size ≤ 4) (hf : Fr [gz] wC w9) (hg : w.heap.size ≤ gz) (hb : n ≤ b) (hJ : J = some (r, t)) : PA w w9 J A n r.value r.found t true b :=
  ⟨fun _ => ⟨r.rows, hJ, hA.rows.ne_small hz hs hf, hA.len, hb⟩, fun h => (by cases h), hF.trans' hf (fun i hi => .inr (by rw [List.mem_singleton] at hi; omega))⟩
theorem PA.zero {w wC w9 : World} {J : Option (Res × Bool)} {b gz : Nat} (hF : Fr [] w wC) (hf : Fr [gz] wC w9) (hg : w.heap.size ≤ gz) (hJ : J = none) : PA w w9 J none 0 0 false true false b :=
  ⟨fun h => (by cases h), fun _ => ⟨hJ, rfl, rfl, rfl, rfl, rfl⟩, hF.trans' hf (fun i hi => .inr (by rw [List.mem_singleton] at hi; omega))⟩
theorem PA.ap {w w' : World} {J : Option (Res × Bool)} {A : Option Addr} {n b : Nat} {m : Int} {f t k : Bool} (h : PA w w' J A n m f t k b) : ∃ r : Res, r.value = m ∧ r.found = f ∧ ApAt w w' J A n r t k b := by
  cases k with
  | true =>
    obtain ⟨L', e, h1, h2, h3⟩ := h.1 rfl
    exact ⟨⟨L', m, f⟩, rfl, rfl, .inl ⟨rfl, e⟩, h1, h2, h3, h.2.2⟩
  | false =>
    obtain ⟨e, e0, e1, e2, e3, e4⟩ := h.2.1 rfl
    subst e0 e1 e2 e3 e4
    exact ⟨⟨[], 0, false⟩, rfl, rfl, .inr ⟨rfl, e, rfl, rfl⟩, fun h => absurd h (by simp), rfl, Nat.zero_le _, h.2.2⟩
theorem Pm.go_cons {q : Qry} {c : Chg} {cs : List Chg} {r : Res} {t : Bool} : Pm.go q (c :: cs) r t = match Pm.patch q r c with
  | none => none
  | some r' => Pm.go q cs r' (t || Pm.touches q c) := rfl

set_option maxRecDepth 100000 in
set_option maxHeartbeats 8000000 in
theorem rapply7_any (q : Qry) (X : Option Addr) (n cap : Nat) (m : Int) (f : Bool) (L : List RowV) (p : Int) (AC : Option Addr) (nc cc : Nat) (cs : List Chg) (w : World) (hx : AtL RowV.cells 5 w X L) (hn : n = L.length) (hl : n + 2 * nc ≤ 40000) (hm1 : -1000000000000000000 ≤ m) (hm2 : m ≤ 1000000000000000000) (hcs : AtL Chg.cells 10 w AC cs) (hnc : nc = cs.length) :
    Calls Try.prog 19 #[q.val, .agg #[.slice X n cap, .int .i64 m, .bool f], .agg #[.int .i64 p, .slice AC nc cc]] w fun e w' => ∃ A' n' c' m' f' t k, e = .returned (.tuple #[.agg #[.slice A' n' c', .int .i64 m', .bool f'], .bool t, .bool k]) ∧ PA w w' (Pm.apply q ⟨L, m, f⟩ cs) A' n' m' f' t k (n + 2 * nc) := by
  obtain ⟨J, HJJ⟩ : ∃ o, Hid (Pm.apply q ⟨L, m, f⟩ cs = o) := ⟨_, Lib.hid rfl⟩
  rw [HJJ.out]
  have HX := Lib.hid hx
  have HN := Lib.hid hn
  have HNB := Lib.hid hl
  have HM := Lib.hid (And.intro hm1 hm2)
  have HCS := Lib.hid hcs
  have HNC := Lib.hid hnc
  have hnc4 : nc ≤ 20000 := by omega
  clear hx hn hl hm1 hm2 hcs hnc
  have F0 : Hid (Fr [] w ((((w.alloc (.cells #[.int .i64 q.kind, .int .i64 q.table, .int .i64 q.column, .int .i64 q.low, .int .i64 q.high, .int .i64 q.by_, .int .i64 q.other] 24)).alloc (.cells #[.slice X n cap, .int .i64 m, .bool f] 27)).alloc (.cells #[.int .i64 p, .slice AC nc cc] 38)).alloc (.cells #[.slice none 0 0, .int .i64 0, .bool false] 27))) := Lib.hid ((((((Fr.refl _ _).alloc _).alloc _).alloc _).alloc _))
  have hbq := Blk.new w 24 #[.int .i64 q.kind, .int .i64 q.table, .int .i64 q.column, .int .i64 q.low, .int .i64 q.high, .int .i64 q.by_, .int .i64 q.other]
  have hqB : Blk ((((w.alloc (.cells #[.int .i64 q.kind, .int .i64 q.table, .int .i64 q.column, .int .i64 q.low, .int .i64 q.high, .int .i64 q.by_, .int .i64 q.other] 24)).alloc (.cells #[.slice X n cap, .int .i64 m, .bool f] 27)).alloc (.cells #[.int .i64 p, .slice AC nc cc] 38)).alloc (.cells #[.slice none 0 0, .int .i64 0, .bool false] 27)) w.heap.size 24 #[.int .i64 q.kind, .int .i64 q.table, .int .i64 q.column, .int .i64 q.low, .int .i64 q.high, .int .i64 q.by_, .int .i64 q.other] := (((hbq.alloc _).alloc _).alloc _)
  have hbr := Blk.new (w.alloc (.cells #[.int .i64 q.kind, .int .i64 q.table, .int .i64 q.column, .int .i64 q.low, .int .i64 q.high, .int .i64 q.by_, .int .i64 q.other] 24)) 27 #[.slice X n cap, .int .i64 m, .bool f]
  rw [World.size_alloc] at hbr
  have HR : Hid (Blk ((((w.alloc (.cells #[.int .i64 q.kind, .int .i64 q.table, .int .i64 q.column, .int .i64 q.low, .int .i64 q.high, .int .i64 q.by_, .int .i64 q.other] 24)).alloc (.cells #[.slice X n cap, .int .i64 m, .bool f] 27)).alloc (.cells #[.int .i64 p, .slice AC nc cc] 38)).alloc (.cells #[.slice none 0 0, .int .i64 0, .bool false] 27)) (w.heap.size + 1) 27 #[.slice X n cap, .int .i64 m, .bool f]) := Lib.hid ((hbr.alloc _).alloc _)
  have hbx := Blk.new ((w.alloc (.cells #[.int .i64 q.kind, .int .i64 q.table, .int .i64 q.column, .int .i64 q.low, .int .i64 q.high, .int .i64 q.by_, .int .i64 q.other] 24)).alloc (.cells #[.slice X n cap, .int .i64 m, .bool f] 27)) 38 #[.int .i64 p, .slice AC nc cc]
  rw [World.size_alloc, World.size_alloc] at hbx
  have HXB : Hid (Blk ((((w.alloc (.cells #[.int .i64 q.kind, .int .i64 q.table, .int .i64 q.column, .int .i64 q.low, .int .i64 q.high, .int .i64 q.by_, .int .i64 q.other] 24)).alloc (.cells #[.slice X n cap, .int .i64 m, .bool f] 27)).alloc (.cells #[.int .i64 p, .slice AC nc cc] 38)).alloc (.cells #[.slice none 0 0, .int .i64 0, .bool false] 27)) (w.heap.size + 1 + 1) 38 #[.int .i64 p, .slice AC nc cc]) := Lib.hid (hbx.alloc _)
  have hbz := Blk.new (((w.alloc (.cells #[.int .i64 q.kind, .int .i64 q.table, .int .i64 q.column, .int .i64 q.low, .int .i64 q.high, .int .i64 q.by_, .int .i64 q.other] 24)).alloc (.cells #[.slice X n cap, .int .i64 m, .bool f] 27)).alloc (.cells #[.int .i64 p, .slice AC nc cc] 38)) 27 #[.slice none 0 0, .int .i64 0, .bool false]
  rw [World.size_alloc, World.size_alloc, World.size_alloc] at hbz
  have HZ : Hid (Blk ((((w.alloc (.cells #[.int .i64 q.kind, .int .i64 q.table, .int .i64 q.column, .int .i64 q.low, .int .i64 q.high, .int .i64 q.by_, .int .i64 q.other] 24)).alloc (.cells #[.slice X n cap, .int .i64 m, .bool f] 27)).alloc (.cells #[.int .i64 p, .slice AC nc cc] 38)).alloc (.cells #[.slice none 0 0, .int .i64 0, .bool false] 27)) (w.heap.size + 1 + 1 + 1) 27 #[.slice none 0 0, .int .i64 0, .bool false]) := Lib.hid hbz
  have HQB := Lib.hid hqB
  clear hqB
  clear hbq hbr hbx hbz
  have RA : Hid (RaAt ((((w.alloc (.cells #[.int .i64 q.kind, .int .i64 q.table, .int .i64 q.column, .int .i64 q.low, .int .i64 q.high, .int .i64 q.by_, .int .i64 q.other] 24)).alloc (.cells #[.slice X n cap, .int .i64 m, .bool f] 27)).alloc (.cells #[.int .i64 p, .slice AC nc cc] 38)).alloc (.cells #[.slice none 0 0, .int .i64 0, .bool false] 27)) w.heap.size (w.heap.size + 1 + 1) (w.heap.size + 1 + 1 + 1) q p AC nc cc) := Lib.hid ⟨HQB.out, HXB.out, HZ.out⟩
  have RV : Hid (RvAt ((((w.alloc (.cells #[.int .i64 q.kind, .int .i64 q.table, .int .i64 q.column, .int .i64 q.low, .int .i64 q.high, .int .i64 q.by_, .int .i64 q.other] 24)).alloc (.cells #[.slice X n cap, .int .i64 m, .bool f] 27)).alloc (.cells #[.int .i64 p, .slice AC nc cc] 38)).alloc (.cells #[.slice none 0 0, .int .i64 0, .bool false] 27)) (w.heap.size + 1) X n cap ⟨L, m, f⟩) := Lib.hid ⟨HR.out, HX.out.fr0 F0.out, HN.out⟩
  clear HQB HXB HZ HR HX
  go_enter Try.func19, Try.ntmps19
  go_upto_region 1 with (fail)
  generalize ((((w.alloc (.cells #[.int .i64 q.kind, .int .i64 q.table, .int .i64 q.column, .int .i64 q.low, .int .i64 q.high, .int .i64 q.by_, .int .i64 q.other] 24)).alloc (.cells #[.slice X n cap, .int .i64 m, .bool f] 27)).alloc (.cells #[.int .i64 p, .slice AC nc cc] 38)).alloc (.cells #[.slice none 0 0, .int .i64 0, .bool false] 27)) = wb at *
  go_wp2_with fail
  go_loopw [9, 10] (fun i9 i10 wr => ∃ (j : Nat) (tb : Bool) (R : Res) (A3 : Option Addr) (n3 c3 : Nat), i9 = .bool tb ∧ i10 = .int .i64 j ∧ j ≤ nc ∧ Hid (J = Pm.go q (cs.drop j) R tb) ∧ Hid (n3 ≤ n + 2 * j) ∧ Hid (-(1000000000000000000 + 2000000000 * (j : Int)) ≤ R.value ∧ R.value ≤ 1000000000000000000 + 2000000000 * (j : Int)) ∧ Hid (RvAt wr (w.heap.size + 1) A3 n3 c3 R) ∧ Hid (RaAt wr w.heap.size (w.heap.size + 1 + 1) (w.heap.size + 1 + 1 + 1) q p AC nc cc) ∧ Hid (Fr [] w wr)) (fun _ i10 _ => nc - (intOf i10).toNat)
  case atStart => exact ⟨0, false, ⟨L, m, f⟩, X, n, cap, rfl, rfl, Nat.zero_le _, Lib.hid (by rw [← HJJ.out]; rfl), Lib.hid (by omega), Lib.hid (by have := HM.out; dsimp only; omega), RV, RA, F0⟩
  case round =>
    clear RV RA F0 HJJ
    obtain ⟨j, tb, R, A3, n3, c3, rfl, rfl, hj, HGO, HN3, HMB, RV, RA, F0⟩ := hrel
    have x1 : wr.cell? ⟨w.heap.size + 1 + 1, 1, none⟩ = some (.slice AC nc cc) := RA.out.x.cell 1
    by_cases hlt : j < nc
    · have hjc : j < cs.length := by rw [← HNC.out]; exact hlt
      obtain ⟨b, off, rfl, hb, hcc⟩ := (HCS.out.fr0 F0.out) (by omega)
      have HCK : Hid (∀ W, Fr [] wr W → ∀ i, i < 10 → W.cell? ⟨b, off + j * 10 + i, none⟩ = (Chg.cells cs[j])[i]?) := Lib.hid (fun W hf i hi => (hf.rules.1 b _ hb).trans (hcc j hjc i hi))
      have HDR : Hid (cs.drop j = cs[j] :: cs.drop (j + 1)) := Lib.hid (List.drop_eq_getElem_cons hjc)
      clear hb hcc
      generalize cs[j] = c at *
      clear hjc
      obtain ⟨T, HT⟩ : ∃ t, Hid (Pm.touches q c = t) := ⟨_, Lib.hid rfl⟩
      have HTO := Lib.hid (fun W => rtouches_any q c W)
      rw [HT.out] at HTO
      obtain ⟨tn, HTN⟩ : ∃ t, Hid ((tb || T) = t) := ⟨_, Lib.hid rfl⟩
      have q0 : ∀ p : Later wr, p.w.cell? ⟨w.heap.size, 0, none⟩ = some (.int .i64 q.kind) := fun p => p.cell (Blk.lt RA.out.q) (QAt.c0 RA.out.q)
      have q1 : ∀ p : Later wr, p.w.cell? ⟨w.heap.size, 1, none⟩ = some (.int .i64 q.table) := fun p => p.cell (Blk.lt RA.out.q) (QAt.c1 RA.out.q)
      have q2 : ∀ p : Later wr, p.w.cell? ⟨w.heap.size, 2, none⟩ = some (.int .i64 q.column) := fun p => p.cell (Blk.lt RA.out.q) (QAt.c2 RA.out.q)
      have q3 : ∀ p : Later wr, p.w.cell? ⟨w.heap.size, 3, none⟩ = some (.int .i64 q.low) := fun p => p.cell (Blk.lt RA.out.q) (QAt.c3 RA.out.q)
      have q4 : ∀ p : Later wr, p.w.cell? ⟨w.heap.size, 4, none⟩ = some (.int .i64 q.high) := fun p => p.cell (Blk.lt RA.out.q) (QAt.c4 RA.out.q)
      have q5 : ∀ p : Later wr, p.w.cell? ⟨w.heap.size, 5, none⟩ = some (.int .i64 q.by_) := fun p => p.cell (Blk.lt RA.out.q) (QAt.c5 RA.out.q)
      have q6 : ∀ p : Later wr, p.w.cell? ⟨w.heap.size, 6, none⟩ = some (.int .i64 q.other) := fun p => p.cell (Blk.lt RA.out.q) (QAt.c6 RA.out.q)
      have k0 : ∀ p : Later wr, p.w.cell? ⟨b, off + j * 10, none⟩ = some (.int .i64 c.t) := fun p => HCK.out p.w p.fr 0 (by decide)
      have k1 : ∀ p : Later wr, p.w.cell? ⟨b, off + j * 10 + 1, none⟩ = some (.int .i64 c.k) := fun p => HCK.out p.w p.fr 1 (by decide)
      have k2 : ∀ p : Later wr, p.w.cell? ⟨b, off + j * 10 + 2, none⟩ = some (.bool c.had) := fun p => HCK.out p.w p.fr 2 (by decide)
      have k3 : ∀ p : Later wr, p.w.cell? ⟨b, off + j * 10 + 3, none⟩ = some (.int .i64 c.o0) := fun p => HCK.out p.w p.fr 3 (by decide)
      have k4 : ∀ p : Later wr, p.w.cell? ⟨b, off + j * 10 + 4, none⟩ = some (.int .i64 c.o1) := fun p => HCK.out p.w p.fr 4 (by decide)
      have k5 : ∀ p : Later wr, p.w.cell? ⟨b, off + j * 10 + 5, none⟩ = some (.int .i64 c.o2) := fun p => HCK.out p.w p.fr 5 (by decide)
      have k6 : ∀ p : Later wr, p.w.cell? ⟨b, off + j * 10 + 6, none⟩ = some (.bool c.has) := fun p => HCK.out p.w p.fr 6 (by decide)
      have k7 : ∀ p : Later wr, p.w.cell? ⟨b, off + j * 10 + 7, none⟩ = some (.int .i64 c.n0) := fun p => HCK.out p.w p.fr 7 (by decide)
      have k8 : ∀ p : Later wr, p.w.cell? ⟨b, off + j * 10 + 8, none⟩ = some (.int .i64 c.n1) := fun p => HCK.out p.w p.fr 8 (by decide)
      have k9 : ∀ p : Later wr, p.w.cell? ⟨b, off + j * 10 + 9, none⟩ = some (.int .i64 c.n2) := fun p => HCK.out p.w p.fr 9 (by decide)
      have y1 : ∀ p : Later wr, p.w.cell? ⟨w.heap.size + 1 + 1, 1, none⟩ = some (.slice (some ⟨b, off, none⟩) nc cc) := fun p => p.cell RA.out.x.lt (RA.out.x.cell 1)
      go_wp2_with fail
      refine wp_region_later (by kernel_rfl) (by kernel_rfl) ?_
      repeat (go_big_quiet_step (exact Later.calls (HTO.out _)))
      refine wpQuiet_nil ?_
      rintro w' ⟨⟨wz, fq⟩, rfl⟩
      have RV2 := Lib.hid (RV.out.fr0 fq)
      have RA2 := Lib.hid (RA.out.fr0 fq)
      have F2 := Lib.hid (F0.out.trans fq)
      have HC2 : Hid (∀ W, Fr [] w' W → ∀ i, i < 10 → W.cell? ⟨b, off + j * 10 + i, none⟩ = (Chg.cells c)[i]?) := Lib.hid (fun W hf => HCK.out W (fq.trans hf))
      clear fq RV RA F0 HCK HTO x1 y1 q0 q1 q2 q3 q4 q5 q6 k0 k1 k2 k3 k4 k5 k6 k7 k8 k9
      go_upto_region 6 with (fail)
      go_cut [9] (fun v wn => v = .bool tn ∧ wn = w')
      case first =>
        cases tb
        all_goals
          go_wp2_with fail
          go_meet
          exact ⟨by rw [← HTN.out]; rfl, rfl⟩
      case rest =>
      obtain ⟨rfl, rfl⟩ := hcut
      go_upto_region 7 with (fail)
      have HSW : Hid (∀ W, Fr [] wc W → Blk W w.heap.size 24 #[.int .i64 q.kind, .int .i64 q.table, .int .i64 q.column, .int .i64 q.low, .int .i64 q.high, .int .i64 q.by_, .int .i64 q.other] ∧ Blk W (w.heap.size + 1) 27 #[.slice A3 n3 c3, .int .i64 R.value, .bool R.found] ∧ W.cell? ⟨w.heap.size + 1 + 1, 1, none⟩ = some (.slice (some ⟨b, off, none⟩) nc cc) ∧ W.cell? ⟨b, off + j * 10, none⟩ = some (.int .i64 c.t) ∧ W.cell? ⟨b, off + j * 10 + 1, none⟩ = some (.int .i64 c.k) ∧ W.cell? ⟨b, off + j * 10 + 2, none⟩ = some (.bool c.had) ∧ W.cell? ⟨b, off + j * 10 + 3, none⟩ = some (.int .i64 c.o0) ∧ W.cell? ⟨b, off + j * 10 + 4, none⟩ = some (.int .i64 c.o1) ∧ W.cell? ⟨b, off + j * 10 + 5, none⟩ = some (.int .i64 c.o2) ∧ W.cell? ⟨b, off + j * 10 + 6, none⟩ = some (.bool c.has) ∧ W.cell? ⟨b, off + j * 10 + 7, none⟩ = some (.int .i64 c.n0) ∧ W.cell? ⟨b, off + j * 10 + 8, none⟩ = some (.int .i64 c.n1) ∧ W.cell? ⟨b, off + j * 10 + 9, none⟩ = some (.int .i64 c.n2)) := Lib.hid (fun w' hf => ⟨(RA2.out.fr0 hf).q, (RV2.out.fr0 hf).blk, (RA2.out.fr0 hf).x.cell 1, HC2.out w' hf 0 (by decide), HC2.out w' hf 1 (by decide), HC2.out w' hf 2 (by decide), HC2.out w' hf 3 (by decide), HC2.out w' hf 4 (by decide), HC2.out w' hf 5 (by decide), HC2.out w' hf 6 (by decide), HC2.out w' hf 7 (by decide), HC2.out w' hf 8 (by decide), HC2.out w' hf 9 (by decide)⟩)
      have HAR : Hid (∀ w1, Fr [] wc w1 → Calls Try.prog 12 #[q.val, .agg #[.slice A3 n3 c3, .int .i64 R.value, .bool R.found], c.val] w1 fun e w' => (∃ (r' : Res) (A' : Option Addr) (n' c' : Nat) (k : Bool), e = .returned (.tuple #[.agg #[.slice A' n' c', .int .i64 r'.value, .bool r'.found], .bool k]) ∧ ApAt w1 w' ((Pm.patch q R c).map fun x => (x, true)) A' n' r' true k (n3 + 2)) ∧ Fr [] wc w') := Lib.hid (fun w1 hf => (rpatch_rv (RV2.out.fr0 hf) (by have := HN3.out; have := HNB.out; omega) (by have := HMB.out; omega)).mono (fun e w' h => ⟨h, by obtain ⟨_, _, _, _, _, _, hap⟩ := h; exact hf.trans hap.fr⟩))
      have s0 := HSW.out _ (Fr.refl [] _)
      go_cut [12, 13] (fun vp vk wn => ∃ (gg : Nat) (Rg : Res) (Ag : Option Addr) (ng cg : Nat) (kg : Bool), vp = .pointer (some ⟨gg, 0, none⟩) ∧ vk = .bool kg ∧ Hid (AOut ((Pm.patch q R c).map fun x => (x, true)) Rg true kg) ∧ Hid (RvAt wn gg Ag ng cg Rg) ∧ Hid (ng ≤ n3 + 2) ∧ Hid (Fr [] wc wn) ∧ Hid (wc.heap.size ≤ gg))
      case first =>
        refine wp_region_head (fun W => Blk W w.heap.size 24 #[.int .i64 q.kind, .int .i64 q.table, .int .i64 q.column, .int .i64 q.low, .int .i64 q.high, .int .i64 q.by_, .int .i64 q.other] ∧ Blk W (w.heap.size + 1) 27 #[.slice A3 n3 c3, .int .i64 R.value, .bool R.found] ∧ W.cell? ⟨w.heap.size + 1 + 1, 1, none⟩ = some (.slice (some ⟨b, off, none⟩) nc cc) ∧ W.cell? ⟨b, off + j * 10, none⟩ = some (.int .i64 c.t) ∧ W.cell? ⟨b, off + j * 10 + 1, none⟩ = some (.int .i64 c.k) ∧ W.cell? ⟨b, off + j * 10 + 2, none⟩ = some (.bool c.had) ∧ W.cell? ⟨b, off + j * 10 + 3, none⟩ = some (.int .i64 c.o0) ∧ W.cell? ⟨b, off + j * 10 + 4, none⟩ = some (.int .i64 c.o1) ∧ W.cell? ⟨b, off + j * 10 + 5, none⟩ = some (.int .i64 c.o2) ∧ W.cell? ⟨b, off + j * 10 + 6, none⟩ = some (.bool c.has) ∧ W.cell? ⟨b, off + j * 10 + 7, none⟩ = some (.int .i64 c.n0) ∧ W.cell? ⟨b, off + j * 10 + 8, none⟩ = some (.int .i64 c.n1) ∧ W.cell? ⟨b, off + j * 10 + 9, none⟩ = some (.int .i64 c.n2)) 13 (by kernel_rfl) (by kernel_rfl) (HSW.out _ (Fr.refl [] wc).drew) (fun hHeld => ?_)
        refine wpHead_take (i := 0) (oi := ⟨some 33, _, _, _, _, _⟩) (v := .agg (#[.int .i64 q.kind, .int .i64 q.table, .int .i64 q.column, .int .i64 q.low, .int .i64 q.high, .int .i64 q.by_, .int .i64 q.other])) rfl (by kernel_rfl) (fun _ _ _ h => h) (yieldsIf_load_blk (by rfl) _ _ rfl w.heap.size rfl 24 (#[.int .i64 q.kind, .int .i64 q.table, .int .i64 q.column, .int .i64 q.low, .int .i64 q.high, .int .i64 q.by_, .int .i64 q.other]) _ (fun _ h => h.1) Try.underlying24 rfl (by kernel_rfl)) hHeld ?_
        try simp only [Act.put, List.setIfInBounds_toArray, List.set_cons_zero, List.set_cons_succ]
        refine wpHead_take (i := 1) (oi := ⟨some 34, _, _, _, _, _⟩) (v := .agg (#[.slice A3 n3 c3, .int .i64 R.value, .bool R.found])) rfl (by kernel_rfl) (fun _ _ _ h => h) (yieldsIf_load_blk (by rfl) _ _ rfl (w.heap.size + 1) rfl 27 (#[.slice A3 n3 c3, .int .i64 R.value, .bool R.found]) _ (fun _ h => h.2.1) Try.underlying27 rfl (by kernel_rfl)) hHeld ?_
        try simp only [Act.put, List.setIfInBounds_toArray, List.set_cons_zero, List.set_cons_succ]
        refine wpHead_take (i := 2) (oi := ⟨some 35, _, _, _, _, _⟩) (v := ?_) rfl (by kernel_rfl) (fun _ _ _ h => h) (Or.inl ⟨by rfl, ?_⟩) hHeld ?_
        rotate_left
        · (intro w hSw; (try dsimp only at hSw); go_simp; try with_reducible rfl)
        try simp only [Act.put, List.setIfInBounds_toArray, List.set_cons_zero, List.set_cons_succ]
        refine wpHead_take (i := 3) (oi := ⟨some 36, _, _, _, _, _⟩) (v := ?_) rfl (by kernel_rfl) (fun _ _ _ h => h) (Or.inl ⟨by rfl, ?_⟩) hHeld ?_
        rotate_left
        · (intro w hSw; (try dsimp only at hSw); go_simp; try with_reducible rfl)
        try simp only [Act.put, List.setIfInBounds_toArray, List.set_cons_zero, List.set_cons_succ]
        refine wpHead_take (i := 4) (oi := ⟨some 37, _, _, _, _, _⟩) (v := ?_) rfl (by kernel_rfl) (fun _ _ _ h => h) (Or.inl ⟨by rfl, ?_⟩) hHeld ?_
        rotate_left
        · (intro w hSw; (try dsimp only at hSw); go_simp; try with_reducible rfl)
        try simp only [Act.put, List.setIfInBounds_toArray, List.set_cons_zero, List.set_cons_succ]
        refine wpHead_take (i := 5) (oi := ⟨some 38, _, _, _, _, _⟩) (v := ?_) rfl (by kernel_rfl) (fun _ _ _ h => h) (Or.inl ⟨by rfl, ?_⟩) hHeld ?_
        rotate_left
        · (intro w hSw; (try dsimp only at hSw); go_simp; try with_reducible rfl)
        try simp only [Act.put, List.setIfInBounds_toArray, List.set_cons_zero, List.set_cons_succ]
        refine wpHead_take (i := 6) (oi := ⟨some 39, _, _, _, _, _⟩) (v := ?_) rfl (by kernel_rfl) (fun _ _ _ h => h) (Or.inl ⟨by rfl, ?_⟩) hHeld ?_
        rotate_left
        · (intro w hSw; (try dsimp only at hSw); go_simp; try with_reducible rfl)
        try simp only [Act.put, List.setIfInBounds_toArray, List.set_cons_zero, List.set_cons_succ]
        refine wpHead_two (i := 7) (j := 11) (oi := ⟨some 40, _, _, _, _, _⟩) (oj := ⟨some 12, _, _, _, _, _⟩) rfl rfl (by kernel_rfl) (by decide) (by decide) ?_ ?_
        · refine fun K hK => ?_
          go_simp
          refine (HAR.out _ (Fr.refl [] wc).drew).mono ?_
          rintro e wz ⟨⟨Rg, Ag, ng, cg, kg, rfl, hap⟩, hfz⟩
          have AP := Lib.hid hap
          have FZ := Lib.hid hfz
          refine hK.out _ _ ?_ (fun hHeld => ?_)
          · exact HSW.out _ FZ.out
          clear hK K
          try simp only [Act.put, List.setIfInBounds_toArray, List.set_cons_zero, List.set_cons_succ]
          clear hap hfz
          refine wpHead_take (i := 8) (oi := ⟨some 32, _, _, _, _, _⟩) (v := ?_) rfl (by kernel_rfl) (fun _ _ _ h => h) (Or.inl ⟨by rfl, ?_⟩) hHeld ?_
          rotate_left
          · (intro w hSw; (try dsimp only at hSw); go_simp; try with_reducible rfl)
          try simp only [Act.put, List.setIfInBounds_toArray, List.set_cons_zero, List.set_cons_succ]
          refine wpHead_take (i := 9) (oi := ⟨some 41, _, _, _, _, _⟩) (v := ?_) rfl (by kernel_rfl) (fun _ _ _ h => h) (Or.inl ⟨by rfl, ?_⟩) hHeld ?_
          rotate_left
          · (intro w hSw; (try dsimp only at hSw); go_simp; try with_reducible rfl)
          try simp only [Act.put, List.setIfInBounds_toArray, List.set_cons_zero, List.set_cons_succ]
          refine wpHead_take (i := 10) (oi := ⟨some 42, _, _, _, _, _⟩) (v := ?_) rfl (by kernel_rfl) (fun _ _ _ h => h) (Or.inl ⟨by rfl, ?_⟩) hHeld ?_
          rotate_left
          · (intro w hSw; (try dsimp only at hSw); go_simp; try with_reducible rfl)
          try simp only [Act.put, List.setIfInBounds_toArray, List.set_cons_zero, List.set_cons_succ]
          refine wpHead_one (i := 11) (o := ⟨some 12, _, _, _, _, _⟩) rfl (by kernel_rfl) (by decide) (fun K hK => ?_)
          go_simp
          skip
          refine hK.out _ _ ?_ (fun hHeld => ?_)
          · exact HSW.out _ (FZ.out.alloc _)
          clear hK K
          try simp only [Act.put, List.setIfInBounds_toArray, List.set_cons_zero, List.set_cons_succ]
          refine wpHead_one (i := 12) (o := ⟨none, _, _, _, _, _⟩) rfl (by kernel_rfl) (by decide) (fun K hK => ?_)
          go_simp
          skip
          refine hK.out _ _ ?_ (fun hHeld => ?_)
          · exact HSW.out _ (FZ.out.alloc _)
          clear hK K
          try simp only [Act.put, List.setIfInBounds_toArray, List.set_cons_zero, List.set_cons_succ]
          refine wpHead_done (by kernel_rfl) ?_
          simp only [List.drop_succ_cons, List.drop_zero]
          go_wp2_with fail
          go_meet
          exact ⟨wz.heap.size, Rg, Ag, ng, cg, kg, rfl, rfl, Lib.hid AP.out.out, Lib.hid (RvAt.ofA AP.out), Lib.hid AP.out.le, Lib.hid (FZ.out.alloc _), Lib.hid FZ.out.size⟩

        · refine fun K hK => ?_
          go_simp
          skip
          refine hK.out _ _ ?_ (fun hHeld => ?_)
          · exact HSW.out _ ((Fr.refl [] wc).drew.alloc _)
          clear hK K
          try simp only [Act.put, List.setIfInBounds_toArray, List.set_cons_zero, List.set_cons_succ]
          refine wpHead_one (i := 7) (o := ⟨some 40, _, _, _, _, _⟩) rfl (by kernel_rfl) (by decide) (fun K hK => ?_)
          go_simp
          refine (HAR.out _ ((Fr.refl [] wc).drew.alloc _)).mono ?_
          rintro e wz ⟨⟨Rg, Ag, ng, cg, kg, rfl, hap⟩, hfz⟩
          have AP := Lib.hid hap
          have FZ := Lib.hid hfz
          have hbz := Blk.fr (w := _) (g := wc.heap.size) (t := 27) (cs := #[.slice none 0 0, .int .i64 0, .bool false]) (Blk.new wc.drew _ _) hap.fr (by simp)
          have z0 := hbz.frozen 0
          have z1 := hbz.frozen 1
          have z2 := hbz.frozen 2
          have u0 := hbz.cell 0
          have u1 := hbz.cell 1
          have u2 := hbz.cell 2
          have HBZ := Lib.hid hbz
          clear hbz hap hfz
          refine hK.out _ _ ?_ (fun hHeld => ?_)
          · exact HSW.out _ FZ.out
          clear hK K
          try simp only [Act.put, List.setIfInBounds_toArray, List.set_cons_zero, List.set_cons_succ]
          refine wpHead_take (i := 8) (oi := ⟨some 32, _, _, _, _, _⟩) (v := ?_) rfl (by kernel_rfl) (fun _ _ _ h => h) (Or.inl ⟨by rfl, ?_⟩) hHeld ?_
          rotate_left
          · (intro w hSw; (try dsimp only at hSw); go_simp; try with_reducible rfl)
          try simp only [Act.put, List.setIfInBounds_toArray, List.set_cons_zero, List.set_cons_succ]
          refine wpHead_take (i := 9) (oi := ⟨some 41, _, _, _, _, _⟩) (v := ?_) rfl (by kernel_rfl) (fun _ _ _ h => h) (Or.inl ⟨by rfl, ?_⟩) hHeld ?_
          rotate_left
          · (intro w hSw; (try dsimp only at hSw); go_simp; try with_reducible rfl)
          try simp only [Act.put, List.setIfInBounds_toArray, List.set_cons_zero, List.set_cons_succ]
          refine wpHead_take (i := 10) (oi := ⟨some 42, _, _, _, _, _⟩) (v := ?_) rfl (by kernel_rfl) (fun _ _ _ h => h) (Or.inl ⟨by rfl, ?_⟩) hHeld ?_
          rotate_left
          · (intro w hSw; (try dsimp only at hSw); go_simp; try with_reducible rfl)
          try simp only [Act.put, List.setIfInBounds_toArray, List.set_cons_zero, List.set_cons_succ]
          refine wpHead_one (i := 12) (o := ⟨none, _, _, _, _, _⟩) rfl (by kernel_rfl) (by decide) (fun K hK => ?_)
          go_simp
          skip
          refine hK.out _ _ ?_ (fun hHeld => ?_)
          · exact HSW.out _ (((FZ.out.setCell (.inr (Nat.le_refl _)) _).setCell (.inr (Nat.le_refl _)) _).setCell (.inr (Nat.le_refl _)) _)
          clear hK K
          try simp only [Act.put, List.setIfInBounds_toArray, List.set_cons_zero, List.set_cons_succ]
          refine wpHead_done (by kernel_rfl) ?_
          simp only [List.drop_succ_cons, List.drop_zero]
          go_wp2_with fail
          go_meet
          exact ⟨wc.heap.size, Rg, Ag, ng, cg, kg, rfl, rfl, Lib.hid AP.out.out, Lib.hid (RvAt.ofB AP.out HBZ.out).1, Lib.hid AP.out.le, Lib.hid (((FZ.out.setCell (.inr (Nat.le_refl _)) _).setCell (.inr (Nat.le_refl _)) _).setCell (.inr (Nat.le_refl _)) _), Lib.hid (Nat.le_refl _)⟩

      case rest =>
      clear HSW HAR s0
      obtain ⟨gp, Rp, Ap, np, cp, kp, rfl, rfl, HAO, RVp, HLE, Fp, HGp⟩ := hcut
      have RV3 := Lib.hid (RV2.out.fr0 Fp.out)
      have RA3 := Lib.hid (RA2.out.fr0 Fp.out)
      have F3 := Lib.hid (F2.out.trans Fp.out)
      clear RV2 RA2 F2 HC2
      cases kp
      · have HJ0 : Hid (J = none) := Lib.hid (by
          rcases HAO.out.patch with ⟨h, -⟩ | ⟨-, h, -⟩
          · cases h
          · rw [HGO.out, HDR.out, Pm.go_cons, h])
        go_upto_region 9 with (fail)
        have HZF := RA3.out.z
        go_wp2_with (first
          | (refine wpList_build_is rfl _ _ rfl #[.slice none 0 0, .int .i64 0, .bool false] (by kernel_rfl) ?_)
          | (refine wpList_store_blk rfl _ _ _ rfl (w.heap.size + 1 + 1 + 1) #[.slice none 0 0, .int .i64 0, .bool false] rfl rfl 27 _ HZF (by kernel_rfl) rfl rfl ?_; intro w9 hb9 hf9; have HB9 := Lib.hid hb9; have HF9 := Lib.hid hf9; clear hb9 hf9))
        have q0' := HB9.out.cell 0
        have q1' := HB9.out.cell 1
        have q2' := HB9.out.cell 2
        exact bodyPost_ret (v := .tuple #[.agg #[.slice none 0 0, .int .i64 0, .bool false], .bool true, .bool false]) (by simp [results, Try.results19, go_sem, q0', q1', q2']) rfl ⟨_, _, _, _, _, _, _, rfl, PA.zero F3.out HF9.out (by omega) HJ0.out⟩
      · have HPJ : Hid (Pm.patch q R c = some Rp) := Lib.hid (by
          rcases HAO.out.patch with ⟨-, h⟩ | ⟨h, -, -⟩
          · exact h
          · cases h)
        have HJ1 : Hid (J = Pm.go q (cs.drop (j + 1)) Rp tn) := Lib.hid (by rw [HGO.out, HDR.out, Pm.go_cons, HPJ.out, HT.out, HTN.out])
        have HBD := Lib.hid (Pm.patch_bound HPJ.out)
        have hrp : Blk wc gp 27 #[.slice Ap np cp, .int .i64 Rp.value, .bool Rp.found] := RVp.out.blk
        have hro : Blk wc (w.heap.size + 1) 27 #[.slice A3 n3 c3, .int .i64 R.value, .bool R.found] := RV3.out.blk
        go_wp2_with (first
          | (refine wpList_load_row rfl _ _ rfl gp rfl 27 _ (0, 0) _ hrp Try.underlying27 rfl (by kernel_rfl) ?_)
          | (refine wpList_store_blk rfl _ _ _ rfl (w.heap.size + 1) #[.slice Ap np cp, .int .i64 Rp.value, .bool Rp.found] rfl rfl 27 _ hro (by kernel_rfl) rfl rfl ?_; intro wu hbu hfu; have HBU := Lib.hid hbu; have HFU := Lib.hid hfu; clear hbu hfu))
        have RV4 : Hid (RvAt wu (w.heap.size + 1) Ap np cp Rp) := Lib.hid ⟨HBU.out, RVp.out.rows.ne_small hro (by simp) HFU.out, RVp.out.len⟩
        have RA4 := Lib.hid (RA3.out.fr HFU.out (by simp only [List.mem_singleton]; omega) (by simp only [List.mem_singleton]; omega) (by simp only [List.mem_singleton]; omega))
        have F4 := Lib.hid (F3.out.trans' HFU.out (fun i hi => .inr (by rw [List.mem_singleton] at hi; omega)))
        clear hrp hro RV3 RA3 F3 RVp HBU HFU
        go_roundw
        case rel => exact ⟨j + 1, tn, Rp, Ap, np, cp, rfl, by go_num, by omega, HJ1, Lib.hid (by have := HN3.out; have := HLE.out; omega), Lib.hid (by have h1 := HBD.out; have h2 := HMB.out; have h3 := Pm.grow_le h1 h2.1 h2.2; omega), RV4, RA4, F4⟩
        case measure => simp [intOf]; omega
    · obtain rfl : j = nc := by omega
      have HGE : Hid (J = some (R, tb)) := Lib.hid (by rw [HGO.out, List.drop_eq_nil_of_le (by have := HNC.out; omega)]; rfl)
      have hro : Blk wr (w.heap.size + 1) 27 #[.slice A3 n3 c3, .int .i64 R.value, .bool R.found] := RV.out.blk
      have HRF := hro
      have HZF := RA.out.z
      go_wp2_with (first
        | (refine wpList_load_row rfl _ _ rfl (w.heap.size + 1) rfl 27 _ (0, 0) _ HRF Try.underlying27 rfl (by kernel_rfl) ?_)
        | (refine wpList_store_blk rfl _ _ _ rfl (w.heap.size + 1 + 1 + 1) #[.slice A3 n3 c3, .int .i64 R.value, .bool R.found] rfl rfl 27 _ HZF (by kernel_rfl) rfl rfl ?_; intro w9 hb9 hf9; have HB9 := Lib.hid hb9; have HF9 := Lib.hid hf9; clear hb9 hf9))
      have q0' := HB9.out.cell 0
      have q1' := HB9.out.cell 1
      have q2' := HB9.out.cell 2
      exact bodyPost_ret (v := .tuple #[.agg #[.slice A3 n3 c3, .int .i64 R.value, .bool R.found], .bool tb, .bool true]) (by simp [results, Try.results19, go_sem, q0', q1', q2']) rfl ⟨_, _, _, _, _, _, _, rfl, PA.fin F0.out RV.out RA.out.z (by simp) HF9.out (by omega) HN3.out HGE.out⟩
end Go.Proofs.Ytjiikpmkedkbkaa

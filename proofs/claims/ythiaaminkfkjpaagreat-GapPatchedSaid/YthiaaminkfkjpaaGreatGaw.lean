/-
  slices.Clone of rows.
-/
import Derived.Test.YthiaaminkfkjpaaGreatGag
import Derived.Test.YthiaaminkfkjpaaGreatGau
import Derived.Deep.DeepCutAuto
import Derived.Test.YthiaaminkfkjpaaGreatGak
import Derived.OwnWalk
import Derived.WalkSpells
namespace Go.Proofs.YthiaaminkfkjpaaGreat
open Go.RowKit

def encI (x : Int) : List Value := [.int .i64 x]
theorem encI_len (x : Int) : (encI x).length = 1 := rfl
theorem encI_one (x : Int) : ∀ u ∈ encI x, u.oneCell' = true := by
  intro u hu
  simp only [encI, List.mem_singleton] at hu
  subst hu
  rfl
theorem etI : ∃ i z, ET Tryz.prog 23 3 1 8 i z := by
  have h : (Tryz.prog.info? 3).map (fun i => (i.zero, i.size, i.bytes)) = some (some (.int .i64 0), 1, 8) := by kernel_rfl
  obtain ⟨i0, hi, hz0, hz1, hz2⟩ := info_parts h
  exact ⟨i0, _, Tryz.underlying23, hi, hz0, hz1, hz2, rfl, by decide⟩
/-- Integers at an address. -/
def IntRow (w : World) (A : Option Addr) (xs : List Int) : Prop := 0 < xs.length → ∃ b off, A = some ⟨b, off, none⟩ ∧ b < w.heap.size ∧ ∀ k (h : k < xs.length), w.cell? ⟨b, off + k, none⟩ = some (.int .i64 xs[k])
theorem IntRow.fr0 {w w' : World} {A : Option Addr} {xs : List Int} (h : IntRow w A xs) (hf : Fr [] w w') : IntRow w' A xs := by
  intro h0
  obtain ⟨b, off, e, hb, hc⟩ := h h0
  exact ⟨b, off, e, Nat.lt_of_lt_of_le hb hf.size, fun k hk => by rw [hf.cell (p := ⟨b, off + k, none⟩) hb (by simp)]; exact hc k hk⟩
theorem IntRow.of_own {w : World} {A : Option Addr} {n cap : Nat} {xs : List Int} (h : OwnL 3 1 encI w (.slice A n cap) xs) : IntRow w A xs ∧ n = xs.length := by
  obtain ⟨h1, h2⟩ := h.at1 encI_len
  refine ⟨fun h0 => ?_, h2⟩
  obtain ⟨b, off, e, hb, hc⟩ := h1 h0
  refine ⟨b, off, e, hb, fun k hk => ?_⟩
  have h3 := hc k hk 0 (by decide)
  rw [Nat.mul_one, Nat.add_zero] at h3
  exact h3
/-- What a fold does to a number and a flag. -/
def foldS {X : Type} (g : Int → Bool → X → Int × Bool) (l : List X) (s : Int × Bool) : Int × Bool := l.foldl (fun s x => g s.1 s.2 x) s
theorem foldS_take {X : Type} (g : Int → Bool → X → Int × Bool) (l : List X) (s : Int × Bool) {k : Nat} (hk : k < l.length) {n : Int} {f : Bool} (h : foldS g (l.take k) s = (n, f)) : foldS g (l.take (k + 1)) s = g n f l[k] := by
  unfold foldS at *
  rw [List.take_succ_eq_append_getElem hk, List.foldl_append, h]
  rfl
/-- Between two rounds. -/
structure FoRel (w wr : World) (v : Value) (n : Int) (f : Bool) : Prop where
  box : Blk wr w.heap.size 37 #[v, .int .i64 n, .bool f]
  res : Blk wr (w.heap.size + 1) 37 #[.slice none 0 0, .int .i64 0, .bool false]
  fr : Fr [] w wr
theorem FoRel.new (w : World) (v : Value) (n : Int) (f : Bool) : FoRel w ((w.alloc (.cells #[v, .int .i64 n, .bool f] 37)).alloc (.cells #[.slice none 0 0, .int .i64 0, .bool false] 37)) v n f := by
  refine ⟨(Blk.new w _ _).alloc _, ?_, ((Fr.refl _ _).alloc _).alloc _⟩
  have h := Blk.new (w.alloc (.cells #[v, .int .i64 n, .bool f] 37)) 37 #[.slice none 0 0, .int .i64 0, .bool false]
  rw [World.size_alloc] at h
  exact h
theorem FoRel.fr0 {w wr w' : World} {v : Value} {n : Int} {f : Bool} (h : FoRel w wr v n f) (hf : Fr [] wr w') : FoRel w w' v n f := ⟨h.box.fr hf (by simp), h.res.fr hf (by simp), h.fr.trans hf⟩
theorem FoRel.put {w w2 : World} {v : Value} {n : Int} {f : Bool} (h : FoRel w w2 v n f) (n2 : Int) (f2 : Bool) :
    FoRel w (((w2.setCell ⟨w.heap.size, 0, none⟩ v).setCell ⟨w.heap.size, 1, none⟩ (.int .i64 n2)).setCell ⟨w.heap.size, 2, none⟩ (.bool f2)) v n2 f2 := by
  have hf : Fr [w.heap.size] w2 (((w2.setCell ⟨w.heap.size, 0, none⟩ v).setCell ⟨w.heap.size, 1, none⟩ (.int .i64 n2)).setCell ⟨w.heap.size, 2, none⟩ (.bool f2)) := (((Fr.refl _ _).setCell (.inl (by simp)) _).setCell (.inl (by simp)) _).setCell (.inl (by simp)) _
  exact ⟨((h.box.set_ 0 _).set_ 1 _).set_ 2 _, h.res.fr hf (by simp), h.fr.trans' hf (fun x hx => .inr (by simp only [List.mem_singleton] at hx; omega))⟩
theorem FoRel.fin {w w2 : World} {v : Value} {n : Int} {f : Bool} (h : FoRel w w2 v n f) (v2 : Value) (n2 : Int) (f2 : Bool) :
    ∃ w3, ((w2.setCell ⟨w.heap.size + 1, 0, none⟩ v2).setCell ⟨w.heap.size + 1, 1, none⟩ (.int .i64 n2)).setCell ⟨w.heap.size + 1, 2, none⟩ (.bool f2) = w3 ∧
      w3.cell? ⟨w.heap.size + 1, 0, none⟩ = some v2 ∧ w3.cell? ⟨w.heap.size + 1, 1, none⟩ = some (.int .i64 n2) ∧ w3.cell? ⟨w.heap.size + 1, 2, none⟩ = some (.bool f2) ∧ Fr [] w w3 := by
  have hq := ((h.res.set_ 0 v2).set_ 1 (.int .i64 n2)).set_ 2 (.bool f2)
  exact ⟨_, rfl, hq.cell 0, hq.cell 1, hq.cell 2, ((h.fr.setCell (.inr (Nat.le_succ _)) _).setCell (.inr (Nat.le_succ _)) _).setCell (.inr (Nat.le_succ _)) _⟩
set_option maxRecDepth 100000 in
set_option maxHeartbeats 4000000 in
theorem foldI_any (fn : Nat) (cb : Array Value) (g : Int → Bool → Int → Int × Bool) (A : Option Addr) (n cap : Nat) (xs : List Int) (B : Option Addr) (nb cb' : Nat) (m : Int) (f : Bool) (w : World) (hx : IntRow w A xs) (hn : n = xs.length) (hn63 : n ≤ 4000)
    (eg : ∀ args w, (callFunc fn args).run Tryz.prog w = .ok (.enter fn args) w)
    (hg : ∀ (W : World) (x m : Int) (f : Bool), Fr [] w W → Calls Tryz.prog fn (#[.agg #[.slice B nb cb', .int .i64 m, .bool f], .int .i64 x] ++ cb) W fun e w' => e = .returned (.agg #[.slice B nb cb', .int .i64 (g m f x).1, .bool (g m f x).2]) ∧ Fr [] W w') :
    Calls Tryz.prog 48 #[.slice A n cap, .agg #[.slice B nb cb', .int .i64 m, .bool f], .func (.func fn) #[] cb] w fun e w' => e = .returned (.agg #[.slice B nb cb', .int .i64 (foldS g xs (m, f)).1, .bool (foldS g xs (m, f)).2]) ∧ Fr [] w w' := by
  have HG := Lib.hid hg
  have HX := Lib.hid hx
  have HN := Lib.hid hn
  have R0 := Lib.hid (FoRel.new w (.slice B nb cb') m f)
  clear hg hx hn
  go_enter Tryz.func48, Tryz.ntmps48
  go_wp2_with fail
  go_loopw [11] (fun i wr => ∃ (k : Nat) (n1 : Int) (f1 : Bool), k ≤ n ∧ i = .int .i64 k ∧ Hid (FoRel w wr (.slice B nb cb') n1 f1) ∧ Hid (foldS g (xs.take k) (m, f) = (n1, f1))) (fun i _ => n - (intOf i).toNat)
  case atStart => exact ⟨0, m, f, Nat.zero_le _, rfl, R0, Lib.hid rfl⟩
  case round =>
    clear R0
    obtain ⟨k, n1, f1, hk, rfl, R, HS⟩ := hrel
    have b0 : wr.cell? ⟨w.heap.size, 0, none⟩ = some (.slice B nb cb') := R.out.box.cell 0
    have b1 : wr.cell? ⟨w.heap.size, 1, none⟩ = some (.int .i64 n1) := R.out.box.cell 1
    have b2 : wr.cell? ⟨w.heap.size, 2, none⟩ = some (.bool f1) := R.out.box.cell 2
    by_cases hlt : k < n
    · obtain ⟨b, off, rfl, hb, hc⟩ := (HX.out.fr0 R.out.fr) (by rw [← HN.out]; omega)
      have hkx : k < xs.length := by rw [← HN.out]; exact hlt
      have c0 := hc k hkx
      have HS' := Lib.hid (foldS_take g xs (m, f) hkx HS.out)
      generalize xs[k] = x at c0 HS'
      clear hb hc
      have HC := Lib.hid (HG.out wr x n1 f1 R.out.fr)
      obtain ⟨n2, f2, hnf⟩ : ∃ n2 f2, g n1 f1 x = (n2, f2) := ⟨_, _, rfl⟩
      rw [hnf] at HC HS'
      dsimp only at HC
      clear hnf
      go_wp2_with (go_at_fn fn; refine HC.out.mono ?_; rintro e w2 ⟨rfl, hf2⟩; have R2 := Lib.hid (R.out.fr0 hf2); have z0 := R2.out.box.frozen 0; have z1 := R2.out.box.frozen 1; have z2 := R2.out.box.frozen 2; have y0 : w2.cell? ⟨w.heap.size, 0, none⟩ = some (.slice B nb cb') := R2.out.box.cell 0; have y1 : w2.cell? ⟨w.heap.size, 1, none⟩ = some (.int .i64 n1) := R2.out.box.cell 1; have y2 : w2.cell? ⟨w.heap.size, 2, none⟩ = some (.bool f1) := R2.out.box.cell 2; clear hf2)
      go_roundw
      case rel => exact ⟨k + 1, n2, f2, by omega, by go_num, Lib.hid (R2.out.put n2 f2), HS'⟩
      case measure => simp [intOf]; omega
    · obtain rfl : k = n := by omega
      have hres : foldS g xs (m, f) = (n1, f1) := by
        have h := HS.out
        rwa [HN.out, List.take_length] at h
      have HRS := Lib.hid hres
      have z0 := R.out.res.frozen 0
      have z1 := R.out.res.frozen 1
      have z2 := R.out.res.frozen 2
      have r0 : wr.cell? ⟨w.heap.size + 1, 0, none⟩ = some (.slice none 0 0) := R.out.res.cell 0
      have r1 : wr.cell? ⟨w.heap.size + 1, 1, none⟩ = some (.int .i64 0) := R.out.res.cell 1
      have r2 : wr.cell? ⟨w.heap.size + 1, 2, none⟩ = some (.bool false) := R.out.res.cell 2
      have FIN := Lib.hid (R.out.fin (.slice B nb cb') n1 f1)
      clear hres
      go_wp2_with fail
      obtain ⟨w3, e3, q0, q1, q2, f3⟩ := FIN.out
      rw [e3]
      refine bodyPost_ret (v := .agg #[.slice B nb cb', .int .i64 n1, .bool f1]) (by simp [results, Tryz.results48, go_sem, q0, q1, q2]) rfl ⟨by rw [HRS.out], f3⟩
set_option maxRecDepth 100000 in
set_option maxHeartbeats 4000000 in
theorem foldR_any (fn : Nat) (cb : Array Value) (g : Int → Bool → RowV → Int × Bool) (A : Option Addr) (n cap : Nat) (xs : List RowV) (B : Option Addr) (nb cb' : Nat) (m : Int) (f : Bool) (w : World) (hx : RowsAt w A xs) (hn : n = xs.length) (hn63 : n ≤ 4000)
    (eg : ∀ args w, (callFunc fn args).run Tryz.prog w = .ok (.enter fn args) w)
    (hg : ∀ (W : World) (x : RowV) (m : Int) (f : Bool), Fr [] w W → Calls Tryz.prog fn (#[.agg #[.slice B nb cb', .int .i64 m, .bool f], x.val] ++ cb) W fun e w' => e = .returned (.agg #[.slice B nb cb', .int .i64 (g m f x).1, .bool (g m f x).2]) ∧ Fr [] W w') :
    Calls Tryz.prog 46 #[.slice A n cap, .agg #[.slice B nb cb', .int .i64 m, .bool f], .func (.func fn) #[] cb] w fun e w' => e = .returned (.agg #[.slice B nb cb', .int .i64 (foldS g xs (m, f)).1, .bool (foldS g xs (m, f)).2]) ∧ Fr [] w w' := by
  have HG := Lib.hid hg
  have HX := Lib.hid hx
  have HN := Lib.hid hn
  have R0 := Lib.hid (FoRel.new w (.slice B nb cb') m f)
  clear hg hx hn
  go_enter Tryz.func46, Tryz.ntmps46
  go_wp2_with fail
  go_loopw [11] (fun i wr => ∃ (k : Nat) (n1 : Int) (f1 : Bool), k ≤ n ∧ i = .int .i64 k ∧ Hid (FoRel w wr (.slice B nb cb') n1 f1) ∧ Hid (foldS g (xs.take k) (m, f) = (n1, f1))) (fun i _ => n - (intOf i).toNat)
  case atStart => exact ⟨0, m, f, Nat.zero_le _, rfl, R0, Lib.hid rfl⟩
  case round =>
    clear R0
    obtain ⟨k, n1, f1, hk, rfl, R, HS⟩ := hrel
    have b0 : wr.cell? ⟨w.heap.size, 0, none⟩ = some (.slice B nb cb') := R.out.box.cell 0
    have b1 : wr.cell? ⟨w.heap.size, 1, none⟩ = some (.int .i64 n1) := R.out.box.cell 1
    have b2 : wr.cell? ⟨w.heap.size, 2, none⟩ = some (.bool f1) := R.out.box.cell 2
    by_cases hlt : k < n
    · obtain ⟨b, off, rfl, hb, hc⟩ := (HX.out.fr R.out.fr (by simp)) (by rw [← HN.out]; omega)
      have hkx : k < xs.length := by rw [← HN.out]; exact hlt
      have c0 := hc k hkx 0 (by decide)
      have c1 := hc k hkx 1 (by decide)
      have c2 := hc k hkx 2 (by decide)
      have c3 := hc k hkx 3 (by decide)
      have c4 := hc k hkx 4 (by decide)
      have HS' := Lib.hid (foldS_take g xs (m, f) hkx HS.out)
      generalize xs[k] = x at c0 c1 c2 c3 c4 HS'
      obtain ⟨rt, rk, rx, ry, rz⟩ := x
      have d0 : wr.cell? ⟨b, off + k * 5, none⟩ = some (.int .i64 rt) := c0
      have d1 : wr.cell? ⟨b, off + k * 5 + 1, none⟩ = some (.int .i64 rk) := c1
      have d2 : wr.cell? ⟨b, off + k * 5 + 2, none⟩ = some (.int .i64 rx) := c2
      have d3 : wr.cell? ⟨b, off + k * 5 + 3, none⟩ = some (.int .i64 ry) := c3
      have d4 : wr.cell? ⟨b, off + k * 5 + 4, none⟩ = some (.int .i64 rz) := c4
      clear c0 c1 c2 c3 c4
      clear hb hc
      have RA := Lib.hid (R.out.fr0 ((Fr.refl [] wr).alloc (.cells #[.int .i64 rt, .int .i64 rk, .int .i64 rx, .int .i64 ry, .int .i64 rz] 67)))
      have p0 : (wr.alloc (.cells #[.int .i64 rt, .int .i64 rk, .int .i64 rx, .int .i64 ry, .int .i64 rz] 67)).cell? ⟨w.heap.size, 0, none⟩ = some (.slice B nb cb') := RA.out.box.cell 0
      have p1 : (wr.alloc (.cells #[.int .i64 rt, .int .i64 rk, .int .i64 rx, .int .i64 ry, .int .i64 rz] 67)).cell? ⟨w.heap.size, 1, none⟩ = some (.int .i64 n1) := RA.out.box.cell 1
      have p2 : (wr.alloc (.cells #[.int .i64 rt, .int .i64 rk, .int .i64 rx, .int .i64 ry, .int .i64 rz] 67)).cell? ⟨w.heap.size, 2, none⟩ = some (.bool f1) := RA.out.box.cell 2
      have HC := Lib.hid (HG.out _ ⟨rt, rk, rx, ry, rz⟩ n1 f1 RA.out.fr)
      obtain ⟨n2, f2, hnf⟩ : ∃ n2 f2, g n1 f1 ⟨rt, rk, rx, ry, rz⟩ = (n2, f2) := ⟨_, _, rfl⟩
      rw [hnf] at HC HS'
      dsimp only at HC
      clear hnf
      go_wp2_with (go_at_fn fn; refine HC.out.mono ?_; rintro e w2 ⟨rfl, hf2⟩; have R2 := Lib.hid (RA.out.fr0 hf2); have z0 := R2.out.box.frozen 0; have z1 := R2.out.box.frozen 1; have z2 := R2.out.box.frozen 2; have y0 : w2.cell? ⟨w.heap.size, 0, none⟩ = some (.slice B nb cb') := R2.out.box.cell 0; have y1 : w2.cell? ⟨w.heap.size, 1, none⟩ = some (.int .i64 n1) := R2.out.box.cell 1; have y2 : w2.cell? ⟨w.heap.size, 2, none⟩ = some (.bool f1) := R2.out.box.cell 2; clear hf2)
      go_roundw
      case rel => exact ⟨k + 1, n2, f2, by omega, by go_num, Lib.hid (R2.out.put n2 f2), HS'⟩
      case measure => simp [intOf]; omega
    · obtain rfl : k = n := by omega
      have hres : foldS g xs (m, f) = (n1, f1) := by
        have h := HS.out
        rwa [HN.out, List.take_length] at h
      have HRS := Lib.hid hres
      have z0 := R.out.res.frozen 0
      have z1 := R.out.res.frozen 1
      have z2 := R.out.res.frozen 2
      have r0 : wr.cell? ⟨w.heap.size + 1, 0, none⟩ = some (.slice none 0 0) := R.out.res.cell 0
      have r1 : wr.cell? ⟨w.heap.size + 1, 1, none⟩ = some (.int .i64 0) := R.out.res.cell 1
      have r2 : wr.cell? ⟨w.heap.size + 1, 2, none⟩ = some (.bool false) := R.out.res.cell 2
      have FIN := Lib.hid (R.out.fin (.slice B nb cb') n1 f1)
      clear hres
      go_wp2_with fail
      obtain ⟨w3, e3, q0, q1, q2, f3⟩ := FIN.out
      rw [e3]
      refine bodyPost_ret (v := .agg #[.slice B nb cb', .int .i64 n1, .bool f1]) (by simp [results, Tryz.results46, go_sem, q0, q1, q2]) rfl ⟨by rw [HRS.out], f3⟩
end Go.Proofs.YthiaaminkfkjpaaGreat
namespace Go.Proofs.YthiaaminkfkjpaaGreat
open Go.RowKit

/-- A result in memory. -/
def RsAt (w : World) (g : Nat) (v : Value) (n : Int) (f : Bool) : Prop := Blk w g 37 #[v, .int .i64 n, .bool f]
section
variable {w w' : World} {g : Nat} {v : Value} {n : Int} {f : Bool}
theorem RsAt.c0 (h : RsAt w g v n f) : w.cell? ⟨g, 0, none⟩ = some v := Blk.cell h 0
theorem RsAt.c1 (h : RsAt w g v n f) : w.cell? ⟨g, 1, none⟩ = some (.int .i64 n) := Blk.cell h 1
theorem RsAt.c2 (h : RsAt w g v n f) : w.cell? ⟨g, 2, none⟩ = some (.bool f) := Blk.cell h 2
theorem RsAt.z (h : RsAt w g v n f) (k : Nat) : w.frozen? ⟨g, k, none⟩ = false := Blk.frozen h k
theorem RsAt.new (w : World) (v : Value) (n : Int) (f : Bool) : RsAt (w.alloc (.cells #[v, .int .i64 n, .bool f] 37)) w.heap.size v n f := Blk.new _ _ _
theorem RsAt.fr {S : List Nat} (h : RsAt w g v n f) (hf : Fr S w w') (hs : g ∉ S) : RsAt w' g v n f := Blk.fr h hf hs
theorem RsAt.fill (h : RsAt w g v n f) (v2 : Value) (n2 : Int) (f2 : Bool) :
    ∃ w3, ((w.setCell ⟨g, 0, none⟩ v2).setCell ⟨g, 1, none⟩ (.int .i64 n2)).setCell ⟨g, 2, none⟩ (.bool f2) = w3 ∧ RsAt w3 g v2 n2 f2 ∧ Fr [g] w w3 :=
  ⟨_, rfl, ((Blk.set_ h 0 v2).set_ 1 (.int .i64 n2)).set_ 2 (.bool f2), (((Fr.refl [g] w).setCell (.inl (by simp)) _).setCell (.inl (by simp)) _).setCell (.inl (by simp)) _⟩
end
set_option maxRecDepth 100000 in
/-- A sum's closure. -/
theorem plus_any (B : Option Addr) (nb cb : Nat) (m x : Int) (f : Bool) (w : World) :
    Calls Tryz.prog 50 #[.agg #[.slice B nb cb, .int .i64 m, .bool f], .int .i64 x] w fun e w' => e = .returned (.agg #[.slice B nb cb, .int .i64 (wrap64 (m + x)), .bool f]) ∧ Fr [] w w' := by
  have hb := (RsAt.new w (.slice B nb cb) m f).fr ((Fr.refl [] _).alloc (.cells #[.slice none 0 0, .int .i64 0, .bool false] 37)) (by simp)
  have hr := RsAt.new (w.alloc (.cells #[.slice B nb cb, .int .i64 m, .bool f] 37)) (.slice none 0 0) 0 false
  rw [World.size_alloc] at hr
  have F0 := Lib.hid (((Fr.refl [] w).alloc (.cells #[.slice B nb cb, .int .i64 m, .bool f] 37)).alloc (.cells #[.slice none 0 0, .int .i64 0, .bool false] 37))
  go_enter Tryz.func50, Tryz.ntmps50
  go_upto_region 1 with (fail)
  generalize (w.alloc (.cells #[.slice B nb cb, .int .i64 m, .bool f] 37)).alloc (.cells #[.slice none 0 0, .int .i64 0, .bool false] 37) = w2 at *
  have b0 := hb.c0
  have b1 := hb.c1
  have b2 := hb.c2
  have zb := hb.z 1
  have r0 := hr.c0
  have r1 := hr.c1
  have r2 := hr.c2
  have z0 := hr.z 0
  have z1 := hr.z 1
  have z2 := hr.z 2
  have HR := Lib.hid hr
  clear hb hr
  go_wp2_with fail
  have hf1 : Fr [w.heap.size] w2 (w2.setCell ⟨w.heap.size, 1, none⟩ (.int .i64 (wrap64 (m + x)))) := (Fr.refl _ _).setCell (.inl (by simp)) _
  obtain ⟨w3, e3, h3, f3⟩ := (HR.out.fr hf1 (by simp)).fill (.slice B nb cb) (wrap64 (m + x)) f
  have q0 := h3.c0
  have q1 := h3.c1
  have q2 := h3.c2
  rw [e3]
  exact bodyPost_ret (v := .agg #[.slice B nb cb, .int .i64 (wrap64 (m + x)), .bool f]) (by simp [results, Tryz.results50, go_sem, q0, q1, q2]) rfl ⟨rfl, (F0.out.trans' hf1 (by simp)).trans' f3 (by simp)⟩
set_option maxRecDepth 100000 in
/-- A count's closure. -/
theorem count_any (B : Option Addr) (nb cb : Nat) (m : Int) (r : RowV) (f : Bool) (w : World) :
    Calls Tryz.prog 47 #[.agg #[.slice B nb cb, .int .i64 m, .bool f], r.val] w fun e w' => e = .returned (.agg #[.slice B nb cb, .int .i64 (wrap64 (m + 1)), .bool f]) ∧ Fr [] w w' := by
  have hb := (RsAt.new w (.slice B nb cb) m f).fr (((Fr.refl [] _).alloc (.cells #[.int .i64 r.t, .int .i64 r.k, .int .i64 r.x, .int .i64 r.y, .int .i64 r.z] 67)).alloc (.cells #[.slice none 0 0, .int .i64 0, .bool false] 37)) (by simp)
  have hr := RsAt.new ((w.alloc (.cells #[.slice B nb cb, .int .i64 m, .bool f] 37)).alloc (.cells #[.int .i64 r.t, .int .i64 r.k, .int .i64 r.x, .int .i64 r.y, .int .i64 r.z] 67)) (.slice none 0 0) 0 false
  rw [World.size_alloc, World.size_alloc] at hr
  have F0 := Lib.hid ((((Fr.refl [] w).alloc (.cells #[.slice B nb cb, .int .i64 m, .bool f] 37)).alloc (.cells #[.int .i64 r.t, .int .i64 r.k, .int .i64 r.x, .int .i64 r.y, .int .i64 r.z] 67)).alloc (.cells #[.slice none 0 0, .int .i64 0, .bool false] 37))
  go_enter Tryz.func47, Tryz.ntmps47
  go_upto_region 1 with (fail)
  generalize ((w.alloc (.cells #[.slice B nb cb, .int .i64 m, .bool f] 37)).alloc (.cells #[.int .i64 r.t, .int .i64 r.k, .int .i64 r.x, .int .i64 r.y, .int .i64 r.z] 67)).alloc (.cells #[.slice none 0 0, .int .i64 0, .bool false] 37) = w2 at *
  have b0 := hb.c0
  have b1 := hb.c1
  have b2 := hb.c2
  have zb := hb.z 1
  have r0 := hr.c0
  have r1 := hr.c1
  have r2 := hr.c2
  have z0 := hr.z 0
  have z1 := hr.z 1
  have z2 := hr.z 2
  have HR := Lib.hid hr
  clear hb hr
  go_wp2_with fail
  have hf1 : Fr [w.heap.size] w2 (w2.setCell ⟨w.heap.size, 1, none⟩ (.int .i64 (wrap64 (m + 1)))) := (Fr.refl _ _).setCell (.inl (by simp)) _
  obtain ⟨w3, e3, h3, f3⟩ := (HR.out.fr hf1 (by simp; omega)).fill (.slice B nb cb) (wrap64 (m + 1)) f
  have q0 := h3.c0
  have q1 := h3.c1
  have q2 := h3.c2
  rw [e3]
  exact bodyPost_ret (v := .agg #[.slice B nb cb, .int .i64 (wrap64 (m + 1)), .bool f]) (by simp [results, Tryz.results47, go_sem, q0, q1, q2]) rfl ⟨rfl, (F0.out.trans' hf1 (by simp)).trans' f3 (by simp; omega)⟩
theorem less_any (a b : Int) (w : World) : Calls Tryz.prog 52 #[.int .i64 a, .int .i64 b] w fun e w' => e = .returned (.bool (decide (a < b))) ∧ w = w' := by
  go_enter Tryz.func52, Tryz.ntmps52
  go_wp2
  go_ret
  exact ⟨rfl, rfl⟩
theorem more_any (a b : Int) (w : World) : Calls Tryz.prog 53 #[.int .i64 a, .int .i64 b] w fun e w' => e = .returned (.bool (decide (b < a))) ∧ w = w' := by
  go_enter Tryz.func53, Tryz.ntmps53
  go_wp2
  go_ret
  exact ⟨rfl, rfl⟩
set_option maxRecDepth 100000 in
theorem extreme_any (lf : Nat) (w : World) : Calls Tryz.prog 51 #[.func (.func lf) #[] #[]] w fun e w' => e = .returned (.func (.func 67) #[] #[.pointer (some ⟨w.heap.size, 0, none⟩)]) ∧ Blk w' w.heap.size 105 #[.func (.func lf) #[] #[]] ∧ Fr [] w w' := by
  go_enter Tryz.func51, Tryz.ntmps51
  go_wp2
  go_ret
  exact ⟨rfl, Blk.new _ _ _, (Fr.refl _ _).alloc _⟩
set_option maxRecDepth 100000 in
/-- The least (by L) of what has come. -/
theorem extreme1_any (lf g : Nat) (L : Int → Int → Bool) (B : Option Addr) (nb cb : Nat) (m x : Int) (f : Bool) (w : World) (hg : Blk w g 105 #[.func (.func lf) #[] #[]]) (eg : ∀ args w, (callFunc lf args).run Tryz.prog w = .ok (.enter lf args) w)
    (hl : ∀ (a b : Int) (w : World), Calls Tryz.prog lf #[.int .i64 a, .int .i64 b] w fun e w' => e = .returned (.bool (L a b)) ∧ w = w') :
    Calls Tryz.prog 67 #[.agg #[.slice B nb cb, .int .i64 m, .bool f], .int .i64 x, .pointer (some ⟨g, 0, none⟩)] w fun e w' => e = .returned (.agg #[.slice B nb cb, .int .i64 (if f = false ∨ L x m = true then x else m), .bool true]) ∧ Fr [] w w' := by
  have HL := Lib.hid hl
  clear hl
  obtain ⟨y, HY⟩ : ∃ y, Hid ((if f = false ∨ L x m = true then x else m) = y) := ⟨_, Lib.hid rfl⟩
  rw [HY.out]
  have hb := (RsAt.new w (.slice B nb cb) m f).fr ((Fr.refl [] _).alloc (.cells #[.slice none 0 0, .int .i64 0, .bool false] 37)) (by simp)
  have hr := RsAt.new (w.alloc (.cells #[.slice B nb cb, .int .i64 m, .bool f] 37)) (.slice none 0 0) 0 false
  rw [World.size_alloc] at hr
  have F0 := Lib.hid (((Fr.refl [] w).alloc (.cells #[.slice B nb cb, .int .i64 m, .bool f] 37)).alloc (.cells #[.slice none 0 0, .int .i64 0, .bool false] 37))
  have hg2 := hg.fr F0.out (by simp)
  go_enter Tryz.func67, Tryz.ntmps67
  go_upto_region 1 with (fail)
  generalize (w.alloc (.cells #[.slice B nb cb, .int .i64 m, .bool f] 37)).alloc (.cells #[.slice none 0 0, .int .i64 0, .bool false] 37) = w2 at *
  have b0 := hb.c0
  have b1 := hb.c1
  have b2 := hb.c2
  have zb1 := hb.z 1
  have zb2 := hb.z 2
  have r0 := hr.c0
  have r1 := hr.c1
  have r2 := hr.c2
  have z0 := hr.z 0
  have z1 := hr.z 1
  have z2 := hr.z 2
  have gc : w2.cell? ⟨g, 0, none⟩ = some (.func (.func lf) #[] #[]) := hg2.cell 0
  have HR := Lib.hid hr
  clear hb hr hg hg2
  have hkeep : Hid (∀ _ : Int, ∃ w3, ((((w2.setCell ⟨w.heap.size, 2, none⟩ (.bool true)).setCell ⟨w.heap.size + 1, 0, none⟩ (.slice B nb cb)).setCell ⟨w.heap.size + 1, 1, none⟩ (.int .i64 m)).setCell ⟨w.heap.size + 1, 2, none⟩ (.bool true)) = w3 ∧ RsAt w3 (w.heap.size + 1) (.slice B nb cb) m true ∧ Fr [] w w3) := Lib.hid (fun _ => by
    have hf1 : Fr [w.heap.size] w2 (w2.setCell ⟨w.heap.size, 2, none⟩ (.bool true)) := (Fr.refl _ _).setCell (.inl (by simp)) _
    obtain ⟨w3, e3, h3, f3⟩ := (HR.out.fr hf1 (by simp)).fill (.slice B nb cb) m true
    exact ⟨w3, e3, h3, (F0.out.trans' hf1 (by simp)).trans' f3 (by simp)⟩)
  have htake : Hid (∀ _ : Int, ∃ w3, (((((w2.setCell ⟨w.heap.size, 1, none⟩ (.int .i64 x)).setCell ⟨w.heap.size, 2, none⟩ (.bool true)).setCell ⟨w.heap.size + 1, 0, none⟩ (.slice B nb cb)).setCell ⟨w.heap.size + 1, 1, none⟩ (.int .i64 x)).setCell ⟨w.heap.size + 1, 2, none⟩ (.bool true)) = w3 ∧ RsAt w3 (w.heap.size + 1) (.slice B nb cb) x true ∧ Fr [] w w3) := Lib.hid (fun _ => by
    have hf1 : Fr [w.heap.size] w2 ((w2.setCell ⟨w.heap.size, 1, none⟩ (.int .i64 x)).setCell ⟨w.heap.size, 2, none⟩ (.bool true)) := ((Fr.refl _ _).setCell (.inl (by simp)) _).setCell (.inl (by simp)) _
    obtain ⟨w3, e3, h3, f3⟩ := (HR.out.fr hf1 (by simp)).fill (.slice B nb cb) x true
    exact ⟨w3, e3, h3, (F0.out.trans' hf1 (by simp)).trans' f3 (by simp)⟩)
  cases hff : f
  · subst hff
    go_wp2_with fail
    obtain ⟨w3, e3, h3, f3⟩ := htake.out 0
    have q0 := h3.c0
    have q1 := h3.c1
    have q2 := h3.c2
    rw [e3]
    exact bodyPost_ret (v := .agg #[.slice B nb cb, .int .i64 x, .bool true]) (by simp [results, Tryz.results67, go_sem, q0, q1, q2]) rfl ⟨by rw [← HY.out]; simp, f3⟩
  · subst hff
    cases hlx : L x m
    · have HLX := Lib.hid hlx
      go_wp2_with (go_at_fn lf; refine (HL.out _ _ _).mono ?_; rintro e w' ⟨rfl, rfl⟩)
      obtain ⟨w3, e3, h3, f3⟩ := hkeep.out 0
      have q0 := h3.c0
      have q1 := h3.c1
      have q2 := h3.c2
      rw [e3]
      exact bodyPost_ret (v := .agg #[.slice B nb cb, .int .i64 m, .bool true]) (by simp [results, Tryz.results67, go_sem, q0, q1, q2]) rfl ⟨by rw [← HY.out]; simp [HLX.out], f3⟩
    · have HLX := Lib.hid hlx
      go_wp2_with (go_at_fn lf; refine (HL.out _ _ _).mono ?_; rintro e w' ⟨rfl, rfl⟩)
      obtain ⟨w3, e3, h3, f3⟩ := htake.out 0
      have q0 := h3.c0
      have q1 := h3.c1
      have q2 := h3.c2
      rw [e3]
      exact bodyPost_ret (v := .agg #[.slice B nb cb, .int .i64 x, .bool true]) (by simp [results, Tryz.results67, go_sem, q0, q1, q2]) rfl ⟨by rw [← HY.out]; simp [HLX.out], f3⟩
end Go.Proofs.YthiaaminkfkjpaaGreat
namespace Go.Proofs.YthiaaminkfkjpaaGreat
open Go.RowKit

/-- Between two rounds of measures. -/
structure MeRel (w wr : World) (q : Qry) (v : Value) (l : List Int) : Prop where
  box : QAt wr w.heap.size q
  own : OwnL 3 1 encI wr v l
  fr : Fr [] w wr
  new : ∀ g, v.ownBlock = some g → w.heap.size < g
theorem MeRel.fr0 {w wr w' : World} {q : Qry} {v : Value} {l : List Int} (h : MeRel w wr q v l) (hf : Fr [] wr w') : MeRel w w' q v l := ⟨h.box.fr hf (by simp), h.own.fr hf (by simp), h.fr.trans hf, h.new⟩
theorem MeRel.grown {w wr w' : World} {q : Qry} {v v' : Value} {l : List Int} {x : Int} (h : MeRel w wr q v l) (ho : OwnL 3 1 encI w' v' (l ++ [x])) (hg : wr.grownBy w' v.ownBlock) (hat : v'.ownBlock = v.ownBlock ∨ v'.ownBlock = some wr.heap.size) : MeRel w w' q v' (l ++ [x]) := by
  have hf : Fr v.ownBlock.toList wr w' := (Fr.refl _ _).grown hg (fun g hg => .inl (Option.mem_toList.2 hg))
  have hlt := Blk.lt h.box
  refine ⟨h.box.fr hf (fun hm => ?_), ho, h.fr.trans' hf (fun g hm => .inr (Nat.le_of_lt (h.new g (Option.mem_toList.1 hm)))), fun g hgg => ?_⟩
  · have := h.new _ (Option.mem_toList.1 hm)
    omega
  · rcases hat with e | e
    · exact h.new g (e ▸ hgg)
    · rw [hgg] at e
      injection e with e
      omega
set_option maxRecDepth 100000 in
set_option maxHeartbeats 4000000 in
theorem measures_any (q : Qry) (A : Option Addr) (n cap : Nat) (rows : List RowV) (w : World) (hx : RowsAt w A rows) (hn : n = rows.length) (hl : n ≤ 4000) :
    Calls Tryz.prog 49 #[q.val, .slice A n cap] w fun e w' => ∃ A2 c2, e = .returned (.slice A2 n c2) ∧ OwnL 3 1 encI w' (.slice A2 n c2) (Em.meas q rows) ∧ Fr [] w w' ∧ ∀ g, (Value.slice A2 n c2).ownBlock = some g → w.heap.size < g := by
  have HX := Lib.hid hx
  have HN := Lib.hid hn
  clear hx hn
  have HB := Lib.hid (QAt.new w q)
  have F0 := Lib.hid ((Fr.refl [] w).alloc (.cells #[.int .i64 q.kind, .int .i64 q.table, .int .i64 q.column, .int .i64 q.low, .int .i64 q.high, .int .i64 q.by_, .int .i64 q.other] 30))
  have hs0 : (w.alloc (.cells #[.int .i64 q.kind, .int .i64 q.table, .int .i64 q.column, .int .i64 q.low, .int .i64 q.high, .int .i64 q.by_, .int .i64 q.other] 30)).heap.size = w.heap.size + 1 := World.size_alloc _ _
  obtain ⟨i0, z, TI⟩ := etI
  unfold Qry.val
  go_enter Tryz.func49, Tryz.ntmps49
  go_upto_region 1 with (fail)
  have HS0 := Lib.hid hs0
  clear hs0
  generalize w.alloc (.cells #[.int .i64 q.kind, .int .i64 q.table, .int .i64 q.column, .int .i64 q.low, .int .i64 q.high, .int .i64 q.by_, .int .i64 q.other] 30) = w1 at *
  go_wp2_with (at_make; refine wpList_make_own _ rfl _ _ _ rfl 0 _ i0 z 1 TI.ht TI.hi TI.hz TI.hs _ _ _ n rfl rfl rfl (by rw [TI.hb]; omega) (Nat.le_trans hl (by decide)) (Nat.zero_le _) ?_; intro w2 hown2 hg2; have R0 := Lib.hid (show MeRel w w2 q (.slice (some ⟨w1.heap.size, 0, none⟩) 0 n) [] from ⟨HB.out.fr ((Fr.refl [] _).grown hg2 (fun g h => by cases h)) (by simp), hown2, F0.out.trans ((Fr.refl [] _).grown hg2 (fun g h => by cases h)), fun g hg => by simp only [Value.ownBlock, Option.some.injEq] at hg; rw [HS0.out] at hg; omega⟩); clear hown2 hg2)
  go_loopw [5, 13] (fun v i wr => ∃ (k : Nat) (A2 : Option Addr) (n2 c2 : Nat), k ≤ n ∧ i = .int .i64 k ∧ v = .slice A2 n2 c2 ∧ Hid (MeRel w wr q (.slice A2 n2 c2) (Em.meas q (rows.take k)))) (fun _ i _ => n - (intOf i).toNat)
  case atStart => exact ⟨0, _, _, _, Nat.zero_le _, rfl, rfl, R0⟩
  case round =>
    clear R0
    obtain ⟨k, A2, n2, c2, hk, rfl, rfl, R⟩ := hrel
    by_cases hlt : k < n
    · obtain ⟨b, off, rfl, hb, hc⟩ := (HX.out.fr R.out.fr (by simp)) (by rw [← HN.out]; omega)
      have hkx : k < rows.length := by rw [← HN.out]; exact hlt
      have c0 := hc k hkx 0 (by decide)
      have c1 := hc k hkx 1 (by decide)
      have c2' := hc k hkx 2 (by decide)
      have c3 := hc k hkx 3 (by decide)
      have c4 := hc k hkx 4 (by decide)
      have HT : Hid (Em.meas q (rows.take (k + 1)) = Em.meas q (rows.take k) ++ [rows[k].value q.by_]) := Lib.hid (by unfold Em.meas; rw [List.take_succ_eq_append_getElem hkx, List.map_append, List.map_singleton])
      have hlen : Hid ((Em.meas q (rows.take k)).length = k) := Lib.hid (by unfold Em.meas; rw [List.length_map, List.length_take]; omega)
      generalize rows[k] = x at c0 c1 c2' c3 c4 HT
      obtain ⟨rt, rk, rx, ry, rz⟩ := x
      have d0 : wr.cell? ⟨b, off + k * 5, none⟩ = some (.int .i64 rt) := c0
      have d1 : wr.cell? ⟨b, off + k * 5 + 1, none⟩ = some (.int .i64 rk) := c1
      have d2 : wr.cell? ⟨b, off + k * 5 + 2, none⟩ = some (.int .i64 rx) := c2'
      have d3 : wr.cell? ⟨b, off + k * 5 + 3, none⟩ = some (.int .i64 ry) := c3
      have d4 : wr.cell? ⟨b, off + k * 5 + 4, none⟩ = some (.int .i64 rz) := c4
      clear c0 c1 c2' c3 c4 hb hc
      have RA := Lib.hid (R.out.fr0 ((Fr.refl [] wr).alloc (.cells #[.int .i64 rt, .int .i64 rk, .int .i64 rx, .int .i64 ry, .int .i64 rz] 67)))
      have q5 : (wr.alloc (.cells #[.int .i64 rt, .int .i64 rk, .int .i64 rx, .int .i64 ry, .int .i64 rz] 67)).cell? ⟨w.heap.size, 5, none⟩ = some (.int .i64 q.by_) := RA.out.box.c5
      obtain ⟨y, HY⟩ : ∃ y, Hid (y = RowV.value ⟨rt, rk, rx, ry, rz⟩ q.by_) := ⟨_, Lib.hid rfl⟩
      have HV := Lib.hid (value5 rt rk rx ry rz q.by_ (wr.alloc (.cells #[.int .i64 rt, .int .i64 rk, .int .i64 rx, .int .i64 ry, .int .i64 rz] 67)))
      rw [← HY.out] at HT HV
      go_wp2_with (first | (go_at_call 57; refine HV.out.mono ?_; rintro e w2 ⟨rfl, hw2⟩; have F2 : Fr [] (wr.alloc (.cells #[.int .i64 rt, .int .i64 rk, .int .i64 rx, .int .i64 ry, .int .i64 rz] 67)) w2 := (by rw [hw2]; exact (Fr.refl _ _).alloc _); have R2 := Lib.hid ((RA.out.fr0 F2).fr0 ((Fr.refl [] w2).alloc (.cells #[.int .i64 y] 3))); clear hw2 F2) | (at_builtin; refine wpList_appendL rfl _ _ rfl TI encI_len encI_one rfl R2.out.own (w2.heap.size + 1) _ _ _ [y] rfl rfl (reads_new (enc := encI) w2 3 y rfl) (by rw [hlen.out]; simp only [maxLen, List.length_singleton]; omega) (by rw [hlen.out]; simp only [List.length_singleton]; omega) ?_; intro v5 w5 hown5 hg5 hat5; have R5 := Lib.hid (R2.out.grown hown5 hg5 hat5); rw [← HT.out] at R5; obtain ⟨A5, n5, c5, hv5⟩ : ∃ A n c, v5 = .slice A n c := (match hown5.val with | ⟨_, _, hv⟩ => ⟨_, _, _, hv⟩); subst hv5; clear hown5 hg5 hat5))
      go_roundw
      case rel => exact ⟨k + 1, A5, n5, c5, by omega, by go_num, rfl, R5⟩
      case measure => simp [intOf]; omega
    · obtain rfl : k = n := by omega
      have hl2 : n2 = (Em.meas q (rows.take k)).length := (IntRow.of_own R.out.own).2
      have hn2 : n2 = k := by rw [hl2]; unfold Em.meas; rw [List.length_map, List.length_take, ← HN.out]; omega
      subst hn2
      have ho := R.out.own
      rw [HN.out, List.take_length] at ho
      rw [← HN.out] at ho
      have HO := Lib.hid ho
      clear ho hl2
      go_wp2_with fail
      go_ret
      exact ⟨A2, c2, rfl, HO.out, R.out.fr, R.out.new⟩
end Go.Proofs.YthiaaminkfkjpaaGreat
namespace Go.Proofs.YthiaaminkfkjpaaGreat
open Go.RowKit

theorem reads_of_rows {w : World} {A : Option Addr} {l : List RowV} (h : RowsAt w A l) : Reads w w.heap.size 5 A l.length (l.flatMap RowV.cells) := by
  refine ⟨flat_len RowV.cells_len l, fun hl => ?_⟩
  obtain ⟨b, off, e, hb, hc⟩ := h hl
  refine ⟨_, e, hb, fun q u hu => ?_⟩
  have hq : q < l.length * 5 := by
    rw [← flat_len RowV.cells_len l]
    exact (List.getElem?_eq_some_iff.1 hu).1
  have h1 := hc (q / 5) (by omega) (q % 5) (by omega)
  have h2 := flat_get RowV.cells_len l (q / 5) (by omega) (q % 5) (by omega)
  rw [show q / 5 * 5 + q % 5 = q by omega] at h2
  have hadd : (⟨b, off, none⟩ : Addr).add q = ⟨b, off + q, none⟩ := by unfold Addr.add; split <;> simp_all
  rw [hadd, show off + q = off + q / 5 * 5 + q % 5 by omega, h1, ← h2, hu]
set_option maxRecDepth 100000 in
theorem rclone_any (A : Option Addr) (n cap : Nat) (rows : List RowV) (w : World) (hx : RowsAt w A rows) (hn : n = rows.length) (hl : n ≤ 4000) :
    Calls Tryz.prog 35 #[.slice A n cap] w fun e w' => ∃ v, e = .returned v ∧ RowsOwn w' v rows ∧ Fr [] w w' ∧ ∀ g, v.ownBlock = some g → w.heap.size ≤ g := by
  obtain ⟨i0, TR⟩ := etRow
  have hu := TR.ht
  have hnil := Lib.run_eql_slice_nil (P := Tryz.prog)
  cases A with
  | none =>
    have h0 : rows = [] := by
      rcases Nat.eq_zero_or_pos rows.length with h | h
      · exact List.eq_nil_of_length_eq_zero h
      · obtain ⟨b, off, e, _⟩ := hx h
        cases e
    subst h0
    go_enter Tryz.func35, Tryz.ntmps35
    go_wp2
    go_ret
    exact ⟨_, rfl, OwnL.nil, Fr.refl _ _, by simp [Value.ownBlock]⟩
  | some ad =>
    have hE : OwnL 67 5 RowV.cells (w.alloc (.cells #[] 67)) (.slice (some ⟨w.heap.size, 0, none⟩) 0 0) ([] : List RowV) := ⟨rfl, .inr ⟨w.heap.size, 0, #[], rfl, Nat.zero_le _, Blk.new w 67 #[], Nat.le_refl _, by simp [maxLen], rfl, rfl⟩⟩
    have HE := Lib.hid hE
    have hR := reads_of_rows (hx.fr ((Fr.refl [] w).alloc (.cells #[] 67)) (by simp))
    rw [← hn] at hR
    have HR := Lib.hid hR
    have HL : Hid (rows.length ≤ 4000) := Lib.hid (by omega)
    have HN := Lib.hid hn
    clear hE hR hx hn
    go_enter Tryz.func35, Tryz.ntmps35
    go_wp2_with (at_builtin; refine wpList_appendL rfl _ _ rfl TR RowV.cells_len RowV.cells_one rfl HE.out _ _ _ _ rows rfl HN.out HR.out (by have := HL.out; simp only [maxLen, List.length_nil]; omega) (by have := HL.out; simp only [List.length_nil]; omega) ?_; intro v5 w1 hown5 hg5 hat5; have HG5 := Lib.hid hg5; have HO5 := Lib.hid hown5; have HA5 := Lib.hid hat5; clear hg5 hown5 hat5)
    go_ret
    have hg : (w.alloc (.cells #[] 67)).grownBy w1 (some w.heap.size) := HG5.out
    have ha : v5.ownBlock = some w.heap.size ∨ v5.ownBlock = some (w.alloc (.cells #[] 67)).heap.size := HA5.out
    refine ⟨v5, rfl, by simpa using HO5.out, ((Fr.refl [] w).alloc _).grown hg (fun g h => .inr (by injection h with h; omega)), fun g h => ?_⟩
    rcases ha with e | e
    · rw [h] at e
      injection e with e
      omega
    · rw [h] at e
      injection e with e
      rw [World.size_alloc] at e
      omega
end Go.Proofs.YthiaaminkfkjpaaGreat

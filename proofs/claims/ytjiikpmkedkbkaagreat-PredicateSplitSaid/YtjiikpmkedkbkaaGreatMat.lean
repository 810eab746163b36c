/-
  The closures of package eval.
-/
import Derived.Test.YtjiikpmkedkbkaaGreatMaj
import Derived.Test.YtjiikpmkedkbkaaGreatMas
import Derived.Test.YtjiikpmkedkbkaaGreatMan
import Derived.Deep.DeepCutAuto
namespace Go.Proofs.YtjiikpmkedkbkaaGreat
open Go.RowKit

def encI (x : Int) : List Value := [.int .i64 x]
theorem encI_len (x : Int) : (encI x).length = 1 := rfl
theorem encI_one (x : Int) : ∀ u ∈ encI x, u.oneCell' = true := by
  intro u hu
  simp only [encI, List.mem_singleton] at hu
  subst hu
  rfl
theorem etI : ∃ i z, ET Tryz.prog 96 3 1 8 i z := by
  have h : (Tryz.prog.info? 3).map (fun i => (i.zero, i.size, i.bytes)) = some (some (.int .i64 0), 1, 8) := by kernel_rfl
  obtain ⟨i0, hi, hz0, hz1, hz2⟩ := info_parts h
  exact ⟨i0, _, Tryz.underlying96, hi, hz0, hz1, hz2, rfl, by decide⟩
/-- Integers at an address. -/
def IntRow (w : World) (A : Option Addr) (xs : List Int) : Prop := 0 < xs.length → ∃ b off, A = some ⟨b, off, none⟩ ∧ b < w.heap.size ∧ ∀ k (h : k < xs.length), w.cell? ⟨b, off + k, none⟩ = some (.int .i64 xs[k])
theorem IntRow.fr0 {w w' : World} {A : Option Addr} {xs : List Int} (h : IntRow w A xs) (hf : Fr [] w w') : IntRow w' A xs := by
  intro h0
  obtain ⟨b, off, e, hb, hc⟩ := h h0
  exact ⟨b, off, e, Nat.lt_of_lt_of_le hb hf.size, fun k hk => by rw [hf.cell (p := ⟨b, off + k, none⟩) hb (by simp)]; exact hc k hk⟩
theorem IntRow.of_own {w : World} {A : Option Addr} {n cap : Nat} {xs : List Int} (h : OwnL 3 1 encI w (.slice A n cap) xs) : IntRow w A xs ∧ n = xs.length := by
  obtain ⟨h1, h2⟩ := h.at1 encI_len
  refine ⟨fun h0 => ?_, h2⟩
  obtain ⟨b, off, e, hb, hc⟩ := h1 h0
  refine ⟨b, off, e, hb, fun k hk => ?_⟩
  have h3 := hc k hk 0 (by decide)
  rw [Nat.mul_one, Nat.add_zero] at h3
  exact h3
/-- What a fold does to a number and a flag. -/
def foldS {X : Type} (g : Int → Bool → X → Int × Bool) (l : List X) (s : Int × Bool) : Int × Bool := l.foldl (fun s x => g s.1 s.2 x) s
theorem foldS_take {X : Type} (g : Int → Bool → X → Int × Bool) (l : List X) (s : Int × Bool) {k : Nat} (hk : k < l.length) {n : Int} {f : Bool} (h : foldS g (l.take k) s = (n, f)) : foldS g (l.take (k + 1)) s = g n f l[k] := by
  unfold foldS at *
  rw [List.take_succ_eq_append_getElem hk, List.foldl_append, h]
  rfl
/-- Between two rounds. -/
structure FoRel (w wr : World) (v : Value) (n : Int) (f : Bool) : Prop where
  box : Blk wr w.heap.size 34 #[v, .int .i64 n, .bool f]
  res : Blk wr (w.heap.size + 1) 34 #[.slice none 0 0, .int .i64 0, .bool false]
  fr : Fr [] w wr
theorem FoRel.new (w : World) (v : Value) (n : Int) (f : Bool) : FoRel w ((w.alloc (.cells #[v, .int .i64 n, .bool f] 34)).alloc (.cells #[.slice none 0 0, .int .i64 0, .bool false] 34)) v n f := by
  refine ⟨(Blk.new w _ _).alloc _, ?_, ((Fr.refl _ _).alloc _).alloc _⟩
  have h := Blk.new (w.alloc (.cells #[v, .int .i64 n, .bool f] 34)) 34 #[.slice none 0 0, .int .i64 0, .bool false]
  rw [World.size_alloc] at h
  exact h
theorem FoRel.fr0 {w wr w' : World} {v : Value} {n : Int} {f : Bool} (h : FoRel w wr v n f) (hf : Fr [] wr w') : FoRel w w' v n f := ⟨h.box.fr hf (by simp), h.res.fr hf (by simp), h.fr.trans hf⟩
theorem FoRel.put {w w2 : World} {v : Value} {n : Int} {f : Bool} (h : FoRel w w2 v n f) (n2 : Int) (f2 : Bool) :
    FoRel w (((w2.setCell ⟨w.heap.size, 0, none⟩ v).setCell ⟨w.heap.size, 1, none⟩ (.int .i64 n2)).setCell ⟨w.heap.size, 2, none⟩ (.bool f2)) v n2 f2 := by
  have hf : Fr [w.heap.size] w2 (((w2.setCell ⟨w.heap.size, 0, none⟩ v).setCell ⟨w.heap.size, 1, none⟩ (.int .i64 n2)).setCell ⟨w.heap.size, 2, none⟩ (.bool f2)) := (((Fr.refl _ _).setCell (.inl (by simp)) _).setCell (.inl (by simp)) _).setCell (.inl (by simp)) _
  exact ⟨((h.box.set_ 0 _).set_ 1 _).set_ 2 _, h.res.fr hf (by simp), h.fr.trans' hf (fun x hx => .inr (by simp only [List.mem_singleton] at hx; omega))⟩
theorem FoRel.fin {w w2 : World} {v : Value} {n : Int} {f : Bool} (h : FoRel w w2 v n f) (v2 : Value) (n2 : Int) (f2 : Bool) :
    ∃ w3, ((w2.setCell ⟨w.heap.size + 1, 0, none⟩ v2).setCell ⟨w.heap.size + 1, 1, none⟩ (.int .i64 n2)).setCell ⟨w.heap.size + 1, 2, none⟩ (.bool f2) = w3 ∧
      w3.cell? ⟨w.heap.size + 1, 0, none⟩ = some v2 ∧ w3.cell? ⟨w.heap.size + 1, 1, none⟩ = some (.int .i64 n2) ∧ w3.cell? ⟨w.heap.size + 1, 2, none⟩ = some (.bool f2) ∧ Fr [] w w3 := by
  have hq := ((h.res.set_ 0 v2).set_ 1 (.int .i64 n2)).set_ 2 (.bool f2)
  exact ⟨_, rfl, hq.cell 0, hq.cell 1, hq.cell 2, ((h.fr.setCell (.inr (Nat.le_succ _)) _).setCell (.inr (Nat.le_succ _)) _).setCell (.inr (Nat.le_succ _)) _⟩
set_option maxRecDepth 100000 in
set_option maxHeartbeats 4000000 in
theorem foldI_any (fn : Nat) (cb : Array Value) (g : Int → Bool → Int → Int × Bool) (A : Option Addr) (n cap : Nat) (xs : List Int) (B : Option Addr) (nb cb' : Nat) (m : Int) (f : Bool) (w : World) (hx : IntRow w A xs) (hn : n = xs.length) (hn63 : n ≤ 4000)
    (eg : ∀ args w, (callFunc fn args).run Tryz.prog w = .ok (.enter fn args) w)
    (hg : ∀ (W : World) (x m : Int) (f : Bool), Fr [] w W → Calls Tryz.prog fn (#[.agg #[.slice B nb cb', .int .i64 m, .bool f], .int .i64 x] ++ cb) W fun e w' => e = .returned (.agg #[.slice B nb cb', .int .i64 (g m f x).1, .bool (g m f x).2]) ∧ Fr [] W w') :
    Calls Tryz.prog 45 #[.slice A n cap, .agg #[.slice B nb cb', .int .i64 m, .bool f], .func (.func fn) #[] cb] w fun e w' => e = .returned (.agg #[.slice B nb cb', .int .i64 (foldS g xs (m, f)).1, .bool (foldS g xs (m, f)).2]) ∧ Fr [] w w' := by
  have HG := Lib.hid hg
  have HX := Lib.hid hx
  have HN := Lib.hid hn
  have R0 := Lib.hid (FoRel.new w (.slice B nb cb') m f)
  clear hg hx hn
  go_enter Tryz.func45, Tryz.ntmps45
  go_wp2_with fail
  go_loopw [11] (fun i wr => ∃ (k : Nat) (n1 : Int) (f1 : Bool), k ≤ n ∧ i = .int .i64 k ∧ Hid (FoRel w wr (.slice B nb cb') n1 f1) ∧ Hid (foldS g (xs.take k) (m, f) = (n1, f1))) (fun i _ => n - (intOf i).toNat)
  case atStart => exact ⟨0, m, f, Nat.zero_le _, rfl, R0, Lib.hid rfl⟩
  case round =>
    clear R0
    obtain ⟨k, n1, f1, hk, rfl, R, HS⟩ := hrel
    have b0 : wr.cell? ⟨w.heap.size, 0, none⟩ = some (.slice B nb cb') := R.out.box.cell 0
    have b1 : wr.cell? ⟨w.heap.size, 1, none⟩ = some (.int .i64 n1) := R.out.box.cell 1
    have b2 : wr.cell? ⟨w.heap.size, 2, none⟩ = some (.bool f1) := R.out.box.cell 2
    by_cases hlt : k < n
    · obtain ⟨b, off, rfl, hb, hc⟩ := (HX.out.fr0 R.out.fr) (by rw [← HN.out]; omega)
      have hkx : k < xs.length := by rw [← HN.out]; exact hlt
      have c0 := hc k hkx
      have HS' := Lib.hid (foldS_take g xs (m, f) hkx HS.out)
      generalize xs[k] = x at c0 HS'
      clear hb hc
      have HC := Lib.hid (HG.out wr x n1 f1 R.out.fr)
      obtain ⟨n2, f2, hnf⟩ : ∃ n2 f2, g n1 f1 x = (n2, f2) := ⟨_, _, rfl⟩
      rw [hnf] at HC HS'
      dsimp only at HC
      clear hnf
      go_wp2_with (go_at_fn fn; refine HC.out.mono ?_; rintro e w2 ⟨rfl, hf2⟩; have R2 := Lib.hid (R.out.fr0 hf2); have z0 := R2.out.box.frozen 0; have z1 := R2.out.box.frozen 1; have z2 := R2.out.box.frozen 2; have y0 : w2.cell? ⟨w.heap.size, 0, none⟩ = some (.slice B nb cb') := R2.out.box.cell 0; have y1 : w2.cell? ⟨w.heap.size, 1, none⟩ = some (.int .i64 n1) := R2.out.box.cell 1; have y2 : w2.cell? ⟨w.heap.size, 2, none⟩ = some (.bool f1) := R2.out.box.cell 2; clear hf2)
      go_roundw
      case rel => exact ⟨k + 1, n2, f2, by omega, by go_num, Lib.hid (R2.out.put n2 f2), HS'⟩
      case measure => simp [intOf]; omega
    · obtain rfl : k = n := by omega
      have hres : foldS g xs (m, f) = (n1, f1) := by
        have h := HS.out
        rwa [HN.out, List.take_length] at h
      have HRS := Lib.hid hres
      have z0 := R.out.res.frozen 0
      have z1 := R.out.res.frozen 1
      have z2 := R.out.res.frozen 2
      have r0 : wr.cell? ⟨w.heap.size + 1, 0, none⟩ = some (.slice none 0 0) := R.out.res.cell 0
      have r1 : wr.cell? ⟨w.heap.size + 1, 1, none⟩ = some (.int .i64 0) := R.out.res.cell 1
      have r2 : wr.cell? ⟨w.heap.size + 1, 2, none⟩ = some (.bool false) := R.out.res.cell 2
      have FIN := Lib.hid (R.out.fin (.slice B nb cb') n1 f1)
      clear hres
      go_wp2_with fail
      obtain ⟨w3, e3, q0, q1, q2, f3⟩ := FIN.out
      rw [e3]
      refine bodyPost_ret (v := .agg #[.slice B nb cb', .int .i64 n1, .bool f1]) (by simp [results, Tryz.results45, go_sem, q0, q1, q2]) rfl ⟨by rw [HRS.out], f3⟩
set_option maxRecDepth 100000 in
set_option maxHeartbeats 4000000 in
theorem foldR_any (fn : Nat) (cb : Array Value) (g : Int → Bool → RowV → Int × Bool) (A : Option Addr) (n cap : Nat) (xs : List RowV) (B : Option Addr) (nb cb' : Nat) (m : Int) (f : Bool) (w : World) (hx : RowsAt w A xs) (hn : n = xs.length) (hn63 : n ≤ 4000)
    (eg : ∀ args w, (callFunc fn args).run Tryz.prog w = .ok (.enter fn args) w)
    (hg : ∀ (W : World) (x : RowV) (m : Int) (f : Bool), Fr [] w W → Calls Tryz.prog fn (#[.agg #[.slice B nb cb', .int .i64 m, .bool f], x.val] ++ cb) W fun e w' => e = .returned (.agg #[.slice B nb cb', .int .i64 (g m f x).1, .bool (g m f x).2]) ∧ Fr [] W w') :
    Calls Tryz.prog 43 #[.slice A n cap, .agg #[.slice B nb cb', .int .i64 m, .bool f], .func (.func fn) #[] cb] w fun e w' => e = .returned (.agg #[.slice B nb cb', .int .i64 (foldS g xs (m, f)).1, .bool (foldS g xs (m, f)).2]) ∧ Fr [] w w' := by
  have HG := Lib.hid hg
  have HX := Lib.hid hx
  have HN := Lib.hid hn
  have R0 := Lib.hid (FoRel.new w (.slice B nb cb') m f)
  clear hg hx hn
  go_enter Tryz.func43, Tryz.ntmps43
  go_wp2_with fail
  go_loopw [11] (fun i wr => ∃ (k : Nat) (n1 : Int) (f1 : Bool), k ≤ n ∧ i = .int .i64 k ∧ Hid (FoRel w wr (.slice B nb cb') n1 f1) ∧ Hid (foldS g (xs.take k) (m, f) = (n1, f1))) (fun i _ => n - (intOf i).toNat)
  case atStart => exact ⟨0, m, f, Nat.zero_le _, rfl, R0, Lib.hid rfl⟩
  case round =>
    clear R0
    obtain ⟨k, n1, f1, hk, rfl, R, HS⟩ := hrel
    have b0 : wr.cell? ⟨w.heap.size, 0, none⟩ = some (.slice B nb cb') := R.out.box.cell 0
    have b1 : wr.cell? ⟨w.heap.size, 1, none⟩ = some (.int .i64 n1) := R.out.box.cell 1
    have b2 : wr.cell? ⟨w.heap.size, 2, none⟩ = some (.bool f1) := R.out.box.cell 2
    by_cases hlt : k < n
    · obtain ⟨b, off, rfl, hb, hc⟩ := (HX.out.fr R.out.fr (by simp)) (by rw [← HN.out]; omega)
      have hkx : k < xs.length := by rw [← HN.out]; exact hlt
      have c0 := hc k hkx 0 (by decide)
      have c1 := hc k hkx 1 (by decide)
      have c2 := hc k hkx 2 (by decide)
      have c3 := hc k hkx 3 (by decide)
      have c4 := hc k hkx 4 (by decide)
      have HS' := Lib.hid (foldS_take g xs (m, f) hkx HS.out)
      generalize xs[k] = x at c0 c1 c2 c3 c4 HS'
      obtain ⟨rt, rk, rx, ry, rz⟩ := x
      have d0 : wr.cell? ⟨b, off + k * 5, none⟩ = some (.int .i64 rt) := c0
      have d1 : wr.cell? ⟨b, off + k * 5 + 1, none⟩ = some (.int .i64 rk) := c1
      have d2 : wr.cell? ⟨b, off + k * 5 + 2, none⟩ = some (.int .i64 rx) := c2
      have d3 : wr.cell? ⟨b, off + k * 5 + 3, none⟩ = some (.int .i64 ry) := c3
      have d4 : wr.cell? ⟨b, off + k * 5 + 4, none⟩ = some (.int .i64 rz) := c4
      clear c0 c1 c2 c3 c4
      clear hb hc
      have RA := Lib.hid (R.out.fr0 ((Fr.refl [] wr).alloc (.cells #[.int .i64 rt, .int .i64 rk, .int .i64 rx, .int .i64 ry, .int .i64 rz] 53)))
      have p0 : (wr.alloc (.cells #[.int .i64 rt, .int .i64 rk, .int .i64 rx, .int .i64 ry, .int .i64 rz] 53)).cell? ⟨w.heap.size, 0, none⟩ = some (.slice B nb cb') := RA.out.box.cell 0
      have p1 : (wr.alloc (.cells #[.int .i64 rt, .int .i64 rk, .int .i64 rx, .int .i64 ry, .int .i64 rz] 53)).cell? ⟨w.heap.size, 1, none⟩ = some (.int .i64 n1) := RA.out.box.cell 1
      have p2 : (wr.alloc (.cells #[.int .i64 rt, .int .i64 rk, .int .i64 rx, .int .i64 ry, .int .i64 rz] 53)).cell? ⟨w.heap.size, 2, none⟩ = some (.bool f1) := RA.out.box.cell 2
      have HC := Lib.hid (HG.out _ ⟨rt, rk, rx, ry, rz⟩ n1 f1 RA.out.fr)
      obtain ⟨n2, f2, hnf⟩ : ∃ n2 f2, g n1 f1 ⟨rt, rk, rx, ry, rz⟩ = (n2, f2) := ⟨_, _, rfl⟩
      rw [hnf] at HC HS'
      dsimp only at HC
      clear hnf
      go_wp2_with (go_at_fn fn; refine HC.out.mono ?_; rintro e w2 ⟨rfl, hf2⟩; have R2 := Lib.hid (RA.out.fr0 hf2); have z0 := R2.out.box.frozen 0; have z1 := R2.out.box.frozen 1; have z2 := R2.out.box.frozen 2; have y0 : w2.cell? ⟨w.heap.size, 0, none⟩ = some (.slice B nb cb') := R2.out.box.cell 0; have y1 : w2.cell? ⟨w.heap.size, 1, none⟩ = some (.int .i64 n1) := R2.out.box.cell 1; have y2 : w2.cell? ⟨w.heap.size, 2, none⟩ = some (.bool f1) := R2.out.box.cell 2; clear hf2)
      go_roundw
      case rel => exact ⟨k + 1, n2, f2, by omega, by go_num, Lib.hid (R2.out.put n2 f2), HS'⟩
      case measure => simp [intOf]; omega
    · obtain rfl : k = n := by omega
      have hres : foldS g xs (m, f) = (n1, f1) := by
        have h := HS.out
        rwa [HN.out, List.take_length] at h
      have HRS := Lib.hid hres
      have z0 := R.out.res.frozen 0
      have z1 := R.out.res.frozen 1
      have z2 := R.out.res.frozen 2
      have r0 : wr.cell? ⟨w.heap.size + 1, 0, none⟩ = some (.slice none 0 0) := R.out.res.cell 0
      have r1 : wr.cell? ⟨w.heap.size + 1, 1, none⟩ = some (.int .i64 0) := R.out.res.cell 1
      have r2 : wr.cell? ⟨w.heap.size + 1, 2, none⟩ = some (.bool false) := R.out.res.cell 2
      have FIN := Lib.hid (R.out.fin (.slice B nb cb') n1 f1)
      clear hres
      go_wp2_with fail
      obtain ⟨w3, e3, q0, q1, q2, f3⟩ := FIN.out
      rw [e3]
      refine bodyPost_ret (v := .agg #[.slice B nb cb', .int .i64 n1, .bool f1]) (by simp [results, Tryz.results43, go_sem, q0, q1, q2]) rfl ⟨by rw [HRS.out], f3⟩
end Go.Proofs.YtjiikpmkedkbkaaGreat
namespace Go.Proofs.YtjiikpmkedkbkaaGreat
open Go.RowKit

/-- A result in memory. -/
def RsAt (w : World) (g : Nat) (v : Value) (n : Int) (f : Bool) : Prop := Blk w g 34 #[v, .int .i64 n, .bool f]
section
variable {w w' : World} {g : Nat} {v : Value} {n : Int} {f : Bool}
theorem RsAt.c0 (h : RsAt w g v n f) : w.cell? ⟨g, 0, none⟩ = some v := Blk.cell h 0
theorem RsAt.c1 (h : RsAt w g v n f) : w.cell? ⟨g, 1, none⟩ = some (.int .i64 n) := Blk.cell h 1
theorem RsAt.c2 (h : RsAt w g v n f) : w.cell? ⟨g, 2, none⟩ = some (.bool f) := Blk.cell h 2
theorem RsAt.z (h : RsAt w g v n f) (k : Nat) : w.frozen? ⟨g, k, none⟩ = false := Blk.frozen h k
theorem RsAt.new (w : World) (v : Value) (n : Int) (f : Bool) : RsAt (w.alloc (.cells #[v, .int .i64 n, .bool f] 34)) w.heap.size v n f := Blk.new _ _ _
theorem RsAt.fr {S : List Nat} (h : RsAt w g v n f) (hf : Fr S w w') (hs : g ∉ S) : RsAt w' g v n f := Blk.fr h hf hs
theorem RsAt.fill (h : RsAt w g v n f) (v2 : Value) (n2 : Int) (f2 : Bool) :
    ∃ w3, ((w.setCell ⟨g, 0, none⟩ v2).setCell ⟨g, 1, none⟩ (.int .i64 n2)).setCell ⟨g, 2, none⟩ (.bool f2) = w3 ∧ RsAt w3 g v2 n2 f2 ∧ Fr [g] w w3 :=
  ⟨_, rfl, ((Blk.set_ h 0 v2).set_ 1 (.int .i64 n2)).set_ 2 (.bool f2), (((Fr.refl [g] w).setCell (.inl (by simp)) _).setCell (.inl (by simp)) _).setCell (.inl (by simp)) _⟩
end
set_option maxRecDepth 100000 in
/-- A sum's closure. -/
theorem plus_any (B : Option Addr) (nb cb : Nat) (m x : Int) (f : Bool) (w : World) :
    Calls Tryz.prog 47 #[.agg #[.slice B nb cb, .int .i64 m, .bool f], .int .i64 x] w fun e w' => e = .returned (.agg #[.slice B nb cb, .int .i64 (wrap64 (m + x)), .bool f]) ∧ Fr [] w w' := by
  have hb := (RsAt.new w (.slice B nb cb) m f).fr ((Fr.refl [] _).alloc (.cells #[.slice none 0 0, .int .i64 0, .bool false] 34)) (by simp)
  have hr := RsAt.new (w.alloc (.cells #[.slice B nb cb, .int .i64 m, .bool f] 34)) (.slice none 0 0) 0 false
  rw [World.size_alloc] at hr
  have F0 := Lib.hid (((Fr.refl [] w).alloc (.cells #[.slice B nb cb, .int .i64 m, .bool f] 34)).alloc (.cells #[.slice none 0 0, .int .i64 0, .bool false] 34))
  go_enter Tryz.func47, Tryz.ntmps47
  go_upto_region 1 with (fail)
  generalize (w.alloc (.cells #[.slice B nb cb, .int .i64 m, .bool f] 34)).alloc (.cells #[.slice none 0 0, .int .i64 0, .bool false] 34) = w2 at *
  have b0 := hb.c0
  have b1 := hb.c1
  have b2 := hb.c2
  have zb := hb.z 1
  have r0 := hr.c0
  have r1 := hr.c1
  have r2 := hr.c2
  have z0 := hr.z 0
  have z1 := hr.z 1
  have z2 := hr.z 2
  have HR := Lib.hid hr
  clear hb hr
  go_wp2_with fail
  have hf1 : Fr [w.heap.size] w2 (w2.setCell ⟨w.heap.size, 1, none⟩ (.int .i64 (wrap64 (m + x)))) := (Fr.refl _ _).setCell (.inl (by simp)) _
  obtain ⟨w3, e3, h3, f3⟩ := (HR.out.fr hf1 (by simp)).fill (.slice B nb cb) (wrap64 (m + x)) f
  have q0 := h3.c0
  have q1 := h3.c1
  have q2 := h3.c2
  rw [e3]
  exact bodyPost_ret (v := .agg #[.slice B nb cb, .int .i64 (wrap64 (m + x)), .bool f]) (by simp [results, Tryz.results47, go_sem, q0, q1, q2]) rfl ⟨rfl, (F0.out.trans' hf1 (by simp)).trans' f3 (by simp)⟩
set_option maxRecDepth 100000 in
/-- A count's closure. -/
theorem count_any (B : Option Addr) (nb cb : Nat) (m : Int) (r : RowV) (f : Bool) (w : World) :
    Calls Tryz.prog 44 #[.agg #[.slice B nb cb, .int .i64 m, .bool f], r.val] w fun e w' => e = .returned (.agg #[.slice B nb cb, .int .i64 (wrap64 (m + 1)), .bool f]) ∧ Fr [] w w' := by
  have hb := (RsAt.new w (.slice B nb cb) m f).fr (((Fr.refl [] _).alloc (.cells #[.int .i64 r.t, .int .i64 r.k, .int .i64 r.x, .int .i64 r.y, .int .i64 r.z] 53)).alloc (.cells #[.slice none 0 0, .int .i64 0, .bool false] 34)) (by simp)
  have hr := RsAt.new ((w.alloc (.cells #[.slice B nb cb, .int .i64 m, .bool f] 34)).alloc (.cells #[.int .i64 r.t, .int .i64 r.k, .int .i64 r.x, .int .i64 r.y, .int .i64 r.z] 53)) (.slice none 0 0) 0 false
  rw [World.size_alloc, World.size_alloc] at hr
  have F0 := Lib.hid ((((Fr.refl [] w).alloc (.cells #[.slice B nb cb, .int .i64 m, .bool f] 34)).alloc (.cells #[.int .i64 r.t, .int .i64 r.k, .int .i64 r.x, .int .i64 r.y, .int .i64 r.z] 53)).alloc (.cells #[.slice none 0 0, .int .i64 0, .bool false] 34))
  go_enter Tryz.func44, Tryz.ntmps44
  go_upto_region 1 with (fail)
  generalize ((w.alloc (.cells #[.slice B nb cb, .int .i64 m, .bool f] 34)).alloc (.cells #[.int .i64 r.t, .int .i64 r.k, .int .i64 r.x, .int .i64 r.y, .int .i64 r.z] 53)).alloc (.cells #[.slice none 0 0, .int .i64 0, .bool false] 34) = w2 at *
  have b0 := hb.c0
  have b1 := hb.c1
  have b2 := hb.c2
  have zb := hb.z 1
  have r0 := hr.c0
  have r1 := hr.c1
  have r2 := hr.c2
  have z0 := hr.z 0
  have z1 := hr.z 1
  have z2 := hr.z 2
  have HR := Lib.hid hr
  clear hb hr
  go_wp2_with fail
  have hf1 : Fr [w.heap.size] w2 (w2.setCell ⟨w.heap.size, 1, none⟩ (.int .i64 (wrap64 (m + 1)))) := (Fr.refl _ _).setCell (.inl (by simp)) _
  obtain ⟨w3, e3, h3, f3⟩ := (HR.out.fr hf1 (by simp; omega)).fill (.slice B nb cb) (wrap64 (m + 1)) f
  have q0 := h3.c0
  have q1 := h3.c1
  have q2 := h3.c2
  rw [e3]
  exact bodyPost_ret (v := .agg #[.slice B nb cb, .int .i64 (wrap64 (m + 1)), .bool f]) (by simp [results, Tryz.results44, go_sem, q0, q1, q2]) rfl ⟨rfl, (F0.out.trans' hf1 (by simp)).trans' f3 (by simp; omega)⟩
theorem less_any (a b : Int) (w : World) : Calls Tryz.prog 49 #[.int .i64 a, .int .i64 b] w fun e w' => e = .returned (.bool (decide (a < b))) ∧ w = w' := by
  go_enter Tryz.func49, Tryz.ntmps49
  go_wp2
  go_ret
  exact ⟨rfl, rfl⟩
theorem more_any (a b : Int) (w : World) : Calls Tryz.prog 50 #[.int .i64 a, .int .i64 b] w fun e w' => e = .returned (.bool (decide (b < a))) ∧ w = w' := by
  go_enter Tryz.func50, Tryz.ntmps50
  go_wp2
  go_ret
  exact ⟨rfl, rfl⟩
set_option maxRecDepth 100000 in
theorem extreme_any (lf : Nat) (w : World) : Calls Tryz.prog 48 #[.func (.func lf) #[] #[]] w fun e w' => e = .returned (.func (.func 75) #[] #[.pointer (some ⟨w.heap.size, 0, none⟩)]) ∧ Blk w' w.heap.size 100 #[.func (.func lf) #[] #[]] ∧ Fr [] w w' := by
  go_enter Tryz.func48, Tryz.ntmps48
  go_wp2
  go_ret
  exact ⟨rfl, Blk.new _ _ _, (Fr.refl _ _).alloc _⟩
set_option maxRecDepth 100000 in
/-- The least (by L) of what has come. -/
theorem extreme1_any (lf g : Nat) (L : Int → Int → Bool) (B : Option Addr) (nb cb : Nat) (m x : Int) (f : Bool) (w : World) (hg : Blk w g 100 #[.func (.func lf) #[] #[]]) (eg : ∀ args w, (callFunc lf args).run Tryz.prog w = .ok (.enter lf args) w)
    (hl : ∀ (a b : Int) (w : World), Calls Tryz.prog lf #[.int .i64 a, .int .i64 b] w fun e w' => e = .returned (.bool (L a b)) ∧ w = w') :
    Calls Tryz.prog 75 #[.agg #[.slice B nb cb, .int .i64 m, .bool f], .int .i64 x, .pointer (some ⟨g, 0, none⟩)] w fun e w' => e = .returned (.agg #[.slice B nb cb, .int .i64 (if f = false ∨ L x m = true then x else m), .bool true]) ∧ Fr [] w w' := by
  have HL := Lib.hid hl
  clear hl
  obtain ⟨y, HY⟩ : ∃ y, Hid ((if f = false ∨ L x m = true then x else m) = y) := ⟨_, Lib.hid rfl⟩
  rw [HY.out]
  have hb := (RsAt.new w (.slice B nb cb) m f).fr ((Fr.refl [] _).alloc (.cells #[.slice none 0 0, .int .i64 0, .bool false] 34)) (by simp)
  have hr := RsAt.new (w.alloc (.cells #[.slice B nb cb, .int .i64 m, .bool f] 34)) (.slice none 0 0) 0 false
  rw [World.size_alloc] at hr
  have F0 := Lib.hid (((Fr.refl [] w).alloc (.cells #[.slice B nb cb, .int .i64 m, .bool f] 34)).alloc (.cells #[.slice none 0 0, .int .i64 0, .bool false] 34))
  have hg2 := hg.fr F0.out (by simp)
  go_enter Tryz.func75, Tryz.ntmps75
  go_upto_region 1 with (fail)
  generalize (w.alloc (.cells #[.slice B nb cb, .int .i64 m, .bool f] 34)).alloc (.cells #[.slice none 0 0, .int .i64 0, .bool false] 34) = w2 at *
  have b0 := hb.c0
  have b1 := hb.c1
  have b2 := hb.c2
  have zb1 := hb.z 1
  have zb2 := hb.z 2
  have r0 := hr.c0
  have r1 := hr.c1
  have r2 := hr.c2
  have z0 := hr.z 0
  have z1 := hr.z 1
  have z2 := hr.z 2
  have gc : w2.cell? ⟨g, 0, none⟩ = some (.func (.func lf) #[] #[]) := hg2.cell 0
  have HR := Lib.hid hr
  clear hb hr hg hg2
  have hkeep : Hid (∀ _ : Int, ∃ w3, ((((w2.setCell ⟨w.heap.size, 2, none⟩ (.bool true)).setCell ⟨w.heap.size + 1, 0, none⟩ (.slice B nb cb)).setCell ⟨w.heap.size + 1, 1, none⟩ (.int .i64 m)).setCell ⟨w.heap.size + 1, 2, none⟩ (.bool true)) = w3 ∧ RsAt w3 (w.heap.size + 1) (.slice B nb cb) m true ∧ Fr [] w w3) := Lib.hid (fun _ => by
    have hf1 : Fr [w.heap.size] w2 (w2.setCell ⟨w.heap.size, 2, none⟩ (.bool true)) := (Fr.refl _ _).setCell (.inl (by simp)) _
    obtain ⟨w3, e3, h3, f3⟩ := (HR.out.fr hf1 (by simp)).fill (.slice B nb cb) m true
    exact ⟨w3, e3, h3, (F0.out.trans' hf1 (by simp)).trans' f3 (by simp)⟩)
  have htake : Hid (∀ _ : Int, ∃ w3, (((((w2.setCell ⟨w.heap.size, 1, none⟩ (.int .i64 x)).setCell ⟨w.heap.size, 2, none⟩ (.bool true)).setCell ⟨w.heap.size + 1, 0, none⟩ (.slice B nb cb)).setCell ⟨w.heap.size + 1, 1, none⟩ (.int .i64 x)).setCell ⟨w.heap.size + 1, 2, none⟩ (.bool true)) = w3 ∧ RsAt w3 (w.heap.size + 1) (.slice B nb cb) x true ∧ Fr [] w w3) := Lib.hid (fun _ => by
    have hf1 : Fr [w.heap.size] w2 ((w2.setCell ⟨w.heap.size, 1, none⟩ (.int .i64 x)).setCell ⟨w.heap.size, 2, none⟩ (.bool true)) := ((Fr.refl _ _).setCell (.inl (by simp)) _).setCell (.inl (by simp)) _
    obtain ⟨w3, e3, h3, f3⟩ := (HR.out.fr hf1 (by simp)).fill (.slice B nb cb) x true
    exact ⟨w3, e3, h3, (F0.out.trans' hf1 (by simp)).trans' f3 (by simp)⟩)
  cases hff : f
  · subst hff
    go_wp2_with fail
    obtain ⟨w3, e3, h3, f3⟩ := htake.out 0
    have q0 := h3.c0
    have q1 := h3.c1
    have q2 := h3.c2
    rw [e3]
    exact bodyPost_ret (v := .agg #[.slice B nb cb, .int .i64 x, .bool true]) (by simp [results, Tryz.results75, go_sem, q0, q1, q2]) rfl ⟨by rw [← HY.out]; simp, f3⟩
  · subst hff
    cases hlx : L x m
    · have HLX := Lib.hid hlx
      go_wp2_with (go_at_fn lf; refine (HL.out _ _ _).mono ?_; rintro e w' ⟨rfl, rfl⟩)
      obtain ⟨w3, e3, h3, f3⟩ := hkeep.out 0
      have q0 := h3.c0
      have q1 := h3.c1
      have q2 := h3.c2
      rw [e3]
      exact bodyPost_ret (v := .agg #[.slice B nb cb, .int .i64 m, .bool true]) (by simp [results, Tryz.results75, go_sem, q0, q1, q2]) rfl ⟨by rw [← HY.out]; simp [HLX.out], f3⟩
    · have HLX := Lib.hid hlx
      go_wp2_with (go_at_fn lf; refine (HL.out _ _ _).mono ?_; rintro e w' ⟨rfl, rfl⟩)
      obtain ⟨w3, e3, h3, f3⟩ := htake.out 0
      have q0 := h3.c0
      have q1 := h3.c1
      have q2 := h3.c2
      rw [e3]
      exact bodyPost_ret (v := .agg #[.slice B nb cb, .int .i64 x, .bool true]) (by simp [results, Tryz.results75, go_sem, q0, q1, q2]) rfl ⟨by rw [← HY.out]; simp [HLX.out], f3⟩
end Go.Proofs.YtjiikpmkedkbkaaGreat

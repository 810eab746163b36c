/-
  The walk of DiskTwins.
-/
import Derived.Test.YtbmakjhfoaadoaaDkS
import Derived.Deep.RegionHeld3
namespace Go.Proofs.Ytbmakjhfoaadoaa
open Go.RowKit

/-- Three disks of the law's own. -/
structure T3 (W wr : World) (b1 b2 b3 : Nat) (d1 d2 d3 : Dm.Dk) : Prop where
  ex : ∃ F1 F2 F3, Dsk wr F1 b1 d1 ∧ Dsk wr F2 b2 d2 ∧ Dsk wr F3 b3 d3 ∧ (∀ g ∈ F1, g ∉ F2) ∧ (∀ g ∈ F2, g ∉ F3) ∧ (∀ g ∈ F3, g ∉ F1) ∧ ∀ g, g ∈ F1 ∨ g ∈ F2 ∨ g ∈ F3 → W.heap.size ≤ g
  fr : Fr [] W wr
section
variable {W wr : World} {b1 b2 b3 : Nat} {d1 d2 d3 : Dm.Dk}
theorem T3.rot (h : T3 W wr b1 b2 b3 d1 d2 d3) : T3 W wr b2 b3 b1 d2 d3 d1 := by
  obtain ⟨F1, F2, F3, a, b, c, d, e, f, g⟩ := h.ex
  exact ⟨⟨F2, F3, F1, b, c, a, e, f, d, fun x hx => g x (by rcases hx with h | h | h; exact .inr (.inl h); exact .inr (.inr h); exact .inl h)⟩, h.fr⟩
theorem T3.fr0 {w' : World} (h : T3 W wr b1 b2 b3 d1 d2 d3) (hf : Fr [] wr w') : T3 W w' b1 b2 b3 d1 d2 d3 := by
  obtain ⟨F1, F2, F3, a, b, c, d, e, f, g⟩ := h.ex
  exact ⟨⟨F1, F2, F3, a.fr0 hf, b.fr0 hf, c.fr0 hf, d, e, f, g⟩, h.fr.trans hf⟩
theorem T3.mine (h : T3 W wr b1 b2 b3 d1 d2 d3) : Mine W wr b1 d1 := by
  obtain ⟨F1, F2, F3, a, b, c, d, e, f, g⟩ := h.ex
  exact ⟨F1, a, h.fr, fun x hx => g x (.inl hx)⟩
theorem T3.calls {d1' : Dm.Dk} {f : FuncId} {args : Array Value} {v : Value} (h : T3 W wr b1 b2 b3 d1 d2 d3) (hc : ∀ F, Dsk wr F b1 d1 → Calls Try.prog f args wr fun e w' => e = .returned v ∧ DskTo wr w' F b1 d1') :
    Calls Try.prog f args wr fun e w' => e = .returned v ∧ T3 W w' b1 b2 b3 d1' d2 d3 ∧ KeepT wr w' := by
  obtain ⟨F1, F2, F3, a, b, c, d, e, f', g⟩ := h.ex
  refine (hc F1 a).mono ?_
  rintro e1 w' ⟨he, F', k1, k2, k3⟩
  refine ⟨he, ⟨⟨F', F2, F3, k1, b.fr k2 (fun x hx hm => d x hm hx), c.fr k2 (fun x hx hm => f' x hx hm), fun x hx hm => ?_, e, fun x hx hm => ?_, fun x hx => ?_⟩, h.fr.trans' k2 (fun x hx => .inr (g x (.inl hx)))⟩, a.keepT k2⟩
  · rcases k3 x hx with h1 | h1
    · exact d x h1 hm
    · have := b.lt x hm; omega
  · rcases k3 x hm with h1 | h1
    · exact f' x hx h1
    · have := c.lt x hx; omega
  · rcases hx with hx | hx
    · rcases k3 x hx with h1 | h1
      · exact g x (.inl h1)
      · have := h.fr.size; omega
    · exact g x (.inr hx)
theorem T3.write {d' : Dm.Dk} {c : Int} (h : T3 W wr b1 b2 b3 d1 d2 d3) (off : Int) (s : List UInt8) (ho : okI off) (hpl : d1.pend.length ≤ 100000) (hlf : okI d1.left) (hc : Dm.writeCode d1 off s = c) (hd : Dm.write d1 off s = d') :
    Calls Try.prog 21 #[.pointer (some ⟨b1, 0, none⟩), .int .i64 off, .string ⟨s.toArray⟩] wr fun e w' => e = .returned (.int .i64 c) ∧ T3 W w' b1 b2 b3 d' d2 d3 ∧ KeepT wr w' := by
  subst hc hd
  exact h.calls fun F hF => dwrite_any F b1 d1 off s wr hF ho hpl hlf
theorem T3.sync {d' : Dm.Dk} {c : Int} (h : T3 W wr b1 b2 b3 d1 d2 d3) (hc : Dm.syncCode d1 = c) (hd : Dm.sync d1 = d') :
    Calls Try.prog 23 #[.pointer (some ⟨b1, 0, none⟩)] wr fun e w' => e = .returned (.int .i64 c) ∧ T3 W w' b1 b2 b3 d' d2 d3 ∧ KeepT wr w' := by
  subst hc hd
  exact h.calls fun F hF => dsync_any F b1 d1 wr hF
theorem T3.crash {d' : Dm.Dk} (h : T3 W wr b1 b2 b3 d1 d2 d3) (t : Int) (ht : okI t) (hd : Dm.crash d1 [] t = d') :
    Calls Try.prog 25 #[.pointer (some ⟨b1, 0, none⟩), .slice none 0 0, .int .i64 t] wr fun e w' => e = .returned (.int .i64 0) ∧ T3 W w' b1 b2 b3 d' d2 d3 ∧ KeepT wr w' := by
  subst hd
  exact h.calls fun F hF => dcrash_any F b1 d1 none 0 0 [] t wr hF rfl (by decide) (.inl rfl) ht
theorem t3_new {w1 w2 w3 : World} {F1 F2 F3 : List Nat} (hw : Fr [] W wr) (a1 : Dsk w1 F1 b1 d1) (f1 : Fr [] wr w1) (g1 : ∀ g ∈ F1, wr.heap.size ≤ g) (a2 : Dsk w2 F2 b2 d2) (f2 : Fr [] w1 w2) (g2 : ∀ g ∈ F2, w1.heap.size ≤ g) (a3 : Dsk w3 F3 b3 d3) (f3 : Fr [] w2 w3) (g3 : ∀ g ∈ F3, w2.heap.size ≤ g) :
    T3 W w3 b1 b2 b3 d1 d2 d3 := by
  have s0 := hw.size
  have s1 := f1.size
  have s2 := f2.size
  refine ⟨⟨F1, F2, F3, (a1.fr0 f2).fr0 f3, a2.fr0 f3, a3, fun g h h' => ?_, fun g h h' => ?_, fun g h h' => ?_, fun g h => ?_⟩, ((hw.trans f1).trans f2).trans f3⟩
  · have := a1.lt g h; have := g2 g h'; omega
  · have := a2.lt g h; have := g3 g h'; omega
  · have := a1.lt g h'; have := g3 g h; omega
  · rcases h with h | h | h
    · have := g1 g h; omega
    · have := g2 g h; omega
    · have := g3 g h; omega
end
set_option maxRecDepth 100000 in
set_option maxHeartbeats 4000000 in
theorem dtwins_walk (sz : Int) (A : Option Addr) (n cap : Nat) (xs : List Wp) (W : World) (hsz : okI sz) (hn : xs.length = n) (hmax : n ≤ maxLen) (hx : n = 0 ∨ ∃ b off, A = some ⟨b, off, none⟩ ∧ WpsAt W b off xs) :
    Calls Try.prog 11 #[.int .i64 sz, .slice A n cap] W fun e W' => e = .returned (.bool true) ∧ Below W.heap.size W W' := by
  unfold maxLen at hmax
  have HN := Lib.hid hn
  have HX := Lib.hid hx
  clear hn hx
  go_enter Try.func11, Try.ntmps11
  go_wp2_with fail
  refine (sane_any _).mono ?_
  rintro e w1 ⟨rfl, f1⟩
  have F1 := Lib.hid f1
  clear f1
  go_wp2_with fail
  refine (pick_nat sz 100 _ hsz (by decide) (by decide)).mono ?_
  rintro e w' ⟨k, ⟨rfl, hk, -⟩, rfl⟩
  obtain ⟨size, hs1, hs2, hsz1⟩ : ∃ size : Nat, 1 ≤ size ∧ size ≤ 100 ∧ (1 + (k : Int)) = (size : Int) := ⟨1 + k, by omega, by omega, by omega⟩
  go_wp2_with fail
  refine (dnew_any size _ (by omega) (by omega)).mono ?_
  rintro e w2 ⟨b1, G1, rfl, a1, e1, g1⟩
  have A1 := Lib.hid a1
  have E1 := Lib.hid e1
  have GG1 := Lib.hid g1
  clear a1 e1 g1
  clear hsz1 hk
  go_wp2_with fail
  refine (dnew_any size _ (by omega) (by omega)).mono ?_
  rintro e w3 ⟨b2, G2, rfl, a2, e2, g2⟩
  have A2 := Lib.hid a2
  have E2 := Lib.hid e2
  have GG2 := Lib.hid g2
  clear a2 e2 g2
  go_wp2_with fail
  refine (dnew_any size _ (by omega) (by omega)).mono ?_
  rintro e w4 ⟨b3, G3, rfl, a3, e3, g3⟩
  have T0 := Lib.hid (t3_new F1.out A1.out E1.out GG1.out A2.out E2.out GG2.out a3 e3 g3)
  clear a3 e3 g3
  go_wp2_with fail
  go_loopw [12] (fun i wr => ∃ (k : Nat) (dc dd : Dm.Dk), k ≤ n ∧ k ≤ 30 ∧ i = .int .i64 k ∧ T3 W wr b1 b2 b3 dc dd dc ∧ Dm.Lv dc size k ∧ Dm.Lv dd size k) (fun i _ => n - (intOf i).toNat)
  case atStart => exact ⟨0, _, _, Nat.zero_le _, Nat.zero_le _, rfl, T0.out, Dm.Lv.new hs1 (by omega), Dm.Lv.new hs1 (by omega)⟩
  case round =>
    obtain ⟨k, dc, dd, hk, hk60, rfl, hD, hL, hL2⟩ := hrel
    have HD := Lib.hid hD
    have HL := Lib.hid hL
    have HL2 := Lib.hid hL2
    by_cases hlt : k < n ∧ k < 30
    · obtain ⟨hlt1, hlt2⟩ := hlt
      obtain ⟨b0, off, rfl, hxs⟩ := HX.out.resolve_left (by omega)
      have hxr := hxs.fr0 hD.fr
      have hkx : k < xs.length := by rw [HN.out]; exact hlt1
      have c0 := hxr.c0 k hkx
      have c1 := hxr.c1 k hkx
      have c2 := hxr.c2 k hkx
      obtain ⟨wo, ws⟩ := hxs.wf _ (List.getElem_mem hkx)
      have HXS := Lib.hid hxs
      generalize xs[k] = x at c0 c1 c2 wo ws
      obtain ⟨xo, xss, xy⟩ := x
      dsimp only at c0 c1 c2 wo ws
      have hu := Wp.fit_ok ⟨xo, xss, xy⟩ size
      have HFT := Lib.hid (fun w => fits_any ⟨xo, xss, xy⟩ size w wo ws (by omega))
      generalize Wp.fit ⟨xo, xss, xy⟩ size = u at hu HFT
      have HU := Lib.hid hu
      clear hxr hxs hD hL hL2 hu wo ws
      have hub : (u.off : Int) ≤ 1000 := by have := HU.out.2; omega
      have ho := Lib.hid (okI_mk (x := (u.off : Int)) (by omega) (by omega))
      by_cases hodd : k % 2 = 1
      · have ht : ((k : Int) % 2 == 1) = true := by simp; omega
        go_wp2_with fail
        refine (HFT.out _).mono ?_
        rintro e w5 ⟨rfl, f4⟩
        have HB4 := Lib.hid ((HD.out.fr0 f4).fr0 ((Fr.refl [] w5).alloc (.cells #[.int .i64 u.off, .string ⟨u.s.toArray⟩, .bool xy] 53)))
        have HY := Lib.hid (Blk.new w5 53 #[.int .i64 u.off, .string ⟨u.s.toArray⟩, .bool xy])
        clear f4 c0 c1 c2
        obtain ⟨p1, p2, p3, p4⟩ := HL2.out.write HU.out.1
        have P1 := Lib.hid p1
        have P3 := Lib.hid p3
        clear p1 p2 p3 p4
        go_wp2_with fail
        generalize (w5.alloc (.cells #[.int .i64 u.off, .string ⟨u.s.toArray⟩, .bool xy] 53)) = W4 at *
        generalize w5.heap.size = gy at *
        refine (T3.write HB4.out.rot (c := 0) u.off u.s ho.out (by have := HL2.out.pl; omega) (by rw [HL2.out.left]; exact okI0) P1.out rfl).mono ?_
        rintro e w6 ⟨rfl, h6, k6⟩
        have H6 := Lib.hid h6
        have Y6 := Lib.hid (k6.blk HY.out)
        clear h6 k6
        generalize Dm.write dd u.off u.s = e1 at *
        have y0 := Y6.out.cell 0
        have y2 := Y6.out.cell 2
        cases xy
        · by_cases h7 : u.off % 7 = 3
          · have h7b : ((u.off : Int) % 7 == 3) = true := by simp; omega
            have HCL := Lib.hid (P3.out.crash [] 1)
            go_wp2_with fail
            refine (T3.crash H6.out 1 (okI_mk (by decide) (by decide)) rfl).mono ?_
            rintro e w8 ⟨rfl, h8, k8⟩
            have H8 := Lib.hid h8
            clear h8 k8 y0 y2
            go_wp2_with fail
            go_roundw
            case rel => exact ⟨k + 1, dc, _, by omega, by omega, by go_num, H8.out.rot.rot, HL.out.le (by omega), HCL.out.le (by omega)⟩
            case measure => simp [intOf]; omega
          · have h7b : ((u.off : Int) % 7 == 3) = false := by simp; omega
            go_wp2_with fail
            go_roundw
            case rel => exact ⟨k + 1, dc, e1, by omega, by omega, by go_num, H6.out.rot.rot, HL.out.le (by omega), P3.out⟩
            case measure => simp [intOf]; omega
        · obtain ⟨q1, q2, q3, q4⟩ := P3.out.sync
          have Q1 := Lib.hid q1
          have Q3 := Lib.hid q3
          clear q1 q2 q3 q4
          go_wp2_with fail
          refine (T3.sync H6.out (c := 0) Q1.out rfl).mono ?_
          rintro e w7 ⟨rfl, h7, k7⟩
          have H7 := Lib.hid h7
          have Y7 := Lib.hid (k7.blk Y6.out)
          clear h7 k7 y2 y0
          have y0 := Y7.out.cell 0
          generalize Dm.sync e1 = e2 at *
          by_cases h7 : u.off % 7 = 3
          · have h7b : ((u.off : Int) % 7 == 3) = true := by simp; omega
            have HCL := Lib.hid (Q3.out.crash [] 1)
            go_wp2_with fail
            refine (T3.crash H7.out 1 (okI_mk (by decide) (by decide)) rfl).mono ?_
            rintro e w8 ⟨rfl, h8, k8⟩
            have H8 := Lib.hid h8
            clear h8 k8 y0
            go_wp2_with fail
            go_roundw
            case rel => exact ⟨k + 1, dc, _, by omega, by omega, by go_num, H8.out.rot.rot, HL.out.le (by omega), HCL.out.le (by omega)⟩
            case measure => simp [intOf]; omega
          · have h7b : ((u.off : Int) % 7 == 3) = false := by simp; omega
            go_wp2_with fail
            go_roundw
            case rel => exact ⟨k + 1, dc, e2, by omega, by omega, by go_num, H7.out.rot.rot, HL.out.le (by omega), Q3.out⟩
            case measure => simp [intOf]; omega
      · have ht : ((k : Int) % 2 == 1) = false := by simp; omega
        go_wp2_with fail
        refine (HFT.out _).mono ?_
        rintro e w5 ⟨rfl, f4⟩
        have HB4 := Lib.hid (((HD.out.fr0 f4).fr0 ((Fr.refl [] w5).alloc (.cells #[.int .i64 u.off, .string ⟨u.s.toArray⟩, .bool xy] 53))).fr0 (Fr.refl [] _).drew)
        have HY := Lib.hid (Blk.new w5 53 #[.int .i64 u.off, .string ⟨u.s.toArray⟩, .bool xy])
        clear f4 c0 c1 c2
        obtain ⟨p1, p2, p3, p4⟩ := HL.out.write HU.out.1
        have P1 := Lib.hid p1
        have P3 := Lib.hid p3
        clear p1 p2 p3 p4
        go_wp2_with fail
        generalize (w5.alloc (.cells #[.int .i64 u.off, .string ⟨u.s.toArray⟩, .bool xy] 53)) = W4 at *
        generalize w5.heap.size = gy at *
        have HYD := Lib.hid HY.out.drew
        have y0 := HY.out.cell 0
        have y1 := HY.out.cell 1
        have y2 := HY.out.cell 2
        have HW := Lib.hid (fun (wr : World) (e d3 : Dm.Dk) (ba bb bc : Nat) (h : T3 W wr ba bb bc dc e d3) => T3.write h (c := 0) (d' := Dm.write dc u.off u.s) u.off u.s ho.out (by have := HL.out.pl; omega) (by rw [HL.out.left]; exact okI0) P1.out rfl)
        generalize Dm.write dc u.off u.s = e1 at *
        cases xy
        · refine wp_region_held_drew (S := fun w' => w'.cell? ⟨gy, 0, none⟩ = some (.int .i64 u.off) ∧ w'.cell? ⟨gy, 1, none⟩ = some (.string ⟨u.s.toArray⟩) ∧ w'.cell? ⟨gy, 2, none⟩ = some (.bool false)) (by kernel_rfl) ?_ (fun hHeld => ?_)
          · exact ⟨HYD.out.cell 0, HYD.out.cell 1, HYD.out.cell 2⟩
          refine wpAnyH_take (i := 0) (oi := ⟨some 93, _, _, _, _, _⟩) (v := ?_) rfl (by kernel_rfl) (by kernel_rfl) (by kernel_rfl) (fun _ _ _ h => h) (Or.inl ⟨by rfl, ?_⟩) (by assumption) ?_
          rotate_left
          · (intro w hSw; (try dsimp only at hSw); go_simp; try with_reducible rfl)
          try simp only [Act.put, List.setIfInBounds_toArray, List.set_cons_zero, List.set_cons_succ]
          refine wpAnyH_take (i := 1) (oi := ⟨some 94, _, _, _, _, _⟩) (v := ?_) rfl (by kernel_rfl) (by kernel_rfl) (by kernel_rfl) (fun _ _ _ h => h) (Or.inl ⟨by rfl, ?_⟩) (by assumption) ?_
          rotate_left
          · (intro w hSw; (try dsimp only at hSw); go_simp; try with_reducible rfl)
          try simp only [Act.put, List.setIfInBounds_toArray, List.set_cons_zero, List.set_cons_succ]
          refine wpAnyH_take (i := 2) (oi := ⟨some 95, _, _, _, _, _⟩) (v := ?_) rfl (by kernel_rfl) (by kernel_rfl) (by kernel_rfl) (fun _ _ _ h => h) (Or.inl ⟨by rfl, ?_⟩) (by assumption) ?_
          rotate_left
          · (intro w hSw; (try dsimp only at hSw); go_simp; try with_reducible rfl)
          try simp only [Act.put, List.setIfInBounds_toArray, List.set_cons_zero, List.set_cons_succ]
          refine wpAnyH_take (i := 3) (oi := ⟨some 96, _, _, _, _, _⟩) (v := ?_) rfl (by kernel_rfl) (by kernel_rfl) (by kernel_rfl) (fun _ _ _ h => h) (Or.inl ⟨by rfl, ?_⟩) (by assumption) ?_
          rotate_left
          · (intro w hSw; (try dsimp only at hSw); go_simp; try with_reducible rfl)
          try simp only [Act.put, List.setIfInBounds_toArray, List.set_cons_zero, List.set_cons_succ]
          refine wpAnyH_take (i := 4) (oi := ⟨some 97, _, _, _, _, _⟩) (v := ?_) rfl (by kernel_rfl) (by kernel_rfl) (by kernel_rfl) (fun _ _ _ h => h) (Or.inl ⟨by rfl, ?_⟩) (by assumption) ?_
          rotate_left
          · (intro w hSw; (try dsimp only at hSw); go_simp; try with_reducible rfl)
          try simp only [Act.put, List.setIfInBounds_toArray, List.set_cons_zero, List.set_cons_succ]
          refine wpAnyH_take (i := 6) (oi := ⟨some 99, _, _, _, _, _⟩) (v := ?_) rfl (by kernel_rfl) (by kernel_rfl) (by kernel_rfl) (fun _ _ _ h => h) (Or.inl ⟨by rfl, ?_⟩) (by assumption) ?_
          rotate_left
          · (intro w hSw; (try dsimp only at hSw); go_simp; try with_reducible rfl)
          try simp only [Act.put, List.setIfInBounds_toArray, List.set_cons_zero, List.set_cons_succ]
          refine wpAnyH_take (i := 7) (oi := ⟨some 100, _, _, _, _, _⟩) (v := ?_) rfl (by kernel_rfl) (by kernel_rfl) (by kernel_rfl) (fun _ _ _ h => h) (Or.inl ⟨by rfl, ?_⟩) (by assumption) ?_
          rotate_left
          · (intro w hSw; (try dsimp only at hSw); go_simp; try with_reducible rfl)
          try simp only [Act.put, List.setIfInBounds_toArray, List.set_cons_zero, List.set_cons_succ]
          refine wpAnyH_take (i := 8) (oi := ⟨some 101, _, _, _, _, _⟩) (v := ?_) rfl (by kernel_rfl) (by kernel_rfl) (by kernel_rfl) (fun _ _ _ h => h) (Or.inl ⟨by rfl, ?_⟩) (by assumption) ?_
          rotate_left
          · (intro w hSw; (try dsimp only at hSw); go_simp; try with_reducible rfl)
          try simp only [Act.put, List.setIfInBounds_toArray, List.set_cons_zero, List.set_cons_succ]
          refine wpAnyH_take (i := 9) (oi := ⟨some 102, _, _, _, _, _⟩) (v := ?_) rfl (by kernel_rfl) (by kernel_rfl) (by kernel_rfl) (fun _ _ _ h => h) (Or.inl ⟨by rfl, ?_⟩) (by assumption) ?_
          rotate_left
          · (intro w hSw; (try dsimp only at hSw); go_simp; try with_reducible rfl)
          try simp only [Act.put, List.setIfInBounds_toArray, List.set_cons_zero, List.set_cons_succ]
          refine wpAnyH_take (i := 10) (oi := ⟨some 103, _, _, _, _, _⟩) (v := ?_) rfl (by kernel_rfl) (by kernel_rfl) (by kernel_rfl) (fun _ _ _ h => h) (Or.inl ⟨by rfl, ?_⟩) (by assumption) ?_
          rotate_left
          · (intro w hSw; (try dsimp only at hSw); go_simp; try with_reducible rfl)
          try simp only [Act.put, List.setIfInBounds_toArray, List.set_cons_zero, List.set_cons_succ]
          refine wpAnyH_ready (rs := [5]) (by kernel_rfl) (by simp) ?_
          refine AllReadyH.cons (o := ⟨some 98, _, _, _, _, _⟩) rfl (fun K hK => ?_) AllReadyH.nil
          go_simp
          (with_reducible refine (HW.out _ _ _ b1 b2 b3 HB4.out).mono ?_)
          rintro e w6 ⟨rfl, h6, k6⟩
          have H6 := Lib.hid h6
          have Y6 := Lib.hid (k6.blk HYD.out)
          clear h6 k6
          refine hK.out _ _ ?_ (fun hHeld => ?_)
          · exact ⟨Y6.out.cell 0, Y6.out.cell 1, Y6.out.cell 2⟩
          clear hK K
          try simp only [Act.put, List.setIfInBounds_toArray, List.set_cons_zero, List.set_cons_succ]
          refine wpAnyH_ready (rs := [11]) (by kernel_rfl) (by simp) ?_
          refine AllReadyH.cons (o := ⟨some 104, _, _, _, _, _⟩) rfl (fun K hK => ?_) AllReadyH.nil
          go_simp
          (with_reducible refine (HW.out _ _ _ b3 b1 b2 H6.out.rot.rot).mono ?_)
          rintro e w7 ⟨rfl, h7, k7⟩
          have H7 := Lib.hid h7
          have Y7 := Lib.hid (k7.blk Y6.out)
          clear h7 k7
          refine hK.out _ _ ?_ (fun hHeld => ?_)
          · exact ⟨Y7.out.cell 0, Y7.out.cell 1, Y7.out.cell 2⟩
          clear hK K
          try simp only [Act.put, List.setIfInBounds_toArray, List.set_cons_zero, List.set_cons_succ]
          refine wpAnyH_take (i := 12) (oi := ⟨some 105, _, _, _, _, _⟩) (v := ?_) rfl (by kernel_rfl) (by kernel_rfl) (by kernel_rfl) (fun _ _ _ h => h) (Or.inl ⟨by rfl, ?_⟩) (by assumption) ?_
          rotate_left
          · (intro w hSw; (try dsimp only at hSw); go_simp; try with_reducible rfl)
          try simp only [Act.put, List.setIfInBounds_toArray, List.set_cons_zero, List.set_cons_succ]
          refine wpAnyH_take (i := 13) (oi := ⟨some 106, _, _, _, _, _⟩) (v := ?_) rfl (by kernel_rfl) (by kernel_rfl) (by kernel_rfl) (fun _ _ _ h => h) (Or.inl ⟨by rfl, ?_⟩) (by assumption) ?_
          rotate_left
          · (intro w hSw; (try dsimp only at hSw); go_simp; try with_reducible rfl)
          try simp only [Act.put, List.setIfInBounds_toArray, List.set_cons_zero, List.set_cons_succ]
          refine wpAnyH_take (i := 14) (oi := ⟨some 107, _, _, _, _, _⟩) (v := ?_) rfl (by kernel_rfl) (by kernel_rfl) (by kernel_rfl) (fun _ _ _ h => h) (Or.inl ⟨by rfl, ?_⟩) (by assumption) ?_
          rotate_left
          · (intro w hSw; (try dsimp only at hSw); go_simp; try with_reducible rfl)
          try simp only [Act.put, List.setIfInBounds_toArray, List.set_cons_zero, List.set_cons_succ]
          refine wpAnyH_take (i := 15) (oi := ⟨some 108, _, _, _, _, _⟩) (v := ?_) rfl (by kernel_rfl) (by kernel_rfl) (by kernel_rfl) (fun _ _ _ h => h) (Or.inl ⟨by rfl, ?_⟩) (by assumption) ?_
          rotate_left
          · (intro w hSw; (try dsimp only at hSw); go_simp; try with_reducible rfl)
          try simp only [Act.put, List.setIfInBounds_toArray, List.set_cons_zero, List.set_cons_succ]
          refine wpAnyH_take (i := 16) (oi := ⟨some 109, _, _, _, _, _⟩) (v := ?_) rfl (by kernel_rfl) (by kernel_rfl) (by kernel_rfl) (fun _ _ _ h => h) (Or.inl ⟨by rfl, ?_⟩) (by assumption) ?_
          rotate_left
          · (intro w hSw; (try dsimp only at hSw); go_simp; try with_reducible rfl)
          try simp only [Act.put, List.setIfInBounds_toArray, List.set_cons_zero, List.set_cons_succ]
          refine wpAnyH_take (i := 17) (oi := ⟨some 110, _, _, _, _, _⟩) (v := undef) rfl (by kernel_rfl) (by kernel_rfl) (by kernel_rfl) (fun _ _ _ h => h) (Or.inr ⟨by rfl, rfl⟩) (by assumption) ?_
          try simp only [Act.put, List.setIfInBounds_toArray, List.set_cons_zero, List.set_cons_succ]
          refine wpAnyH_take (i := 18) (oi := ⟨some 111, _, _, _, _, _⟩) (v := undef) rfl (by kernel_rfl) (by kernel_rfl) (by kernel_rfl) (fun _ _ _ h => h) (Or.inr ⟨by rfl, rfl⟩) (by assumption) ?_
          try simp only [Act.put, List.setIfInBounds_toArray, List.set_cons_zero, List.set_cons_succ]
          refine wpAnyH_take (i := 19) (oi := ⟨some 112, _, _, _, _, _⟩) (v := undef) rfl (by kernel_rfl) (by kernel_rfl) (by kernel_rfl) (fun _ _ _ h => h) (Or.inr ⟨by rfl, rfl⟩) (by assumption) ?_
          try simp only [Act.put, List.setIfInBounds_toArray, List.set_cons_zero, List.set_cons_succ]
          refine wpAnyH_take (i := 20) (oi := ⟨some 113, _, _, _, _, _⟩) (v := undef) rfl (by kernel_rfl) (by kernel_rfl) (by kernel_rfl) (fun _ _ _ h => h) (Or.inr ⟨by rfl, rfl⟩) (by assumption) ?_
          try simp only [Act.put, List.setIfInBounds_toArray, List.set_cons_zero, List.set_cons_succ]
          refine wpAnyH_take (i := 21) (oi := ⟨some 114, _, _, _, _, _⟩) (v := undef) rfl (by kernel_rfl) (by kernel_rfl) (by kernel_rfl) (fun _ _ _ h => h) (Or.inr ⟨by rfl, rfl⟩) (by assumption) ?_
          try simp only [Act.put, List.setIfInBounds_toArray, List.set_cons_zero, List.set_cons_succ]
          refine wpAnyH_take (i := 22) (oi := ⟨some 115, _, _, _, _, _⟩) (v := ?_) rfl (by kernel_rfl) (by kernel_rfl) (by kernel_rfl) (fun _ _ _ h => h) (Or.inl ⟨by rfl, ?_⟩) (by assumption) ?_
          rotate_left
          · (intro w hSw; (try dsimp only at hSw); go_simp; try with_reducible rfl)
          try simp only [Act.put, List.setIfInBounds_toArray, List.set_cons_zero, List.set_cons_succ]
          refine wpAnyH_take (i := 23) (oi := ⟨some 116, _, _, _, _, _⟩) (v := ?_) rfl (by kernel_rfl) (by kernel_rfl) (by kernel_rfl) (fun _ _ _ h => h) (Or.inl ⟨by rfl, ?_⟩) (by assumption) ?_
          rotate_left
          · (intro w hSw; (try dsimp only at hSw); go_simp; try with_reducible rfl)
          try simp only [Act.put, List.setIfInBounds_toArray, List.set_cons_zero, List.set_cons_succ]
          refine wpAnyH_done (by kernel_rfl) ?_ _
          go_wp2_with fail
          go_roundw
          case rel => exact ⟨k + 1, e1, dd, by omega, by omega, by go_num, H7.out.rot, P3.out, HL2.out.le (by omega)⟩
          case measure => simp [intOf]; omega
        · obtain ⟨q1, q2, q3, q4⟩ := P3.out.sync
          have Q3 := Lib.hid q3
          have HS := Lib.hid (fun (wr : World) (e d3 : Dm.Dk) (ba bb bc : Nat) (h : T3 W wr ba bb bc e1 e d3) => T3.sync h (c := 0) (d' := Dm.sync e1) q1 rfl)
          clear q1 q2 q3 q4
          generalize Dm.sync e1 = e2 at *
          first | (go_region_held3 (fun w' => w'.cell? ⟨gy, 0, none⟩ = some (.int .i64 u.off) ∧ w'.cell? ⟨gy, 1, none⟩ = some (.string ⟨u.s.toArray⟩) ∧ w'.cell? ⟨gy, 2, none⟩ = some (.bool true))
            (first | go_keep | exact ⟨HYD.out.cell 0, HYD.out.cell 1, HYD.out.cell 2⟩ | exact ⟨Y6.out.cell 0, Y6.out.cell 1, Y6.out.cell 2⟩ | exact ⟨Y7.out.cell 0, Y7.out.cell 1, Y7.out.cell 2⟩ | exact ⟨Y8.out.cell 0, Y8.out.cell 1, Y8.out.cell 2⟩ | exact ⟨Y9.out.cell 0, Y9.out.cell 1, Y9.out.cell 2⟩)
            (first
            | (go_at_call 21; (with_reducible refine (HW.out _ _ _ b1 b2 b3 HB4.out).mono ?_); rintro e w6 ⟨rfl, h6, k6⟩; have H6 := Lib.hid h6; have Y6 := Lib.hid (k6.blk HYD.out); clear h6 k6)
            | (go_at_call 21; (with_reducible refine (HW.out _ _ _ b3 b1 b2 H6.out.rot.rot).mono ?_); rintro e w7 ⟨rfl, h7, k7⟩; have H7 := Lib.hid h7; have Y7 := Lib.hid (k7.blk Y6.out); clear h7 k7)
            | (go_at_call 23; (with_reducible refine (HS.out _ _ _ b1 b2 b3 H7.out.rot).mono ?_); rintro e w8 ⟨rfl, h8, k8⟩; have H8 := Lib.hid h8; have Y8 := Lib.hid (k8.blk Y7.out); clear h8 k8)
            | (go_at_call 23; (with_reducible refine (HS.out _ _ _ b3 b1 b2 H8.out.rot.rot).mono ?_); rintro e w9 ⟨rfl, h9, k9⟩; have H9 := Lib.hid h9; have Y9 := Lib.hid (k9.blk Y8.out); clear h9 k9))) | fail "x"
          all_goals
            go_wp2_with fail
            go_roundw
            case rel => exact ⟨k + 1, e2, dd, by omega, by omega, by go_num, H9.out.rot, Q3.out, HL2.out.le (by omega)⟩
            case measure => simp [intOf]; omega
    · clear hD hL hL2
      go_wp2_with fail
      all_goals
        have HRD := Lib.hid HL.out.read
        refine (mread 0 size HD.out.mine okI0 HRD.out).mono ?_
        rintro e w' ⟨rfl, rfl⟩
        go_wp2_with fail
        refine (mread 0 size HD.out.rot.rot.mine okI0 HRD.out).mono ?_
        rintro e w' ⟨rfl, rfl⟩
        go_wp2_with fail
        refine (mpending HD.out.mine rfl).mono ?_
        rintro e w' ⟨rfl, rfl⟩
        go_wp2_with fail
        refine (mpending HD.out.rot.rot.mine rfl).mono ?_
        rintro e w' ⟨rfl, rfl⟩
        go_wp2_with fail
        go_ret
        exact ⟨rfl, HD.out.fr.below⟩
end Go.Proofs.Ytbmakjhfoaadoaa

/-
  'fits' and 'sane' of the disk's laws; a nil disk asked everything.
-/
import Derived.Test.YtbmakjhfoaadoaaDkN
namespace Go.Proofs.Ytbmakjhfoaadoaa
open Go.RowKit

/-- What 'fits' makes of a write. -/
def Wp.fit (x : Wp) (size : Nat) : Dm.Wr := ⟨(pickI x.off (size + 1)).toNat, x.s.take (size - (pickI x.off (size + 1)).toNat)⟩
theorem Wp.fit_ok (x : Wp) (size : Nat) : (x.fit size).off + (x.fit size).s.length ≤ size ∧ (x.fit size).off ≤ size := by
  have h1 := pickI_nonneg x.off (n := (size : Int) + 1) (by omega)
  have h2 := pickI_lt x.off (n := (size : Int) + 1) (by omega)
  unfold Wp.fit
  simp only [List.length_take]
  omega
set_option maxRecDepth 100000 in
set_option maxHeartbeats 1000000 in
theorem fits_any (x : Wp) (size : Nat) (w : World) (ho : okI x.off) (hs : x.s.length ≤ maxLen) (hz : size ≤ 4194304) :
    Calls Try.prog 26 #[.agg #[.int .i64 x.off, .string ⟨x.s.toArray⟩, .bool x.sync], .int .i64 size] w fun e w' =>
    e = .returned (.agg #[.int .i64 (x.fit size).off, .string ⟨(x.fit size).s.toArray⟩, .bool x.sync]) ∧ Fr [] w w' := by
  obtain ⟨o, s, y⟩ := x
  dsimp only at ho hs
  obtain ⟨q, hq⟩ : ∃ q : Nat, (q : Int) = pickI o (size + 1) := ⟨(pickI o (size + 1)).toNat, by have := pickI_nonneg o (n := (size : Int) + 1) (by omega); omega⟩
  have hq2 : q ≤ size := by have := pickI_lt o (n := (size : Int) + 1) (by omega); omega
  have hp := fun W => pick_any o (size + 1) W ho (by omega) (by omega)
  rw [← hq] at hp
  have hc := fun W => cutS_any s ((size : Int) - q) W hs (by omega)
  have e1 : ((size : Int) - q).toNat = size - q := by omega
  rw [e1] at hc
  have hfit : Wp.fit ⟨o, s, y⟩ size = ⟨q, s.take (size - q)⟩ := by
    unfold Wp.fit
    dsimp only
    rw [← hq]
    simp
  rw [hfit]
  dsimp only
  have HP := Lib.hid hp
  have HC := Lib.hid hc
  clear hp hc e1 hfit hq
  go_enter Try.func26, Try.ntmps26
  go_wp2_with (first | (go_at_call 15; refine (HP.out _).mono ?_; rintro e w' ⟨rfl, rfl⟩) | (go_at_call 22; refine (HC.out _).mono ?_; rintro e w' ⟨rfl, rfl⟩))
  refine bodyPost_ret (v := .agg #[.int .i64 q, .string ⟨(s.take (size - q)).toArray⟩, .bool y]) (by simp [results, Try.results26, go_sem]) rfl ⟨rfl, ?_⟩
  exact ((Fr.refl _ _).alloc _).alloc _

namespace Sane22
def d1 := Dm.write (Dm.new 4) 0 [97, 98]
def d2 := Dm.write d1 1 [120, 121]
def d3 := Dm.crash d2 [1, 0] 1
def d4 := Dm.cut d3 1
def d5 := Dm.write d4 3 [113]
end Sane22
/-- A disk of the call's own. -/
def Mine (w0 w : World) (b : Nat) (d : Dm.Dk) : Prop := ∃ F, Dsk w F b d ∧ Fr [] w0 w ∧ ∀ g ∈ F, w0.heap.size ≤ g
theorem Mine.to {w0 w w' : World} {F : List Nat} {b : Nat} {d d' : Dm.Dk} (hf : Fr [] w0 w) (hF : ∀ g ∈ F, w0.heap.size ≤ g) (_ : Dsk w F b d) (h : DskTo w w' F b d') : Mine w0 w' b d' := by
  obtain ⟨F', h1, h2, h3⟩ := h
  refine ⟨F', h1, hf.trans' h2 (fun g hg => .inr (hF g hg)), fun g hg => ?_⟩
  rcases h3 g hg with h4 | h4
  · exact hF g h4
  · have := hf.size; omega
theorem mwrite {w0 : World} {b : Nat} {d d' : Dm.Dk} {c : Int} (off : Int) (s : List UInt8) {w : World} (h : Mine w0 w b d) (ho : okI off) (hpl : d.pend.length ≤ 100000) (hlf : okI d.left) (hc : Dm.writeCode d off s = c) (hd : Dm.write d off s = d') :
    Calls Try.prog 21 #[.pointer (some ⟨b, 0, none⟩), .int .i64 off, .string ⟨s.toArray⟩] w fun e w' => e = .returned (.int .i64 c) ∧ Mine w0 w' b d' := by
  obtain ⟨F, h1, h2, h3⟩ := h
  subst hc hd
  exact (dwrite_any F b d off s w h1 ho hpl hlf).mono fun _ _ ⟨he, ht⟩ => ⟨he, Mine.to h2 h3 h1 ht⟩
theorem msync {w0 : World} {b : Nat} {d d' : Dm.Dk} {c : Int} {w : World} (h : Mine w0 w b d) (hc : Dm.syncCode d = c) (hd : Dm.sync d = d') :
    Calls Try.prog 23 #[.pointer (some ⟨b, 0, none⟩)] w fun e w' => e = .returned (.int .i64 c) ∧ Mine w0 w' b d' := by
  obtain ⟨F, h1, h2, h3⟩ := h
  subst hc hd
  exact (dsync_any F b d w h1).mono fun _ _ ⟨he, ht⟩ => ⟨he, Mine.to h2 h3 h1 ht⟩
theorem mcut {w0 : World} {b : Nat} {d d' : Dm.Dk} {c : Int} (n : Int) {w : World} (h : Mine w0 w b d) (hc : Dm.cutCode d n = c) (hd : Dm.cut d n = d') :
    Calls Try.prog 24 #[.pointer (some ⟨b, 0, none⟩), .int .i64 n] w fun e w' => e = .returned (.int .i64 c) ∧ Mine w0 w' b d' := by
  obtain ⟨F, h1, h2, h3⟩ := h
  subst hc hd
  exact (dcut_any F b d n w h1).mono fun _ _ ⟨he, ht⟩ => ⟨he, Mine.to h2 h3 h1 ht⟩
theorem mcrash {w0 : World} {b : Nat} {d d' : Dm.Dk} (A : Option Addr) (n kc : Nat) (zs : List Int) (t : Int) {w : World} (h : Mine w0 w b d) (hn : n = zs.length) (hz : zs.length ≤ 100000) (hI : IntsIn w A zs) (ht : okI t) (hd : Dm.crash d zs t = d') :
    Calls Try.prog 25 #[.pointer (some ⟨b, 0, none⟩), .slice A n kc, .int .i64 t] w fun e w' => e = .returned (.int .i64 0) ∧ Mine w0 w' b d' := by
  obtain ⟨F, h1, h2, h3⟩ := h
  subst hd
  exact (dcrash_any F b d A n kc zs t w h1 hn hz hI ht).mono fun _ _ ⟨he, ht⟩ => ⟨he, Mine.to h2 h3 h1 ht⟩
theorem mread {w0 : World} {b : Nat} {d : Dm.Dk} {s : List UInt8} {c : Int} (off n : Int) {w : World} (h : Mine w0 w b d) (ho : okI off) (hr : Dm.read d off n = (s, c)) :
    Calls Try.prog 14 #[.pointer (some ⟨b, 0, none⟩), .int .i64 off, .int .i64 n] w fun e w' => e = .returned (.tuple #[.string ⟨s.toArray⟩, .int .i64 c]) ∧ w = w' := by
  obtain ⟨F, h1, h2, h3⟩ := h
  refine (dread_any F b d off n w h1 ho).mono fun _ _ ⟨he, hw⟩ => ⟨?_, hw⟩
  rw [hr] at he
  exact he
theorem mpending {w0 : World} {b : Nat} {d : Dm.Dk} {n : Nat} {w : World} (h : Mine w0 w b d) (hn : d.pend.length = n) :
    Calls Try.prog 17 #[.pointer (some ⟨b, 0, none⟩)] w fun e w' => e = .returned (.int .i64 n) ∧ w = w' := by
  obtain ⟨F, h1, h2, h3⟩ := h
  subst hn
  exact dpending_any F b d w h1
theorem msize {w0 : World} {b : Nat} {d : Dm.Dk} {n : Nat} {w : World} (h : Mine w0 w b d) (hn : d.sure.length = n) :
    Calls Try.prog 16 #[.pointer (some ⟨b, 0, none⟩)] w fun e w' => e = .returned (.int .i64 n) ∧ w = w' := by
  obtain ⟨F, h1, h2, h3⟩ := h
  subst hn
  exact dsize_any F b d w h1
theorem mnew (n : Nat) {w0 w : World} (hf : Fr [] w0 w) (h1 : 1 ≤ n) (h2 : n ≤ 4194304) : Calls Try.prog 13 #[.int .i64 n] w fun e w' => ∃ b, e = .returned (.tuple #[.pointer (some ⟨b, 0, none⟩), .int .i64 0]) ∧ Mine w0 w' b (Dm.new n) :=
  (dnew_any n w h1 h2).mono fun _ _ ⟨b, F, he, h3, h4, h5⟩ => ⟨b, he, F, h3, hf.trans h4, fun g hg => Nat.le_trans hf.size (h5 g hg)⟩
theorem Mine.alloc {w0 w : World} {b : Nat} {d : Dm.Dk} (h : Mine w0 w b d) (o : Obj) : Mine w0 (w.alloc o) b d := by
  obtain ⟨F, h1, h2, h3⟩ := h
  exact ⟨F, h1.fr0 ((Fr.refl _ _).alloc o), h2.alloc o, h3⟩
theorem Mine.fr0 {w0 w w' : World} {b : Nat} {d : Dm.Dk} (h : Mine w0 w b d) (hf : Fr [] w w') : Mine w0 w' b d := by
  obtain ⟨F, h1, h2, h3⟩ := h
  exact ⟨F, h1.fr0 hf, h2.trans hf, h3⟩
theorem Mine.frame {w0 w : World} {b : Nat} {d : Dm.Dk} (h : Mine w0 w b d) : Fr [] w0 w := by
  obtain ⟨F, h1, h2, h3⟩ := h
  exact h2
theorem okI0 : okI 0 := okI_mk (by decide) (by decide)
set_option maxRecDepth 100000 in
set_option maxHeartbeats 4000000 in
theorem sane_any (w : World) : Calls Try.prog 12 #[] w fun e w' => e = .returned (.bool true) ∧ Fr [] w w' := by
  go_enter Try.func12, Try.ntmps12
  go_wp2_with fail
  refine (mnew 4 (Fr.refl [] w) (by decide) (by decide)).mono ?_
  rintro e w1 ⟨b, rfl, m1⟩
  have M1 := Lib.hid m1
  clear m1
  go_wp2_with fail
  refine (new_bad 0 _ (by decide)).mono ?_
  rintro e w' ⟨rfl, rfl⟩
  go_wp2_with fail
  refine (mwrite (c := 0) (d' := Sane22.d1) 0 [97, 98] M1.out okI0 (by decide) okI0 (by decide) rfl).mono ?_
  rintro e w2 ⟨rfl, m2⟩
  have M2 := Lib.hid m2
  clear m2
  go_wp2_with fail
  refine (mwrite (c := 0) (d' := Sane22.d2) 1 [120, 121] M2.out (okI_mk (by decide) (by decide)) (by decide) okI0 (by decide) rfl).mono ?_
  rintro e w3 ⟨rfl, m3⟩
  have M3 := Lib.hid m3
  clear m3
  go_wp2_with fail
  refine (mwrite (c := 220) (d' := Sane22.d2) 3 [122, 122] M3.out (okI_mk (by decide) (by decide)) (by decide) okI0 (by decide) (by kernel_rfl)).mono ?_
  rintro e w4 ⟨rfl, m4⟩
  have M4 := Lib.hid m4
  clear m4
  go_wp2_with fail
  refine (mread (s := [97, 120, 121, 0]) (c := 0) 0 4 M4.out okI0 (by kernel_rfl)).mono ?_
  rintro e w' ⟨rfl, rfl⟩
  go_wp2_with fail
  refine (mpending (n := 2) M4.out (by kernel_rfl)).mono ?_
  rintro e w' ⟨rfl, rfl⟩
  go_wp2_with fail
  have hb := Blk.new w4 3 #[.int .i64 1, .int .i64 0]
  refine (mcrash (d' := Sane22.d3) (some ⟨w4.heap.size, 0, none⟩) 2 _ [1, 0] 1 (M4.out.alloc _) rfl (by decide) (.inr ⟨_, _, rfl, fun i hi => ?_, fun x hx => ?_, fun _ => by simp⟩) (okI_mk (by decide) (by decide)) rfl).mono ?_
  · have h1 := hb.cell i
    rw [Nat.zero_add, h1]
    have hi' : i = 0 ∨ i = 1 := by simp at hi; omega
    rcases hi' with rfl | rfl <;> rfl
  · simp only [List.mem_cons, List.not_mem_nil, or_false] at hx
    rcases hx with rfl | rfl <;> exact okI_mk (by decide) (by decide)
  clear hb
  rintro e w5 ⟨rfl, m5⟩
  have M5 := Lib.hid m5
  clear m5
  go_wp2_with fail
  refine (mread (s := [97, 120, 0, 0]) (c := 0) 0 4 M5.out okI0 (by kernel_rfl)).mono ?_
  rintro e w' ⟨rfl, rfl⟩
  go_wp2_with fail
  refine (mcut (c := 0) (d' := Sane22.d4) 1 M5.out (by kernel_rfl) rfl).mono ?_
  rintro e w6 ⟨rfl, m6⟩
  have M6 := Lib.hid m6
  clear m6
  go_wp2_with fail
  refine (mwrite (c := 0) (d' := Sane22.d5) 3 [113] M6.out (okI_mk (by decide) (by decide)) (by decide) (okI_mk (by decide) (by decide)) (by kernel_rfl) rfl).mono ?_
  rintro e w7 ⟨rfl, m7⟩
  have M7 := Lib.hid m7
  clear m7
  go_wp2_with fail
  refine (msync (c := 221) (d' := Sane22.d5) M7.out (by kernel_rfl) (by kernel_rfl)).mono ?_
  rintro e w8 ⟨rfl, m8⟩
  have M8 := Lib.hid m8
  clear m8
  go_wp2_with fail
  refine (msize (n := 4) M8.out (by kernel_rfl)).mono ?_
  rintro e w' ⟨rfl, rfl⟩
  go_wp2_with fail
  go_ret
  exact ⟨rfl, M8.out.frame⟩
end Go.Proofs.Ytbmakjhfoaadoaa

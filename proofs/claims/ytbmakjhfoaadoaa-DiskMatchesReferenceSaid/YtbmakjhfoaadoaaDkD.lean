/-
  Contracts of package disk: used, onto, Cut; what a nil disk says.
-/
import Derived.Test.YtbmakjhfoaadoaaDkC
import Derived.StillTailTactics
import Derived.Laws.CopyOwn
namespace Go.Proofs.Ytbmakjhfoaadoaa
open Go.RowKit

theorem Blk.setRow {w : World} {g t : Nat} {cs cs' : Array Value} (h : Blk w g t cs) : Blk (w.setRow g cs') g t cs' := setRow_heap w g cs cs' t (0, 0) h
theorem Fr.setRow {a w : World} {S : List Nat} (h : Fr S a w) {g : Nat} (hg : g ∈ S ∨ a.heap.size ≤ g) (cs : Array Value) : Fr S a (w.setRow g cs) :=
  ⟨h.os, h.tape, h.output, by rw [setRow_size]; exact h.size, fun k hk hs => (setRow_other w g k cs (fun e => by
    subst e
    rcases hg with h1 | h1
    · exact hs h1
    · omega)).trans (h.block k hk hs)⟩
theorem write_nil (off : Int) (s : Value) (w : World) : Calls Try.prog 21 #[.pointer none, .int .i64 off, s] w fun e w' => e = .returned (.int .i64 1) ∧ w = w' := by
  go_enter Try.func21, Try.ntmps21
  go_wp2_with (go_at_call 28; refine (check_nil _).mono ?_; rintro e w' ⟨rfl, rfl⟩)
  go_ret
  exact ⟨rfl, rfl⟩
theorem sync_nil (w : World) : Calls Try.prog 23 #[.pointer none] w fun e w' => e = .returned (.int .i64 1) ∧ w = w' := by
  go_enter Try.func23, Try.ntmps23
  go_wp2_with (go_at_call 28; refine (check_nil _).mono ?_; rintro e w' ⟨rfl, rfl⟩)
  go_ret
  exact ⟨rfl, rfl⟩
theorem cut_nil (n : Int) (w : World) : Calls Try.prog 24 #[.pointer none, .int .i64 n] w fun e w' => e = .returned (.int .i64 1) ∧ w = w' := by
  go_enter Try.func24, Try.ntmps24
  go_wp2_with (go_at_call 28; refine (check_nil _).mono ?_; rintro e w' ⟨rfl, rfl⟩)
  go_ret
  exact ⟨rfl, rfl⟩
theorem used_any (b : Nat) (o : Bool) (l : Int) (x y z : Value) (w : World) (h : Blk w b 65 #[.bool o, .int .i64 l, x, y, z]) (hl : 0 ≤ l) (hok : okI l) :
    Calls Try.prog 36 #[.pointer (some ⟨b, 0, none⟩)] w fun e w' => e = .returned (.tuple #[]) ∧ Blk w' b 65 #[.bool (Dm.used o l).1, .int .i64 (Dm.used o l).2, x, y, z] ∧ Fr [b] w w' := by
  have b1 : w.cell? ⟨b, 1, none⟩ = some (.int .i64 l) := h.cell 1
  have z0 := h.frozen 0
  have z1 := h.frozen 1
  have hlt := h.lt
  have b0 : w.cell? ⟨b, 0, none⟩ = some (.bool o) := h.cell 0
  have hb := okI_bounds hok
  have HU : Hid (Dm.used o l = if l = 0 then (o, l) else (decide (l - 1 = 0), l - 1)) := Lib.hid rfl
  by_cases h0 : l = 0
  · subst h0
    go_enter Try.func36, Try.ntmps36
    have H := Lib.hid h
    clear h
    go_wp2
    refine bodyPost_ret (results_none rfl _ _ _) rfl ?_
    exact ⟨rfl, by rw [HU.out]; exact H.out, Fr.refl _ _⟩
  · have HB : Hid (Blk ((w.setCell ⟨b, 1, none⟩ (.int .i64 (l - 1))).setCell ⟨b, 0, none⟩ (.bool (decide (l - 1 = 0)))) b 65 #[.bool (Dm.used o l).1, .int .i64 (Dm.used o l).2, x, y, z]) := Lib.hid (by
      have h1 := (h.set_ 1 (.int .i64 (l - 1))).set_ 0 (.bool (decide (l - 1 = 0)))
      rw [HU.out, if_neg h0]
      simpa using h1)
    have HF := Lib.hid (((Fr.refl [b] w).setCell (p := ⟨b, 1, none⟩) (.inl (by simp)) (.int .i64 (l - 1))).setCell (p := ⟨b, 0, none⟩) (.inl (by simp)) (.bool (decide (l - 1 = 0))))
    clear h
    go_enter Try.func36, Try.ntmps36
    go_wp2
    go_end0
    exact ⟨rfl, HB.out, HF.out⟩
set_option maxRecDepth 100000 in
theorem onto_any (u : Dm.Wr) (g : Nat) (bs : List UInt8) (N : Nat) (w : World) (hB : Blk w g 5 (Lib.byteCells bs).toArray) (hN : bs.length = N) (hfit : u.off + u.s.length ≤ N) (hbig : N ≤ 4194304) :
    Calls Try.prog 35 #[.agg #[.int .i64 u.off, .string ⟨u.s.toArray⟩], .slice (some ⟨g, 0, none⟩) N N] w fun e w' => e = .returned (.tuple #[]) ∧ Blk w' g 5 (Lib.byteCells (Dm.onto bs u)).toArray ∧ Fr [g] w w' := by
  obtain ⟨o, s⟩ := u
  dsimp only at hfit ⊢
  have hbx := Blk.new w 69 #[.int .i64 o, .string ⟨s.toArray⟩]
  have hB1 := hB.alloc (.cells #[.int .i64 o, .string ⟨s.toArray⟩] 69)
  have hF1 := (Fr.refl [g] w).alloc (.cells #[.int .i64 o, .string ⟨s.toArray⟩] 69)
  go_enter Try.func35, Try.ntmps35
  go_wp2_with fail
  have HB1 := Lib.hid hB1
  have HF1 := Lib.hid hF1
  have c0 := hbx.cell 0
  have c1 := hbx.cell 1
  have hon : o ≤ N := by omega
  have hoi : (o : Int) ≤ (N : Int) := by omega
  have ho0 : (0 : Int) ≤ (o : Int) := by omega
  clear hB hB1 hF1 hbx
  generalize hw1 : (w.alloc (.cells #[.int .i64 o, .string ⟨s.toArray⟩] 69)) = W1 at HB1 HF1 c0 c1 ⊢
  clear hw1
  rcases Nat.lt_or_ge o N with h1 | h1
  · have hne : ¬ N = o := by omega
    have hcp : ∀ ty, (Builtin.copy_ #[40, 9] ty #[.slice (some ⟨g, o, none⟩) (N - o) (N - o), .string ⟨s.toArray⟩]).run Try.prog W1.drew = .ok (goInt s.length) (W1.drew.setRow g (Lib.byteCells (Dm.onto bs ⟨o, s⟩)).toArray) := fun ty => by
      have hsz : (⟨s.toArray⟩ : ByteArray).size = s.length := by simp [ByteArray.size]
      have h2 := Lib.run_copy_row_string (P := Try.prog) W1.drew 40 9 ty 5 g o (N - o) (N - o) ⟨s.toArray⟩ (Lib.byteCells bs).toArray 5 Try.underlying40 (by
        have h3 := infoByte
        cases hq : Try.prog.info? 5 with
        | none => rw [hq] at h3; cases h3
        | some i => rw [hq] at h3; simp at h3 ⊢; exact h3.2.1) (HB1.out.drew) (by rw [hsz]; omega) (by rw [hsz]; simp [Lib.byteCells]; omega)
      rw [h2, hsz]
      congr 2
      simp [Lib.byteCells, Dm.onto, List.map_take, List.map_drop]
    have HCP := Lib.hid hcp
    clear hcp
    go_still_tail 6, (by kernel_rfl)
    change wpList _ _ _ _ _ W1.drew
    have hcp := HCP.out
    have HE := Lib.hid (HB1.out.drew.setRow (cs' := (Lib.byteCells (Dm.onto bs ⟨o, s⟩)).toArray))
    have HFE := Lib.hid (HF1.out.drew.setRow (g := g) (.inl (by simp)) (Lib.byteCells (Dm.onto bs ⟨o, s⟩)).toArray)
    go_wp2
    go_end0
    exact ⟨rfl, HE.out, HFE.out⟩
  · obtain rfl : o = N := by omega
    have hs0 : s = [] := List.eq_nil_of_length_eq_zero (by omega)
    subst hs0
    have hcp : ∀ d n c ty, (Builtin.copy_ #[40, 9] ty #[.slice d n c, .string ⟨#[]⟩]).run Try.prog W1.drew = .ok (goInt 0) W1.drew := fun d n c ty =>
      Lib.run_copy_empty_string (P := Try.prog) W1.drew 40 9 ty 5 d n c ⟨#[]⟩ Try.underlying40 (by
        have h3 := infoByte
        cases hq : Try.prog.info? 5 with
        | none => rw [hq] at h3; cases h3
        | some i => rfl) rfl
    have HCP := Lib.hid hcp
    have HE : Hid (Blk W1.drew g 5 (Lib.byteCells (Dm.onto bs ⟨o, []⟩)).toArray) := Lib.hid (by
      have e : Dm.onto bs ⟨o, []⟩ = bs := by simp [Dm.onto]
      rw [e]
      exact HB1.out.drew)
    have HFE := Lib.hid (HF1.out.drew)
    clear hcp
    go_still_tail 6, (by kernel_rfl)
    change wpList _ _ _ _ _ W1.drew
    have hcp := HCP.out
    go_wp2
    go_end0
    exact ⟨rfl, HE.out, HFE.out⟩
end Go.Proofs.Ytbmakjhfoaadoaa

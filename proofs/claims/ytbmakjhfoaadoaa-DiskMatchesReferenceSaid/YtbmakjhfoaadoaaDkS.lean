/-
  A disk of the law's own, and a row of integers beside it.
-/
import Derived.Test.YtbmakjhfoaadoaaDkR
namespace Go.Proofs.Ytbmakjhfoaadoaa
open Go.RowKit

section
variable {W wr : World} {b : Nat} {d : Dm.Dk}
theorem Mine.to2 {w' : World} {d' : Dm.Dk} {F : List Nat} (hf : Fr [] W wr) (h1 : Dsk wr F b d) (h3 : ∀ g ∈ F, W.heap.size ≤ g) (ht : DskTo wr w' F b d') : Mine W w' b d' ∧ KeepT wr w' := by
  refine ⟨Mine.to hf h3 h1 ht, ?_⟩
  obtain ⟨_, _, hf, _⟩ := ht
  exact h1.keepT hf
theorem Mine.write {d' : Dm.Dk} {c : Int} (h : Mine W wr b d) (off : Int) (s : List UInt8) (ho : okI off) (hpl : d.pend.length ≤ 100000) (hlf : okI d.left) (hc : Dm.writeCode d off s = c) (hd : Dm.write d off s = d') :
    Calls Try.prog 21 #[.pointer (some ⟨b, 0, none⟩), .int .i64 off, .string ⟨s.toArray⟩] wr fun e w' => e = .returned (.int .i64 c) ∧ Mine W w' b d' ∧ KeepT wr w' := by
  obtain ⟨F, h1, h2, h3⟩ := h
  subst hc hd
  exact (dwrite_any F b d off s wr h1 ho hpl hlf).mono fun _ _ ⟨he, ht⟩ => ⟨he, Mine.to2 h2 h1 h3 ht⟩
theorem Mine.sync {d' : Dm.Dk} {c : Int} (h : Mine W wr b d) (hc : Dm.syncCode d = c) (hd : Dm.sync d = d') :
    Calls Try.prog 23 #[.pointer (some ⟨b, 0, none⟩)] wr fun e w' => e = .returned (.int .i64 c) ∧ Mine W w' b d' ∧ KeepT wr w' := by
  obtain ⟨F, h1, h2, h3⟩ := h
  subst hc hd
  exact (dsync_any F b d wr h1).mono fun _ _ ⟨he, ht⟩ => ⟨he, Mine.to2 h2 h1 h3 ht⟩
theorem Mine.crash {d' : Dm.Dk} (h : Mine W wr b d) (A : Option Addr) (n kc : Nat) (zs : List Int) (t : Int) (hn : n = zs.length) (hz : zs.length ≤ 100000) (hI : IntsIn wr A zs) (ht : okI t) (hd : Dm.crash d zs t = d') :
    Calls Try.prog 25 #[.pointer (some ⟨b, 0, none⟩), .slice A n kc, .int .i64 t] wr fun e w' => e = .returned (.int .i64 0) ∧ Mine W w' b d' ∧ KeepT wr w' := by
  obtain ⟨F, h1, h2, h3⟩ := h
  subst hd
  exact (dcrash_any F b d A n kc zs t wr h1 hn hz hI ht).mono fun _ _ ⟨he, ht⟩ => ⟨he, Mine.to2 h2 h1 h3 ht⟩
theorem Dsk.not_row {F : List Nat} (h : Dsk wr F b d) {v : Value} {L : List Int} (ho : OwnL 3 1 encI wr v L) {g : Nat} (hg : v.ownBlock = some g) : g ∉ F := by
  obtain ⟨gs, gv, vp, rfl, h⟩ := h
  intro hm
  simp only [List.mem_cons, Option.mem_toList] at hm
  rcases hm with hm | hm | hm | hm
  · exact ho.ne h.blk (by decide) hg hm
  · exact ho.ne h.sure (by decide) hg hm
  · exact ho.ne h.vis (by decide) hg hm
  · rcases h.pend.2 with ⟨e, _⟩ | ⟨g', cap2, cur, e, _, hh, _⟩
    · rw [e] at hm; simp [Value.ownBlock] at hm
    · rw [e] at hm
      have e2 : g' = g := by simpa [Value.ownBlock] using hm
      subst e2
      exact ho.ne (show Blk wr g' _ cur from hh) (by decide) hg rfl
/-- A row of the law's own beside the disk. -/
structure RowI (W wr : World) (v : Value) (L : List Int) : Prop where
  own : OwnL 3 1 encI wr v L
  new : ∀ g, v.ownBlock = some g → W.heap.size ≤ g
  ok : ∀ x ∈ L, okI x
theorem RowI.nil : RowI W wr (.slice none 0 0) [] := ⟨OwnL.nil, by simp [Value.ownBlock], by simp⟩
theorem RowI.keep {w' : World} {v : Value} {L : List Int} (h : RowI W wr v L) (hk : KeepT wr w') : RowI W w' v L := ⟨hk.own h.own, h.new, h.ok⟩
theorem RowI.fr0 {w' : World} {v : Value} {L : List Int} (h : RowI W wr v L) (hf : Fr [] wr w') : RowI W w' v L := ⟨h.own.fr hf (by simp), h.new, h.ok⟩
theorem RowI.intsIn {A : Option Addr} {n c : Nat} {L : List Int} (h : RowI W wr (.slice A n c) L) : IntsIn wr A L := by
  rcases Nat.eq_zero_or_pos L.length with h0 | h0
  · exact .inl (List.eq_nil_of_length_eq_zero h0)
  · obtain ⟨g, cap, hv, _, _, hl, hc, _⟩ := h.own.form encI_len h0
    injection hv with e1 _ _
    subst e1
    exact .inr ⟨g, 0, rfl, fun i hi => by
      have h1 := hc i hi 0 (by decide)
      rw [Nat.zero_add]
      simpa [encI] using h1, h.ok, fun _ => hl⟩
/-- 'append' onto the row: the disk is as it was. -/
theorem Mine.row {w' : World} {v v' : Value} {L : List Int} {o : Obj} (h : Mine W wr b d) (hr : RowI W wr v L) (hg : (wr.alloc o).grownBy w' v.ownBlock) (_ : v'.ownBlock = v.ownBlock ∨ v'.ownBlock = some (wr.alloc o).heap.size) : Mine W w' b d := by
  obtain ⟨F, h1, h2, h3⟩ := h
  have f1 : Fr v.ownBlock.toList wr w' := ((Fr.refl _ wr).alloc o).grown hg (fun g e => .inl (Option.mem_toList.2 e))
  exact ⟨F, h1.fr f1 (fun g hg hm => h1.not_row hr.own (Option.mem_toList.1 hm) hg), h2.trans' f1 (fun g hg => .inr (hr.new g (Option.mem_toList.1 hg))), h3⟩
theorem RowI.append {w' : World} {v v' : Value} {L : List Int} {x : Int} {o : Obj} (hr : RowI W wr v L) (hW : W.heap.size ≤ wr.heap.size) (ho : OwnL 3 1 encI w' v' (L ++ [x])) (hat : v'.ownBlock = v.ownBlock ∨ v'.ownBlock = some (wr.alloc o).heap.size) (hx : okI x) : RowI W w' v' (L ++ [x]) := by
  refine ⟨ho, fun g hg => ?_, fun y hy => ?_⟩
  · rcases hat with h1 | h1
    · exact hr.new g (h1 ▸ hg)
    · rw [hg] at h1
      injection h1 with h1
      rw [h1]
      simp
      omega
  · rcases List.mem_append.1 hy with h1 | h1
    · exact hr.ok y h1
    · simp only [List.mem_singleton] at h1
      subst h1
      exact hx
end
/-- 0, .., k - 1. -/
def uptoI (k : Nat) : List Int := (List.range k).map fun (i : Nat) => (i : Int)
theorem uptoI_succ (k : Nat) : uptoI (k + 1) = uptoI k ++ [(k : Int)] := by simp [uptoI, List.range_succ]
theorem uptoI_len (k : Nat) : (uptoI k).length = k := by simp [uptoI]
theorem uptoI_mem {k i : Nat} (h : i < k) : (i : Int) ∈ uptoI k := List.mem_map.2 ⟨i, List.mem_range.2 h, rfl⟩
end Go.Proofs.Ytbmakjhfoaadoaa

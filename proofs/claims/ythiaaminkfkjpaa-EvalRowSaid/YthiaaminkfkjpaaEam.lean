/-
  Changes in a block of changes, and frames that touch no such block.
-/
import Derived.Test.YthiaaminkfkjpaaEae
import Derived.Test.YthiaaminkfkjpaaEai
import Derived.Maps.Keyed
import Derived.DeepKeys4
import Derived.Test.YthiaaminkfkjpaaEaa
namespace Go.Proofs.Ythiaaminkfkjpaa
open Go.RowKit

def klId (x : IdK) : Lit := .string (keyBytes [.int .i64 x.1.1, .int .i64 x.1.2])
set_option maxRecDepth 100000 in
theorem keyOf_id (x : IdK) : keyOf Try.prog 71 x.val = some (klId x) := by
  obtain ⟨⟨t, k⟩, h1, h2⟩ := x
  obtain ⟨d, hd⟩ : ∃ d, Try.prog.types.size + 1 = d + 2 := ⟨Try.prog.types.size - 1, by
    have : 1 ≤ Try.prog.types.size := of_decide_eq_true (by kernel_rfl)
    omega⟩
  have hk : Try.prog.keyType 71 = true := by kernel_rfl
  have hcell : Try.prog.cellsOf 71 = 2 := by kernel_rfl
  have hcelli : Try.prog.cellsOf 3 = 1 := by kernel_rfl
  unfold okI at h1 h2
  dsimp only at h1 h2
  simp only [keyOf, Try.underlying71, hk, Value.formed, hcell, hd, Value.cells]
  simp [Program.keyLits, Try.underlying71, Try.underlying3, hcell, hcelli, h1, h2, klId]
theorem keyedId : Maps.Keyed Try.prog 71 := Maps.Keyed.of_law (deep_law_laid (m := 3) laidOut (by decide) (of_decide_eq_true (by kernel_rfl)) (by kernel_rfl) (by kernel_rfl))
theorem tyIdRow : MT Try.prog 65 71 33 IdK.val klId RowV.val (fun _ => True) (.agg #[.int .i64 0, .int .i64 0, .int .i64 0, .int .i64 0, .int .i64 0]) where
  keyed := keyedId
  ht := Try.underlying65
  key := fun x _ => keyOf_id x
  inj := fun x y h => by
    have h1 := keyedId.inj (keyOf_id x) ((keyOf_id y).trans (by rw [h]))
    obtain ⟨⟨t, k⟩, _⟩ := x
    obtain ⟨⟨t', k'⟩, _⟩ := y
    simp only [IdK.val] at h1
    injection h1 with h1
    simp at h1
    obtain ⟨rfl, rfl⟩ := h1
    rfl
  zero := fun w => by kernel_rfl
end Go.Proofs.Ythiaaminkfkjpaa
namespace Go.Proofs.Ythiaaminkfkjpaa
open Go.RowKit

theorem Blk.ne {w : World} {a b ta tb : Nat} {ca cb : Array Value} (h1 : Blk w a ta ca) (h2 : Blk w b tb cb) (hne : ta ≠ tb) : a ≠ b := by
  rintro rfl
  unfold Blk at h1 h2
  rw [h1] at h2
  injection h2 with h2
  injection h2 with _ h2
  exact hne h2

/-- Changes of a record in a block of changes: nobody writes there. -/
def HoldsC (w : World) (A : Option Addr) (cs : List Chg) : Prop := ChgsAt w A cs ∧ (0 < cs.length → ∀ ad, A = some ad → ∃ arr fz, w.heap[ad.block]? = some (.cells arr 35 fz))
/-- None of the blocks in S holds changes. -/
def NoC (w : World) (S : List Nat) : Prop := ∀ s ∈ S, ∀ arr fz, w.heap[s]? ≠ some (.cells arr 35 fz)
theorem NoC.nil {w : World} : NoC w [] := fun _ h => by simp at h
theorem NoC.cons {w : World} {s : Nat} {S : List Nat} (h1 : ∀ arr fz, w.heap[s]? ≠ some (.cells arr 35 fz)) (h2 : NoC w S) : NoC w (s :: S) := fun x hx => by
  rcases List.mem_cons.1 hx with rfl | hx
  · exact h1
  · exact h2 x hx
theorem noC_blk {w : World} {s ty : Nat} {cs : Array Value} (h : Blk w s ty cs) (hne : ty ≠ 35) : ∀ arr fz, w.heap[s]? ≠ some (.cells arr 35 fz) := by
  intro arr fz e
  unfold Blk at h
  rw [h] at e
  injection e with e
  injection e with _ e
  exact hne e
theorem noC_map {K V : Type} {P : Program} {k : TypeId} {kl : K → Lit} {ev : V → Value} {w : World} {b : Nat} {M : List (K × V)} (h : VMap P k kl ev w b M) : ∀ arr fz, w.heap[b]? ≠ some (.cells arr 35 fz) := by
  intro arr fz e
  obtain ⟨es, clock, hb, _⟩ := h
  rw [hb] at e
  cases e
theorem noC_new {w : World} {s : Nat} (h : w.heap.size ≤ s) : ∀ arr fz, w.heap[s]? ≠ some (.cells arr 35 fz) := by
  intro arr fz e
  rw [Array.getElem?_eq_none h] at e
  cases e
theorem HoldsC.fr {w w' : World} {A : Option Addr} {cs : List Chg} {S : List Nat} (h : HoldsC w A cs) (hf : Fr S w w') (hs : NoC w S) : HoldsC w' A cs := by
  have hn : 0 < cs.length → ∀ ad, A = some ad → ad.block ∉ S := fun hl ad e hm => by
    obtain ⟨arr, fz, hb⟩ := h.2 hl ad e
    exact hs _ hm arr fz hb
  refine ⟨fun hl => (h.1.fr hf (hn hl)) hl, fun hl ad e => ?_⟩
  obtain ⟨arr, fz, hb⟩ := h.2 hl ad e
  exact ⟨arr, fz, (hf.block _ (Array.getElem?_eq_some_iff.1 hb).1 (hn hl ad e)).trans hb⟩
end Go.Proofs.Ythiaaminkfkjpaa

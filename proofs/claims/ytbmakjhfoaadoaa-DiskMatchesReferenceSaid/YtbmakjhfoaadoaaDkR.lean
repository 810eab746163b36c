/-
  A disk and a content of the law's own beside it.
-/
import Derived.Test.YtbmakjhfoaadoaaDkQ
namespace Go.Proofs.Ytbmakjhfoaadoaa
open Go.RowKit

namespace Dm
/-- A disk with power, and no loss of it to come. -/
structure Lv (d : Dk) (size i : Nat) : Prop where
  ok : Ok d
  off : d.off = false
  left : d.left = 0
  len : d.sure.length = size
  pl : d.pend.length ≤ i
theorem Lv.le {d : Dk} {size i j : Nat} (h : Lv d size i) (hij : i ≤ j) : Lv d size j := ⟨h.ok, h.off, h.left, h.len, Nat.le_trans h.pl hij⟩
theorem Lv.new {size : Nat} (h1 : 1 ≤ size) (h2 : size ≤ 4194304) : Lv (new size) size 0 := ⟨Ok.new h1 h2, rfl, rfl, by simp [Dm.new], by simp [Dm.new]⟩
theorem writes_of {d : Dk} {u : Wr} (h0 : d.off = false) (hu : u.off + u.s.length ≤ d.sure.length) : writes d u.off u.s = true := by
  unfold writes
  rw [h0]
  simp only [Bool.not_false, Bool.true_and]
  rw [inside_iff]
  omega
theorem Lv.write {d : Dk} {size i : Nat} {u : Wr} (h : Lv d size i) (hu : u.off + u.s.length ≤ size) :
    writeCode d u.off u.s = 0 ∧ Dm.write d u.off u.s = ⟨d.sure, d.pend ++ [u], false, 0⟩ ∧ Lv (Dm.write d u.off u.s) size (i + 1) ∧ (Dm.write d u.off u.s).vis = onto d.vis u := by
  have hw := writes_of h.off (u := u) (by rw [h.len]; exact hu)
  have e1 : Dm.write d u.off u.s = ⟨d.sure, d.pend ++ [u], false, 0⟩ := by
    unfold Dm.write
    rw [if_pos hw, h.left, h.off]
    simp [used]
  have hi : inside d u.off u.s.length = true := by
    unfold writes at hw
    simp only [Bool.and_eq_true] at hw
    exact hw.2
  refine ⟨?_, e1, ⟨h.ok.write _ _, by rw [e1], by rw [e1], by rw [e1]; exact h.len, by rw [e1]; simp; exact h.pl⟩, ?_⟩
  · unfold writeCode
    rw [if_neg (by rw [h.off]; simp), if_pos hi]
  · rw [vis_write hw]
    simp
theorem Lv.sync {d : Dk} {size i : Nat} (h : Lv d size i) : syncCode d = 0 ∧ Dm.sync d = ⟨d.vis, [], false, 0⟩ ∧ Lv (Dm.sync d) size i ∧ (Dm.sync d).vis = d.vis := by
  have e1 : Dm.sync d = ⟨d.vis, [], false, 0⟩ := by
    unfold Dm.sync
    rw [if_neg (by rw [h.off]; simp), h.off, h.left]
  refine ⟨by unfold syncCode; rw [if_neg (by rw [h.off]; simp)], e1, ⟨h.ok.sync, by rw [e1], by rw [e1], by rw [e1]; exact h.ok.vis_len.trans h.len, by rw [e1]; simp⟩, by rw [e1]; rfl⟩
theorem Lv.read {d : Dk} {size i : Nat} (h : Lv d size i) : Dm.read d 0 size = (d.vis, 0) := by
  have hv := h.ok.vis_len
  unfold Dm.read
  rw [if_neg (by rw [h.off]; simp), if_pos (by rw [inside_iff, h.len]; omega)]
  simp only [Int.toNat_zero, List.drop_zero, Int.toNat_natCast]
  rw [List.take_of_length_le (by rw [hv, h.len]; omega)]
theorem Lv.crash {d : Dk} {size i : Nat} (h : Lv d size i) (keep : List Int) (t : Int) : Lv (crash d keep t) size 0 :=
  ⟨h.ok.crash keep t, rfl, rfl, (fold_len _ _ (h.ok.survivors keep t)).trans h.len, by simp [Dm.crash]⟩
end Dm

theorem conv_any {w : World} {g n : Nat} {l : List UInt8} (h : Blk w g 5 (Lib.byteCells l).toArray) (hn : l.length = n) (c : Nat) : (convert 40 9 (.slice (some ⟨g, 0, none⟩) n c)).run Try.prog w = .ok (.string ⟨l.toArray⟩) w := by
  have h1 := run_convert_bytes_back (P := Try.prog) w 40 9 5 ⟨g, 0, none⟩ c l Try.underlying40 Try.underlying5 Try.underlying9 (fun j hj => by
    rw [show (⟨g, 0, none⟩ : Addr).add j = ⟨g, j, none⟩ from by unfold Addr.add; split <;> simp_all, h.cell]
    simp [Lib.byteCells, List.getElem?_eq_getElem hj])
  rw [hn] at h1
  exact h1
/-- Blocks of other types than a disk's and a content's are as they were. -/
def KeepT (w w' : World) : Prop := ∀ (g : Nat) (cs : Array Value) (t : TypeId) (fz : Nat × Nat), w.heap[g]? = some (Obj.cells cs t fz) → t ≠ 65 → t ≠ 5 → t ≠ 69 → w'.heap[g]? = w.heap[g]?
theorem KeepT.blk {w w' : World} {g t : Nat} {cs : Array Value} (h : KeepT w w') (hb : Blk w g t cs) (h1 : t ≠ 65 := by decide) (h2 : t ≠ 5 := by decide) (h3 : t ≠ 69 := by decide) : Blk w' g t cs := (h g cs t _ hb h1 h2 h3).trans hb
theorem KeepT.own {w w' : World} {v : Value} {L : List Int} (h : KeepT w w') (ho : OwnL 3 1 encI w v L) : OwnL 3 1 encI w' v L := by
  rcases ho.2 with ⟨rfl, _⟩ | ⟨g', cap, cur, hv, _, hh, _⟩
  · exact ho.of_block (fun g hg => by simp [Value.ownBlock] at hg)
  · exact ho.of_block (fun g hg => by
      rw [hv] at hg
      have e : g' = g := by simpa [Value.ownBlock] using hg
      subst e
      exact h g' cur _ _ hh (by decide) (by decide) (by decide))
theorem KeepT.trans {a b c : World} (h : KeepT a b) (k : KeepT b c) : KeepT a c := fun g cs t fz h0 h1 h2 h3 => by
  have e := h g cs t fz h0 h1 h2 h3
  exact (k g cs t fz (e.trans h0) h1 h2 h3).trans e
theorem Dsk.keepT {w w' : World} {F : List Nat} {b : Nat} {d : Dm.Dk} (h : Dsk w F b d) (hf : Fr F w w') : KeepT w w' := by
  intro g cs t fz hg h1 h2 h3
  refine hf.block g (Array.getElem?_eq_some_iff.1 hg).1 fun hm => ?_
  have key : ∀ {g' t' : Nat} {cs' : Array Value}, Blk w g' t' cs' → t ≠ t' → g ≠ g' := fun {g' t' cs'} hb hne e => by
    subst e
    have hb' : w.heap[g]? = some (Obj.cells cs' t' (0, 0)) := hb
    rw [hg] at hb'
    injection hb' with hb'
    injection hb' with _ hb' _
    exact hne hb'
  obtain ⟨gs, gv, vp, rfl, h⟩ := h
  simp only [List.mem_cons, Option.mem_toList] at hm
  rcases hm with hm | hm | hm | hm
  · exact key h.blk h1 hm
  · exact key h.sure h2 hm
  · exact key h.vis h2 hm
  · rcases h.pend.2 with ⟨e, _⟩ | ⟨g', cap2, cur, e, _, hh, _⟩
    · rw [e] at hm; simp [Value.ownBlock] at hm
    · rw [e] at hm
      have e2 : g' = g := by simpa [Value.ownBlock] using hm
      subst e2
      rw [hg] at hh
      injection hh with hh
      injection hh with _ hh _
      exact h3 hh
/-- A disk at b, a content at bb, both of the call's own. -/
structure DB (W : World) (b bb : Nat) (bs : List UInt8) (d : Dm.Dk) (wr : World) : Prop where
  disk : ∃ F, Dsk wr F b d ∧ bb ∉ F ∧ ∀ g ∈ F, W.heap.size ≤ g
  buf : Blk wr bb 5 (Lib.byteCells bs).toArray
  fr : Fr [] W wr
  hb : W.heap.size ≤ bb
section
variable {W wr : World} {b bb : Nat} {bs : List UInt8} {d : Dm.Dk}
theorem DB.mine (h : DB W b bb bs d wr) : Mine W wr b d := by
  obtain ⟨F, h1, _, h3⟩ := h.disk
  exact ⟨F, h1, h.fr, h3⟩
theorem DB.fr0 {w' : World} (h : DB W b bb bs d wr) (hf : Fr [] wr w') : DB W b bb bs d w' := by
  obtain ⟨F, h1, h2, h3⟩ := h.disk
  exact ⟨⟨F, h1.fr0 hf, h2, h3⟩, h.buf.fr hf (by simp), h.fr.trans hf, h.hb⟩
theorem DB.to {w' : World} {d' : Dm.Dk} {F : List Nat} (h : DB W b bb bs d wr) (h2 : bb ∉ F) (h3 : ∀ g ∈ F, W.heap.size ≤ g) (ht : DskTo wr w' F b d') : DB W b bb bs d' w' := by
  obtain ⟨F', k1, k2, k3⟩ := ht
  refine ⟨⟨F', k1, fun hm => ?_, fun g hg => ?_⟩, h.buf.fr k2 h2, h.fr.trans' k2 (fun g hg => .inr (h3 g hg)), h.hb⟩
  · rcases k3 bb hm with h4 | h4
    · exact h2 h4
    · have := h.buf.lt; omega
  · rcases k3 g hg with h4 | h4
    · exact h3 g h4
    · have := h.fr.size; omega
theorem DB.write {d' : Dm.Dk} {c : Int} (h : DB W b bb bs d wr) (off : Int) (s : List UInt8) (ho : okI off) (hpl : d.pend.length ≤ 100000) (hlf : okI d.left) (hc : Dm.writeCode d off s = c) (hd : Dm.write d off s = d') :
    Calls Try.prog 21 #[.pointer (some ⟨b, 0, none⟩), .int .i64 off, .string ⟨s.toArray⟩] wr fun e w' => e = .returned (.int .i64 c) ∧ DB W b bb bs d' w' ∧ KeepT wr w' := by
  obtain ⟨F, h1, h2, h3⟩ := h.disk
  subst hc hd
  exact (dwrite_any F b d off s wr h1 ho hpl hlf).mono fun _ _ ⟨he, ht⟩ => ⟨he, h.to h2 h3 ht, by
    obtain ⟨_, _, hf, _⟩ := ht
    exact h1.keepT hf⟩
theorem DB.sync {d' : Dm.Dk} {c : Int} (h : DB W b bb bs d wr) (hc : Dm.syncCode d = c) (hd : Dm.sync d = d') :
    Calls Try.prog 23 #[.pointer (some ⟨b, 0, none⟩)] wr fun e w' => e = .returned (.int .i64 c) ∧ DB W b bb bs d' w' ∧ KeepT wr w' := by
  obtain ⟨F, h1, h2, h3⟩ := h.disk
  subst hc hd
  exact (dsync_any F b d wr h1).mono fun _ _ ⟨he, ht⟩ => ⟨he, h.to h2 h3 ht, by
    obtain ⟨_, _, hf, _⟩ := ht
    exact h1.keepT hf⟩
theorem DB.cut {d' : Dm.Dk} {c : Int} (h : DB W b bb bs d wr) (n : Int) (hc : Dm.cutCode d n = c) (hd : Dm.cut d n = d') :
    Calls Try.prog 24 #[.pointer (some ⟨b, 0, none⟩), .int .i64 n] wr fun e w' => e = .returned (.int .i64 c) ∧ DB W b bb bs d' w' ∧ KeepT wr w' := by
  obtain ⟨F, h1, h2, h3⟩ := h.disk
  subst hc hd
  exact (dcut_any F b d n wr h1).mono fun _ _ ⟨he, ht⟩ => ⟨he, h.to h2 h3 ht, by
    obtain ⟨_, _, hf, _⟩ := ht
    exact h1.keepT hf⟩
theorem DB.crash {d' : Dm.Dk} (h : DB W b bb bs d wr) (A : Option Addr) (n kc : Nat) (zs : List Int) (t : Int) (hn : n = zs.length) (hz : zs.length ≤ 100000) (hI : IntsIn wr A zs) (ht : okI t) (hd : Dm.crash d zs t = d') :
    Calls Try.prog 25 #[.pointer (some ⟨b, 0, none⟩), .slice A n kc, .int .i64 t] wr fun e w' => e = .returned (.int .i64 0) ∧ DB W b bb bs d' w' ∧ KeepT wr w' := by
  obtain ⟨F, h1, h2, h3⟩ := h.disk
  subst hd
  exact (dcrash_any F b d A n kc zs t wr h1 hn hz hI ht).mono fun _ _ ⟨he, ht⟩ => ⟨he, h.to h2 h3 ht, by
    obtain ⟨_, _, hf, _⟩ := ht
    exact h1.keepT hf⟩
theorem DB.put {bs' : List UInt8} {n c : Nat} (h : DB W b bb bs d wr) (u : Dm.Wr) (hn : bs.length = n) (hf : u.off + u.s.length ≤ n) (hbig : n ≤ 4194304) (hb : Dm.onto bs u = bs') :
    Calls Try.prog 27 #[.slice (some ⟨bb, 0, none⟩) n c, .int .i64 u.off, .string ⟨u.s.toArray⟩] wr fun e w' => e = .returned (.tuple #[]) ∧ DB W b bb bs' d w' ∧ KeepT wr w' := by
  obtain ⟨F, h1, h2, h3⟩ := h.disk
  subst hb
  exact (put_any bb bs u.s u.off n c wr h.buf hn hf hbig).mono fun _ _ ⟨he, k1, k2⟩ => ⟨he, ⟨⟨F, h1.fr k2 (fun g hg hm => h2 (by
    have : g = bb := by simpa using hm
    subst this
    exact hg)), h2, h3⟩, k1, h.fr.trans' k2 (fun g hg => .inr (by
    have : g = bb := by simpa using hg
    subst this
    exact h.hb)), h.hb⟩, fun g cs t fz hg _ t2 _ => k2.block g (Array.getElem?_eq_some_iff.1 hg).1 (fun hm => by
    have e : g = bb := by simpa using hm
    subst e
    have hb : wr.heap[g]? = some (Obj.cells (Lib.byteCells bs).toArray 5 (0, 0)) := h.buf
    rw [hg] at hb
    injection hb with hb
    injection hb with _ hb _
    exact t2 hb)⟩
/-- 'make([]byte, n)' behind New. -/
theorem DB.made {n : Nat} (h : Mine W wr b d) : DB W b wr.heap.size (List.replicate n 0) d (wr.alloc (.cells (Lib.byteCells (List.replicate n 0)).toArray 5)) := by
  obtain ⟨F, h1, h2, h3⟩ := h
  exact ⟨⟨F, h1.fr0 ((Fr.refl _ _).alloc _), fun hm => Nat.lt_irrefl _ (h1.lt _ hm), h3⟩, Blk.new _ _ _, h2.alloc _, h2.size⟩
end
theorem run_make_bytes (n : Nat) (W : World) (h : n ≤ 4194304) : (Instr.makeSlice 40 (.int .i64 n) (.int .i64 n)).run Try.prog W = .ok (.slice (some ⟨W.heap.size, 0, none⟩) n n) (W.alloc (.cells (Lib.byteCells (List.replicate n 0)).toArray 5)) := by
  have hmk := run_make_row' (P := Try.prog) 40 5 (.int .u8 0) 1 Try.underlying40 infoByte rfl .i64 .i64 n (by omega) (by omega) W
  rw [made_zero] at hmk
  exact hmk
end Go.Proofs.Ytbmakjhfoaadoaa

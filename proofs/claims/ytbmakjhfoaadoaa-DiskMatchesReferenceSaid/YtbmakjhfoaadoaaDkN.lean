/-
  A disk with its footprint: the methods' contracts in one form; the law's helpers (pick, cut, put).
-/
import Derived.Test.YtbmakjhfoaadoaaDkL
namespace Go.Proofs.Ytbmakjhfoaadoaa
open Go.RowKit

/-- At block b lies the disk d; F is the list of the blocks that it owns. -/
def Dsk (w : World) (F : List Nat) (b : Nat) (d : Dm.Dk) : Prop := ∃ gs gv vp, F = b :: gs :: gv :: vp.ownBlock.toList ∧ DiskAt w b gs gv vp d
/-- Behind a call: the disk, its new footprint. -/
def DskTo (w w' : World) (F : List Nat) (b : Nat) (d : Dm.Dk) : Prop := ∃ F', Dsk w' F' b d ∧ Fr F w w' ∧ ∀ g ∈ F', g ∈ F ∨ w.heap.size ≤ g
theorem Dsk.ok {w : World} {F : List Nat} {b : Nat} {d : Dm.Dk} (h : Dsk w F b d) : Dm.Ok d := by
  obtain ⟨gs, gv, vp, _, h⟩ := h
  exact h.ok
theorem Dsk.lt {w : World} {F : List Nat} {b : Nat} {d : Dm.Dk} (h : Dsk w F b d) : ∀ g ∈ F, g < w.heap.size := by
  obtain ⟨gs, gv, vp, rfl, h⟩ := h
  intro g hg
  simp only [List.mem_cons, Option.mem_toList] at hg
  rcases hg with rfl | rfl | rfl | hg
  · exact h.blk.lt
  · exact h.sure.lt
  · exact h.vis.lt
  · exact h.pend.lt hg
theorem Dsk.fr {w w' : World} {F S : List Nat} {b : Nat} {d : Dm.Dk} (h : Dsk w F b d) (hf : Fr S w w') (hs : ∀ g ∈ F, g ∉ S) : Dsk w' F b d := by
  obtain ⟨gs, gv, vp, rfl, h⟩ := h
  exact ⟨gs, gv, vp, rfl, h.blk.fr hf (hs _ (by simp)), h.sure.fr hf (hs _ (by simp)), h.vis.fr hf (hs _ (by simp)), h.pend.fr hf (fun g hg => hs _ (by simp [hg])), h.ne, h.ok⟩
theorem Dsk.fr0 {w w' : World} {F : List Nat} {b : Nat} {d : Dm.Dk} (h : Dsk w F b d) (hf : Fr [] w w') : Dsk w' F b d := h.fr hf (by simp)
theorem dsk_to {w w' : World} {S : List Nat} {b gs gv : Nat} {vp vp' : Value} {d : Dm.Dk} (h : DiskAt w' b gs gv vp' d) (hf : Fr S w w') (hs : ∀ g ∈ S, g ∈ b :: gs :: gv :: vp.ownBlock.toList) (hv : ∀ g, vp'.ownBlock = some g → vp.ownBlock = some g ∨ w.heap.size ≤ g) :
    DskTo w w' (b :: gs :: gv :: vp.ownBlock.toList) b d :=
  ⟨_, ⟨gs, gv, vp', rfl, h⟩, hf.mono (fun g hg => .inl (hs g hg)), fun g hg => by
    simp only [List.mem_cons, Option.mem_toList] at hg ⊢
    rcases hg with hg | hg | hg | hg
    · exact .inl (.inl hg)
    · exact .inl (.inr (.inl hg))
    · exact .inl (.inr (.inr (.inl hg)))
    · rcases hv g hg with h1 | h1
      · exact .inl (.inr (.inr (.inr h1)))
      · exact .inr h1⟩
theorem dnew_any (n : Nat) (w : World) (h1 : 1 ≤ n) (h2 : n ≤ 4194304) : Calls Try.prog 13 #[.int .i64 n] w fun e w' => ∃ b F, e = .returned (.tuple #[.pointer (some ⟨b, 0, none⟩), .int .i64 0]) ∧ Dsk w' F b (Dm.new n) ∧ Fr [] w w' ∧ ∀ g ∈ F, w.heap.size ≤ g :=
  (new_any n w h1 h2).mono fun _ _ ⟨b, gs, gv, he, hd, hf, h3, h4, h5⟩ => ⟨b, _, he, ⟨gs, gv, _, rfl, hd⟩, hf, fun g hg => by
    simp only [Value.ownBlock, Option.toList, List.mem_cons, List.not_mem_nil, or_false] at hg
    rcases hg with rfl | rfl | rfl
    · exact h3
    · exact h4
    · exact h5⟩
theorem dsize_any (F : List Nat) (b : Nat) (d : Dm.Dk) (w : World) (h : Dsk w F b d) : Calls Try.prog 16 #[.pointer (some ⟨b, 0, none⟩)] w fun e w' => e = .returned (.int .i64 d.sure.length) ∧ w = w' := by
  obtain ⟨gs, gv, vp, rfl, h⟩ := h
  exact size_any b gs gv vp d w h
theorem dpending_any (F : List Nat) (b : Nat) (d : Dm.Dk) (w : World) (h : Dsk w F b d) : Calls Try.prog 17 #[.pointer (some ⟨b, 0, none⟩)] w fun e w' => e = .returned (.int .i64 d.pend.length) ∧ w = w' := by
  obtain ⟨gs, gv, vp, rfl, h⟩ := h
  exact pending_any b gs gv vp d w h
theorem dread_any (F : List Nat) (b : Nat) (d : Dm.Dk) (off n : Int) (w : World) (h : Dsk w F b d) (ho : okI off) : Calls Try.prog 14 #[.pointer (some ⟨b, 0, none⟩), .int .i64 off, .int .i64 n] w fun e w' =>
    e = .returned (.tuple #[.string ⟨(Dm.read d off n).1.toArray⟩, .int .i64 (Dm.read d off n).2]) ∧ w = w' := by
  obtain ⟨gs, gv, vp, rfl, h⟩ := h
  exact read_any b gs gv vp d off n w h ho
theorem dwrite_any (F : List Nat) (b : Nat) (d : Dm.Dk) (off : Int) (s : List UInt8) (w : World) (h : Dsk w F b d) (ho : okI off) (hpl : d.pend.length ≤ 100000) (hlf : okI d.left) :
    Calls Try.prog 21 #[.pointer (some ⟨b, 0, none⟩), .int .i64 off, .string ⟨s.toArray⟩] w fun e w' => e = .returned (.int .i64 (Dm.writeCode d off s)) ∧ DskTo w w' F b (Dm.write d off s) := by
  obtain ⟨gs, gv, vp, rfl, h⟩ := h
  refine (write_any b gs gv vp d off s w h ho hpl hlf).mono ?_
  rintro e w' ⟨he, vp', h1, h2, h3⟩
  exact ⟨he, dsk_to h1 h2 (fun g hg => by
    simp only [List.mem_cons] at hg ⊢
    rcases hg with hg | hg | hg
    · exact .inl hg
    · exact .inr (.inr (.inl hg))
    · exact .inr (.inr (.inr hg))) h3⟩
theorem dsync_any (F : List Nat) (b : Nat) (d : Dm.Dk) (w : World) (h : Dsk w F b d) : Calls Try.prog 23 #[.pointer (some ⟨b, 0, none⟩)] w fun e w' => e = .returned (.int .i64 (Dm.syncCode d)) ∧ DskTo w w' F b (Dm.sync d) := by
  obtain ⟨gs, gv, vp, rfl, h⟩ := h
  refine (sync_any b gs gv vp d w h).mono ?_
  rintro e w' ⟨he, vp', h1, h2, h3⟩
  exact ⟨he, dsk_to h1 h2 (fun g hg => by
    simp only [List.mem_cons] at hg ⊢
    rcases hg with hg | hg | hg
    · exact .inl hg
    · exact .inr (.inl hg)
    · exact .inr (.inr (.inr hg))) h3⟩
theorem dcut_any (F : List Nat) (b : Nat) (d : Dm.Dk) (n : Int) (w : World) (h : Dsk w F b d) : Calls Try.prog 24 #[.pointer (some ⟨b, 0, none⟩), .int .i64 n] w fun e w' => e = .returned (.int .i64 (Dm.cutCode d n)) ∧ DskTo w w' F b (Dm.cut d n) := by
  obtain ⟨gs, gv, vp, rfl, h⟩ := h
  refine (cut_any b gs gv vp d n w h).mono ?_
  rintro e w' ⟨he, h1, h2⟩
  exact ⟨he, dsk_to h1 h2 (fun g hg => by
    simp only [List.mem_cons, List.not_mem_nil, or_false] at hg ⊢
    exact .inl hg) (fun g hg => .inl hg)⟩
theorem dcrash_any (F : List Nat) (b : Nat) (d : Dm.Dk) (A : Option Addr) (n kc : Nat) (zs : List Int) (t : Int) (w : World) (h : Dsk w F b d) (hn : n = zs.length) (hz : zs.length ≤ 100000) (hI : IntsIn w A zs) (ht : okI t) :
    Calls Try.prog 25 #[.pointer (some ⟨b, 0, none⟩), .slice A n kc, .int .i64 t] w fun e w' => e = .returned (.int .i64 0) ∧ DskTo w w' F b (Dm.crash d zs t) := by
  obtain ⟨gs, gv, vp, rfl, h⟩ := h
  subst hn
  refine (crash_any b gs gv vp d A kc zs t w h (by omega) hI ht).mono ?_
  rintro e w' ⟨he, vp', h1, h2, h3⟩
  exact ⟨he, dsk_to h1 h2 (fun g hg => hg) h3⟩

/-- 'pick'. -/
def pickI (c n : Int) : Int := (if c < 0 then -(c + 1) else c) % n
theorem pickI_nonneg (c : Int) {n : Int} (h : 1 ≤ n) : 0 ≤ pickI c n := Int.emod_nonneg _ (by omega)
theorem pickI_lt (c : Int) {n : Int} (h : 1 ≤ n) : pickI c n < n := Int.emod_lt_of_pos _ (by omega)
set_option maxRecDepth 100000 in
theorem pick_any (c n : Int) (w : World) (hc : okI c) (h3 : 1 ≤ n) (h4 : n ≤ 1000000000) :
    Calls Try.prog 15 #[.int .i64 c, .int .i64 n] w fun e w' => e = .returned (.int .i64 (pickI c n)) ∧ w = w' := by
  obtain ⟨h1, h2⟩ := okI_bounds hc
  have hn : (n == 0) = false := by simp; omega
  have hn' : ¬ n = 0 := by omega
  by_cases hc : c < 0
  · go_enter Try.func15, Try.ntmps15
    go_wp2
    go_ret
    have e1 : pickI c n = -(c + 1) % n := by unfold pickI; rw [if_pos hc]
    rw [e1]
    refine ⟨?_, rfl⟩
    show Ending.returned (.int .i64 (-((c + 1).tmod n))) = _
    rw [← Int.neg_tmod, Int.tmod_eq_emod_of_nonneg (by omega)]
  · go_enter Try.func15, Try.ntmps15
    go_wp2
    go_ret
    have e1 : pickI c n = c % n := by unfold pickI; rw [if_neg (by omega)]
    rw [e1]
    refine ⟨by simp, rfl⟩
/-- .. as a natural number below n. -/
theorem pick_nat (c : Int) (n : Nat) (w : World) (hc : okI c) (h3 : 1 ≤ n) (h4 : n ≤ 1000000000) :
    Calls Try.prog 15 #[.int .i64 c, .int .i64 n] w fun e w' => ∃ k : Nat, (e = .returned (.int .i64 k) ∧ k < n ∧ (k : Int) = pickI c n) ∧ w = w' :=
  (pick_any c n w hc (by omega) (by omega)).mono fun _ _ ⟨he, hw⟩ => by
    have p1 := pickI_nonneg c (n := n) (by omega)
    have p2 := pickI_lt c (n := n) (by omega)
    exact ⟨(pickI c n).toNat, ⟨by rw [he, Int.toNat_of_nonneg p1], by omega, by omega⟩, hw⟩
theorem str_min (s : List UInt8) (n : Int) : (⟨s.toArray⟩ : ByteArray).extract 0 (min (s.length : Int) n).toNat = ⟨(s.take n.toNat).toArray⟩ := by
  rw [string_take]
  congr 2
  apply List.ext_getElem?
  intro q
  simp only [List.getElem?_take]
  by_cases hq : q < s.length
  · have : q < (min (s.length : Int) n).toNat ↔ q < n.toNat := by omega
    simp only [this]
  · rw [List.getElem?_eq_none (by omega)]
    split <;> split <;> rfl
theorem cutS_any (s : List UInt8) (n : Int) (w : World) (hs : s.length ≤ maxLen) (hn : 0 ≤ n) :
    Calls Try.prog 22 #[.string ⟨s.toArray⟩, .int .i64 n] w fun e w' => e = .returned (.string ⟨(s.take n.toNat).toArray⟩) ∧ w = w' := by
  have hex := str_min s n
  unfold maxLen at hs
  go_enter Try.func22, Try.ntmps22
  go_wp2
  go_ret
  exact ⟨rfl, rfl⟩
theorem onto_step (bs s : List UInt8) (o i : Nat) (hi : i < s.length) (hf : o + s.length ≤ bs.length) : (Lib.byteCells (Dm.onto bs ⟨o, s.take i⟩)).toArray.setIfInBounds (o + i) (.int .u8 (s[i].toNat : Int)) = (Lib.byteCells (Dm.onto bs ⟨o, s.take (i + 1)⟩)).toArray := by
  have e : (Lib.byteCells (Dm.onto bs ⟨o, s.take i⟩)).set (o + i) (.int .u8 (s[i].toNat : Int)) = Lib.byteCells (Dm.onto bs ⟨o, s.take (i + 1)⟩) := by
    unfold Lib.byteCells
    rw [show (Value.int .u8 (s[i].toNat : Int)) = (fun b : UInt8 => Value.int .u8 b.toNat) s[i] from rfl, ← List.map_set]
    congr 1
    unfold Dm.onto
    dsimp only
    apply List.ext_getElem?
    intro q
    simp only [List.getElem?_set, List.getElem?_append, List.length_append, List.length_take, List.getElem?_take, List.getElem?_drop]
    by_cases h1 : q < o
    · repeat (first | rw [if_pos (by omega)] | rw [if_neg (by omega)])
    · by_cases h2 : q < o + i
      · repeat (first | rw [if_pos (by omega)] | rw [if_neg (by omega)])
      · by_cases h3 : q = o + i
        · subst h3
          simp only [List.length_drop, if_true]
          rw [show o + i - min o bs.length = i by omega, List.getElem?_eq_getElem hi]
          repeat (first | rw [if_pos (by omega)] | rw [if_neg (by omega)])
        · repeat (first | rw [if_pos (by omega)] | rw [if_neg (by omega)])
          congr 1
          omega
  rw [← e]
  simp
set_option maxRecDepth 100000 in
set_option maxHeartbeats 1000000 in
theorem put_any (g : Nat) (bs s : List UInt8) (o N c : Nat) (w : World) (hB : Blk w g 5 (Lib.byteCells bs).toArray) (hN : bs.length = N) (hf : o + s.length ≤ N) (hbig : N ≤ 4194304) :
    Calls Try.prog 27 #[.slice (some ⟨g, 0, none⟩) N c, .int .i64 o, .string ⟨s.toArray⟩] w fun e w' => e = .returned (.tuple #[]) ∧ Blk w' g 5 (Lib.byteCells (Dm.onto bs ⟨o, s⟩)).toArray ∧ Fr [g] w w' := by
  have hs63 : s.length ≤ 9223372036854775807 := by omega
  have h0 : Blk w g 5 (Lib.byteCells (Dm.onto bs ⟨o, s.take 0⟩)).toArray := by
    have e : Dm.onto bs ⟨o, s.take 0⟩ = bs := by simp [Dm.onto]
    rw [e]
    exact hB
  have HN := Lib.hid hN
  clear hB hN
  go_enter Try.func27, Try.ntmps27
  go_wp2_with fail
  go_loopw [6] (fun i wr => ∃ k : Nat, k ≤ s.length ∧ i = .int .i64 k ∧ Blk wr g 5 (Lib.byteCells (Dm.onto bs ⟨o, s.take k⟩)).toArray ∧ Fr [g] w wr) (fun i _ => s.length - (intOf i).toNat)
  case atStart => exact ⟨0, Nat.zero_le _, rfl, h0, Fr.refl _ _⟩
  case round =>
    clear h0
    obtain ⟨k, hk, rfl, hb, hf1⟩ := hrel
    by_cases hlt : k < s.length
    · have hidx : o + k < N := by omega
      have hst := onto_step bs s o k hlt (by rw [HN.out]; exact hf)
      have hb2 := hb.set_ (o + k) (.int .u8 (s[k].toNat : Int))
      rw [hst] at hb2
      have HB2 := Lib.hid hb2
      have HF2 := Lib.hid (hf1.setCell (p := ⟨g, o + k, none⟩) (.inl (by simp)) (.int .u8 (s[k].toNat : Int)))
      have z := hb.frozen (o + k)
      have hgl := hb.lt
      have c0 : ∃ v, wr.cell? ⟨g, o + k, none⟩ = some v := by
        refine ⟨_, (hb.cell (o + k)).trans (Array.getElem?_eq_getElem ?_)⟩
        have h9 := Dm.onto_len (b := bs) (w := ⟨o, s.take k⟩) (by simp only [List.length_take]; rw [HN.out]; omega)
        simp only [List.size_toArray, Lib.byteCells_length]
        rw [h9, HN.out]
        omega
      obtain ⟨v0, c0⟩ := c0
      clear hb hst hb2 hf1
      go_wp2_with fail
      go_roundw
      case rel => exact ⟨k + 1, by omega, by go_num, HB2.out, HF2.out⟩
      case measure => simp [intOf]; omega
    · obtain rfl : k = s.length := by omega
      rw [List.take_length] at hb
      have HB := Lib.hid hb
      have HF := Lib.hid hf1
      clear hb hf1
      go_wp2_with fail
      go_end0
      exact ⟨rfl, HB.out, HF.out⟩
end Go.Proofs.Ytbmakjhfoaadoaa

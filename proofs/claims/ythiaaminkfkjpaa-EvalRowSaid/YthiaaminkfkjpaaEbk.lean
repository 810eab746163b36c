/-
  A row that is added to a range: plain facts.
-/
import Derived.Test.YthiaaminkfkjpaaEbj
import Derived.Test.YthiaaminkfkjpaaEbi
namespace Go.Proofs.Ythiaaminkfkjpaa
open Go.RowKit

/-- What the law's lists leave: small keys, few rows, the position. -/
theorem CgOk.left {l : List Rec} (h : CgOk l) : ∀ i, i ≤ l.length → (∀ e ∈ (Lg.run (l.take i)).M, 1 ≤ e.2.k ∧ e.2.k ≤ 12) ∧ (Lg.run (l.take i)).M.length ≤ i ∧ (Lg.run (l.take i)).pos = i := by
  intro i
  induction i with
  | zero => intro _; rw [List.take_zero, Lg.run_nil]; exact ⟨by simp [Sm.new], by simp [Sm.new], rfl⟩
  | succ i ih =>
    intro hi
    have hl : i < l.length := by omega
    obtain ⟨hk, hn, hp⟩ := ih (by omega)
    obtain ⟨hrp, hap⟩ := Lg.fits_pos (h.fits i hl)
    obtain ⟨c, hc, hcc⟩ := h.one _ (List.getElem_mem hl)
    rw [Lg.run_succ l hl, hap, hc]
    refine ⟨fun e he => ?_, ?_, ?_⟩
    · rcases Sm.mem_put1 (he : e ∈ Sm.put1 (Lg.run (l.take i)).M c) with h1 | ⟨_, h1⟩
      · exact hk e h1
      · rw [h1]; exact hcc.k
    · have := (Sm.fold_len [c] (Lg.run (l.take i)).M (Lg.run_ok _).nd).2
      simp only [List.length_singleton] at this
      show ([c].foldl Sm.put1 (Lg.run (l.take i)).M).length ≤ i + 1
      omega
    · show l[i].p = _
      rw [hrp, hp]
      simp

/-- Records in memory as the source of an append. -/
theorem reads_of_recs {w : World} {A : Option Addr} {us : List WRec} (h : AtL WRec.cells 2 w A us) : Reads w w.heap.size 2 A us.length (us.flatMap WRec.cells) := by
  refine ⟨flat_len WRec.len us, fun hl => ?_⟩
  obtain ⟨b, off, e, hb, hc⟩ := h hl
  refine ⟨_, e, hb, fun q u hu => ?_⟩
  have hq : q < us.length * 2 := by
    rw [← flat_len WRec.len us]
    exact (List.getElem?_eq_some_iff.1 hu).1
  have h1 := hc (q / 2) (by omega) (q % 2) (by omega)
  have h2 := flat_get WRec.len us (q / 2) (by omega) (q % 2) (by omega)
  rw [show q / 2 * 2 + q % 2 = q by omega] at h2
  have hadd : (⟨b, off, none⟩ : Addr).add q = ⟨b, off + q, none⟩ := by unfold Addr.add; split <;> simp_all
  rw [hadd, show off + q = off + q / 2 * 2 + q % 2 by omega, h1, ← h2, hu]
theorem own_emptyG {X : Type} {enc : X → List Value} {e size : Nat} {w : World} {g : Nat} (h : g = w.heap.size) : OwnL e size enc (w.alloc (.cells #[] e)) (.slice (some ⟨g, 0, none⟩) 0 0) ([] : List X) := by
  subst h
  exact ⟨by simp, .inr ⟨_, 0, #[], rfl, Nat.zero_le _, heap_alloc_new w _, Nat.le_refl _, Nat.zero_le _, by simp, by simp⟩⟩
theorem OwnL.allocG {X : Type} {enc : X → List Value} {e size : Nat} {w : World} {v : Value} {L : List X} (h : OwnL e size enc w v L) (o : Obj) : OwnL e size enc (w.alloc o) v L := h.fr ((Fr.refl [] w).alloc o) (by simp)
theorem OwnL.drewG {X : Type} {enc : X → List Value} {e size : Nat} {w : World} {v : Value} {L : List X} (h : OwnL e size enc w v L) : OwnL e size enc w.drew v L := h.fr (Fr.refl [] w).drew (by simp)
theorem Blk.newG {w : World} {g t : Nat} {cs : Array Value} (h : g = w.heap.size) : Blk (w.alloc (.cells cs t)) g t cs := by
  subst h
  exact Blk.new w t cs
/-- The first append, from where the statement began (wc). -/
structure Ap1 (wc W w5 : World) (e0 : Nat) (v5 : Value) : Prop where
  fr : Fr [] wc w5
  blk : ∀ g t cs, g ≠ e0 → Blk W g t cs → Blk w5 g t cs
  nb : ∀ g, v5.ownBlock = some g → g = e0 ∨ g = W.heap.size
  sz : W.heap.size ≤ w5.heap.size
theorem ap1 {wc W w5 : World} {e0 n c : Nat} {v5 : Value} (hf : Fr [] wc W) (he : wc.heap.size ≤ e0) (hg : W.grownBy w5 (Value.slice (some ⟨e0, 0, none⟩) n c).ownBlock) (hat : v5.ownBlock = (Value.slice (some ⟨e0, 0, none⟩) n c).ownBlock ∨ v5.ownBlock = some W.heap.size) : Ap1 wc W w5 e0 v5 :=
  ⟨hf.grown hg (fun g h => .inr (by have h' : some e0 = some g := h; injection h' with h'; omega)), fun g t cs hne hb => hb.grown hg (fun h => hne (by have h' : some g = some e0 := h; injection h')), fun g h => by
    rcases hat with h1 | h1
    · rw [h1] at h
      have h' : some e0 = some g := h
      injection h' with h'
      exact .inl h'.symm
    · rw [h1] at h
      injection h with h
      exact .inr h.symm, hg.size⟩
theorem reads_rec1 {w : World} {g t : Nat} {arr : Array Value} {u : WRec} (hB : Blk w g t arr) (h : u.cells = arr.toList) : Reads w w.heap.size 2 (some ⟨g, 0, none⟩) 1 ([u].flatMap WRec.cells) :=
  reads_of_recs (us := [u]) (AtL.of_blk WRec.len hB (by simpa using h))
/-- The second append: the list with the new record. -/
theorem ap2 {wc W w6 : World} {v5 v6 : Value} {us : List WRec} {u : WRec} {gC : Nat} {out : List Rec} {arr : Array Value} (hus : us.map (·.r) = out) (hh : ∀ x ∈ us, HoldsC wc x.A x.r.cs ∧ x.r.cs.length ≤ 8) (hown : OwnL 38 2 WRec.cells w6 v6 (us ++ [u]))
    (hu : u.A = some ⟨gC, 0, none⟩) (hul : u.r.cs.length ≤ 8) (hb : Blk W gC 35 arr) (hcs : u.r.cs.flatMap Chg.cells = arr.toList) (hf : Fr [] wc W) (hn : ∀ g, v5.ownBlock = some g → wc.heap.size ≤ g ∧ g ≠ gC) (hg : W.grownBy w6 v5.ownBlock) :
    ∃ A m c, v6 = .slice A m c ∧ m = out.length + 1 ∧ m ≤ c ∧ RecsAt w6 A (out ++ [u.r]) ∧ Fr [] wc w6 := by
  have hf6 : Fr [] wc w6 := hf.grown hg (fun g e => .inr (hn g e).1)
  obtain ⟨A, m, c, hv⟩ : ∃ A n c, v6 = .slice A n c := (match hown.val with | ⟨_, _, hv⟩ => ⟨_, _, _, hv⟩)
  subst hv
  have hOR : OwnR w6 (.slice A m c) (out ++ [u.r]) := ⟨us ++ [u], hown, by simp [hus], fun x hx => by
    rcases List.mem_append.1 hx with h1 | h1
    · exact ⟨(hh x h1).1.fr hf6 NoC.nil, (hh x h1).2⟩
    · rw [List.mem_singleton] at h1
      subst h1
      exact ⟨holds_blk hu (hb.grown hg (fun h => (hn gC h.symm).2 rfl)) hcs, hul⟩⟩
  obtain ⟨hr, hm⟩ := hOR.recs
  have hcap : m ≤ c := by
    rw [hm] at hOR ⊢
    exact hOR.cap
  exact ⟨A, m, c, rfl, by rw [hm]; simp, hcap, hr, hf6⟩

namespace Em
/-- The change that adds a row. -/
abbrev addC (t k a b c : Int) : Chg := ⟨t, k, false, 0, 0, 0, true, a, b, c⟩
theorem add_fits {l : List Rec} (h : CgOk l) (hl : l.length ≤ 40) {t a b c : Int} (ht : 0 ≤ t ∧ t ≤ 3) (ha : 0 ≤ a ∧ a ≤ 19) (hb : 0 ≤ b ∧ b ≤ 13) (hc : -10 ≤ c ∧ c ≤ 29) : Sm.fits (Lg.run l) ⟨l.length + 1, [addC t 500 a b c]⟩ = true ∧ mget (Lg.run l).M (idOf t 500) = none ∧ (Sm.apply (Lg.run l) ⟨l.length + 1, [addC t 500 a b c]⟩).M = mput (Lg.run l).M (idOf t 500) ⟨t, 500, a, b, c⟩ := by
  obtain ⟨hk, hn, hp⟩ := h.left l.length (Nat.le_refl _)
  rw [List.take_length] at hk hn hp
  have hg : mget (Lg.run l).M (idOf t 500) = none := by
    rw [mget_none]
    intro e he hx
    have h1 := (Lg.run_ok l).key e he
    rw [hx, idOf_val (okI_mk (by omega) (by omega)) (okI_mk (by omega) (by omega))] at h1
    have h2 := hk e he
    have h3 := congrArg Prod.snd h1
    dsimp only at h3
    omega
  have hf : Sm.fits (Lg.run l) ⟨l.length + 1, [addC t 500 a b c]⟩ = true := by
    have hm : Sm.meets (Lg.run l).M (addC t 500 a b c) = true := by
      unfold Sm.meets
      rw [hg]
      rfl
    unfold Sm.fits
    rw [hp]
    simp only [Sm.fitsGo, hm, Sm.grow, Rw.valid, Rw.inI, Rw.chgs, Rw.chg, Rw.turns, Rw.sound, Rw.differs, Rw.behind, Rw.row, List.length_singleton]
    simp
    omega
  refine ⟨hf, hg, ?_⟩
  rw [(Lg.fits_pos hf).2]
  rfl
/-- The new row stands at one place of the scan. -/
theorem scan_add {s s' : Sm.Sta} (ho : Sm.Ok s) (_ho' : Sm.Ok s') {x : IdK} {r : RowV} {q : Qry} (hg : mget s.M x = none) (hM : s'.M = mput s.M x r) (hr : inRng q.table q.column q.low q.high r = true) (hno : ∀ e ∈ s.M, e.2 ≠ r) :
    ∃ A B, scan s' q = A ++ r :: B ∧ scan s q = A ++ B ∧ r ∉ A ∧ r ∉ B := by
  have hp := sel_picked s' q.column (inRng q.table q.column q.low q.high)
  have hq := sel_picked s q.column (inRng q.table q.column q.low q.high)
  have hfl : ((s'.M.map (·.2)).filter (inRng q.table q.column q.low q.high)) = r :: ((s.M.map (·.2)).filter (inRng q.table q.column q.low q.high)) := by
    rw [hM]
    unfold mput
    rw [mdel_none hg, List.map_cons, List.filter_cons, if_pos hr]
  have hpm := hp.perm
  rw [hfl] at hpm
  obtain ⟨A, B, hAB⟩ := List.append_of_mem (hpm.mem_iff.2 List.mem_cons_self)
  have hAB' : scan s' q = A ++ r :: B := hAB
  have hsrt := hp.srt
  rw [hAB] at hpm hsrt
  have hp2 : (A ++ B).Perm ((s.M.map (·.2)).filter (inRng q.table q.column q.low q.high)) := (List.perm_middle.symm.trans hpm).cons_inv
  have hpk : Picked s q.column (inRng q.table q.column q.low q.high) (A ++ B) := ⟨hp2, hsrt.sublist (List.Sublist.append_left (List.sublist_cons_self r B) A)⟩
  have hnm : r ∉ A ++ B := fun hm => by
    obtain ⟨e, he, h1, _⟩ := hpk.mem hm
    exact hno e he h1
  rw [List.mem_append, not_or] at hnm
  exact ⟨A, B, hAB', hq.uniq hpk ho (fun r h => inRng_t r h), hnm.1, hnm.2⟩
end Em
end Go.Proofs.Ythiaaminkfkjpaa

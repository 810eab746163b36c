/-
  MatchMatchesReference: an index beside its reference.
-/
import Derived.Test.YtciaallekkdnhaaGreatMuY
import Derived.Test.YtciaallekkdnhaaGreatMuZ
import Derived.Test.YtciaallekkdnhaaGreatMuS
namespace Go.Proofs.YtciaallekkdnhaaGreat
open Go.RowKit

structure MzAt (w wr : World) (b m bx gr : Nat) (M1 M2 : Mm.Ix) (v : Value) (R : Rx.Rl) (rc : Array Value) : Prop where
  ix : IxAt wr b m M1 [b, m]
  rx : RxAt wr bx v M2 R
  raw : Blk wr gr 26 rc
  fr : Fr [] w wr
  new : w.heap.size ≤ b ∧ w.heap.size ≤ m ∧ w.heap.size ≤ bx
section
variable {w wr w' : World} {b m bx gr : Nat} {M M1 M2 : Mm.Ix} {v : Value} {R : Rx.Rl} {rc : Array Value} {gq : Nat} {q : Qry}
theorem MzAt.fr0 (h : MzAt w wr b m bx gr M1 M2 v R rc) (hf : Fr [] wr w') : MzAt w w' b m bx gr M1 M2 v R rc := ⟨h.ix.fr0 hf, h.rx.fr0 hf, h.raw.fr hf (by simp), h.fr.trans hf, h.new⟩
theorem MzAt.ne (h : MzAt w wr b m bx gr M1 M2 v R rc) : bx ∉ [b, m] ∧ gr ∉ [b, m] ∧ gr ≠ bx := by
  obtain ⟨lp, hb, -⟩ := h.ix.blk
  have e1 : bx ≠ b := Blk.ne h.rx.blk hb (by decide)
  have e2 : m ≠ bx := h.ix.map.ne h.rx.blk
  have e3 : gr ≠ b := Blk.ne h.raw hb (by decide)
  have e4 : m ≠ gr := h.ix.map.ne h.raw
  exact ⟨by simp [e1, Ne.symm e2], by simp [e3, Ne.symm e4], Blk.ne h.raw h.rx.blk (by decide)⟩
theorem MzAt.neq (h : MzAt w wr b m bx gr M1 M2 v R rc) (hq : QAt wr gq q) : gq ∉ [b, m] ∧ gq ≠ bx := by
  obtain ⟨lp, hb, -⟩ := h.ix.blk
  have e1 : gq ≠ b := Blk.ne hq hb (by decide)
  have e2 : m ≠ gq := h.ix.map.ne hq
  exact ⟨by simp [e1, Ne.symm e2], Blk.ne hq h.rx.blk (by decide)⟩
/-- The index has been turned. -/
theorem MzAt.one (h : MzAt w wr b m bx gr M1 M2 v R rc) (hi : IxAt w' b m M [b, m]) (hf : Fr [b, m] wr w') : MzAt w w' b m bx gr M M2 v R rc := by
  obtain ⟨n1, n2, -⟩ := h.ne
  refine ⟨hi, ⟨h.rx.blk.fr hf n1, h.rx.row.fr hf (fun g hg => ?_), h.rx.sim, h.rx.len⟩, h.raw.fr hf n2, h.fr.trans' hf (fun x hx => .inr ?_), h.new⟩
  · obtain ⟨e1, e2⟩ := h.ix.row_ne h.rx.row (by decide) g hg
    simp [e1, e2]
  · have := h.new
    simp only [List.mem_cons, List.not_mem_nil, or_false] at hx
    rcases hx with rfl | rfl <;> omega
/-- Its reference has been turned. -/
theorem MzAt.two (h : MzAt w wr b m bx gr M1 M2 v R rc) {v' : Value} {R' : Rx.Rl} (hi : RxAt w' bx v' M R') (hf : Fr [bx] wr w') : MzAt w w' b m bx gr M1 M v' R' rc := by
  obtain ⟨n1, n2, n3⟩ := h.ne
  refine ⟨h.ix.fr hf (fun x hx e => n1 (by rw [List.mem_singleton] at e; rwa [← e])), hi, h.raw.fr hf (by simpa using n3), h.fr.trans' hf (fun x hx => .inr ?_), h.new⟩
  obtain rfl : x = bx := by simpa using hx
  exact h.new.2.2
/-- A box of a query is written. -/
theorem MzAt.box (h : MzAt w wr b m bx gr M1 M2 v R rc) (hq : QAt wr gq q) (hf : Fr [gq] wr w') (hn : w.heap.size ≤ gq) : MzAt w w' b m bx gr M1 M2 v R rc := by
  obtain ⟨n1, n2⟩ := h.neq hq
  have n3 : gr ≠ gq := Blk.ne h.raw hq (by decide)
  refine ⟨h.ix.fr hf (fun x hx e => n1 (by rw [List.mem_singleton] at e; rwa [← e])), ⟨h.rx.blk.fr hf (by simpa using Ne.symm n2), h.rx.row.fr hf (fun g hg => by simpa using h.rx.row.ne hq (by decide) hg), h.rx.sim, h.rx.len⟩, h.raw.fr hf (by simpa using n3), h.fr.trans' hf (fun x hx => .inr ?_), h.new⟩
  obtain rfl : x = gq := by simpa using hx
  exact hn
theorem MzAt.add (h : MzAt w wr b m bx gr M1 M2 v R rc) (id : Int) (hid : okI id) (q : Qry) : Calls Tryz.prog 17 #[.pointer (some ⟨b, 0, none⟩), .int .i64 id, q.val] wr fun e w' => e = .returned (.int .i64 (Mm.code M1 id q)) ∧ MzAt w w' b m bx gr (Mm.add M1 id q) M2 v R rc ∧ Fr [b, m] wr w' := by
  refine (madd_any id hid q wr h.ix).mono ?_
  rintro e w' ⟨rfl, hi, hf⟩
  exact ⟨rfl, h.one hi hf, hf⟩
theorem MzAt.remove (h : MzAt w wr b m bx gr M1 M2 v R rc) (id : Int) (hid : okI id) : Calls Tryz.prog 15 #[.pointer (some ⟨b, 0, none⟩), .int .i64 id] wr fun e w' => e = .returned (.bool (mget M1 id).isSome) ∧ MzAt w w' b m bx gr (mdel M1 id) M2 v R rc ∧ Fr [b, m] wr w' := by
  refine (mremove_any id hid wr h.ix).mono ?_
  rintro e w' ⟨rfl, hi, hf⟩
  exact ⟨rfl, h.one hi hf, hf⟩
theorem MzAt.radd (h : MzAt w wr b m bx gr M1 M2 v R rc) (id : Int) (q : Qry) : Calls Tryz.prog 18 #[.pointer (some ⟨bx, 0, none⟩), .int .i64 id, q.val] wr fun e w' => ∃ v' R', e = .returned (.int .i64 (Mm.code M2 id q)) ∧ MzAt w w' b m bx gr M1 (Mm.add M2 id q) v' R' rc ∧ Fr [bx] wr w' := by
  refine (rxadd_any bx v M2 R id q wr h.rx).mono ?_
  rintro e w' ⟨v', R', rfl, hi, hf⟩
  exact ⟨v', R', rfl, h.two hi hf, hf⟩
theorem MzAt.rremove (h : MzAt w wr b m bx gr M1 M2 v R rc) (id : Int) : Calls Tryz.prog 16 #[.pointer (some ⟨bx, 0, none⟩), .int .i64 id] wr fun e w' => ∃ v' R', e = .returned (.bool (mget M2 id).isSome) ∧ MzAt w w' b m bx gr M1 (mdel M2 id) v' R' rc ∧ Fr [bx] wr w' := by
  refine (rxremove_any bx v M2 R id wr h.rx).mono ?_
  rintro e w' ⟨v', R', rfl, hi, hf⟩
  exact ⟨v', R', rfl, h.two hi hf, hf⟩
end
set_option maxRecDepth 100000 in
set_option maxHeartbeats 4000000 in
theorem mlog_own (A : Option Addr) (n cap : Nat) (w : World) (hn : n ≤ cap) (hcap : cap ≤ maxLen) (hx : n = 0 ∨ ∃ bx ox, A = some ⟨bx, ox, none⟩ ∧ SixAt w bx ox n) :
    Calls Tryz.prog 20 #[.slice A n cap] w fun e w' => ∃ (A2 : Option Addr) (n2 c2 : Nat) (out : List Rec), e = .returned (.slice A2 n2 c2) ∧ OwnR w' (.slice A2 n2 c2) out ∧ Lg.Ok out ∧ out.length ≤ 25 ∧ Fr [] w w' ∧ n2 = out.length ∧ ∀ g, (Value.slice A2 n2 c2).ownBlock = some g → w.heap.size ≤ g := by
  have hm : (2 : Nat) ^ 47 ≤ maxLen := by decide
  have HL := Lib.hid (fun (m : Nat) (hm : m ≤ 25) (h : m ≤ n) => (log_any A m cap w (by omega) (by
    rcases hx with h0 | ⟨bx, ox, h1, h2⟩
    · exact .inl (by omega)
    · exact .inr ⟨bx, ox, h1, h2.le h⟩)))
  clear hx
  have hb : cap < 9223372036854775808 := by simp only [maxLen] at hcap; omega
  have HV : Hid (∀ (w' : World) (vo : Value) (out : List Rec), OwnR w' vo out → ∃ A2 n2 c2, vo = .slice A2 n2 c2 ∧ n2 = out.length) := Lib.hid (fun w' vo out h => by
    obtain ⟨us, hus, -⟩ := id h
    obtain ⟨A2, cap2, hv⟩ := hus.val
    subst hv
    exact ⟨_, _, _, rfl, h.recs.2⟩)
  go_enter Tryz.func20, Tryz.ntmps20
  go_wp2_with fail
  obtain ⟨mN, hmN⟩ : ∃ m : Nat, (min (n : Int) 25).toNat = m := ⟨_, rfl⟩
  have hm1 : mN ≤ 25 ∧ mN ≤ n := by omega
  rw [hmN]
  refine (HL.out mN hm1.1 hm1.2).mono ?_
  rintro e w1 ⟨vo, out, rfl, h1, h2, h3, h4, h5⟩
  clear hmN
  go_wp2_with fail
  go_ret
  obtain ⟨A2, n2, c2, rfl, hn2⟩ := HV.out _ _ _ h1
  exact ⟨_, _, _, out, rfl, h1, h2, by omega, h4, hn2, h5⟩
theorem lgok_all {l : List Rec} (h : Lg.Ok l) : ∀ x ∈ l, ∀ c ∈ x.cs, okI c.t ∧ ∀ r ∈ Mm.rows c, ∀ k, okI (r.value k) := by
  intro x hx
  obtain ⟨i, hi, rfl⟩ := List.mem_iff_getElem.1 hx
  exact h.okI hi
/-- Records in memory, their changes in whatever memory that is not block b. -/
def RecF (w : World) (b : Nat) (A2 : Option Addr) (n2 : Nat) : Prop := ∀ i, i < n2 → ∃ bb off z A N cap cs, A2 = some ⟨bb, off, none⟩ ∧ (bb < w.heap.size ∧ bb ≠ b) ∧ w.cell? ⟨bb, off + i * 2, none⟩ = some (.int .i64 z) ∧ w.cell? ⟨bb, off + i * 2 + 1, none⟩ = some (.slice A N cap) ∧ N = cs.length ∧ N ≤ 8 ∧ FarC w A cs [b] ∧ ∀ c ∈ cs, okI c.t ∧ ∀ r ∈ Mm.rows c, ∀ k, okI (r.value k)
theorem RecF.fr {w w' : World} {b n2 : Nat} {A2 : Option Addr} {S : List Nat} (h : RecF w b A2 n2) (hf : Fr S w w') (hs : ∀ x ∈ S, x = b) : RecF w' b A2 n2 := by
  intro i hi
  obtain ⟨bb, off, z, A, N, cap, cs, h1, ⟨h2, h3⟩, h4, h5, h6, h7, h8, h9⟩ := h i hi
  have hn : bb ∉ S := fun hm => h3 (hs _ hm)
  exact ⟨bb, off, z, A, N, cap, cs, h1, ⟨Nat.lt_of_lt_of_le h2 hf.size, h3⟩, (hf.cell (p := ⟨bb, off + i * 2, none⟩) h2 hn).trans h4, (hf.cell (p := ⟨bb, off + i * 2 + 1, none⟩) h2 hn).trans h5, h6, h7, h8.fr hf (fun x hx => by rw [hs x hx]; simp), h9⟩
theorem noC_own {X : Type} {e size : Nat} {enc : X → List Value} {w : World} {v : Value} {L : List X} (h : OwnL e size enc w v L) (he : e ≠ 59) : NoC w v.ownBlock.toList := by
  intro s hs arr fz hb
  have hs' : v.ownBlock = some s := by simpa using hs
  rcases h.2 with ⟨rfl, -⟩ | ⟨g, cap, cur, rfl, _, hh, _⟩
  · simp [Value.ownBlock] at hs'
  · simp [Value.ownBlock] at hs'
    subst hs'
    rw [hh] at hb
    injection hb with hb
    injection hb with _ hb _
    exact he hb
/-- A log and one record more. -/
theorem RecF.joined {w w6 w7 : World} {b m : Nat} {M : Mm.Ix} {D : List Nat} {v v7 : Value} {out : List Rec} {us : List WRec} {u : WRec} (hu : us.map (·.r) = out) (h0 : OwnL 26 2 WRec.cells w6 v us) (h1 : ∀ x ∈ us, HoldsC w6 x.A x.r.cs ∧ x.r.cs.length ≤ 8)
    (ho : OwnL 26 2 WRec.cells w7 v7 (us ++ [u])) (hg : w6.grownBy w7 v.ownBlock) (hix : IxAt w7 b m M D) (hc : ChgsAt w u.A u.r.cs) (hw : Fr [] w w7) (hb : w.heap.size ≤ b) (h3 : u.r.cs.length ≤ 8)
    (h4 : ∀ x ∈ out, ∀ c ∈ x.cs, okI c.t ∧ ∀ r ∈ Mm.rows c, ∀ k, okI (r.value k)) (h5 : ∀ c ∈ u.r.cs, okI c.t ∧ ∀ r ∈ Mm.rows c, ∀ k, okI (r.value k)) : ∃ A2 n2 c2, v7 = .slice A2 n2 c2 ∧ n2 = out.length + 1 ∧ RecF w7 b A2 n2 := by
  obtain ⟨A2, c2, hv⟩ := ho.val
  subst hv
  have hat := (ho.at1 WRec.len).1
  obtain ⟨lp, hbk, -⟩ := hix.blk
  have hf : Fr v.ownBlock.toList w6 w7 := (Fr.refl _ w6).grown hg (fun g h => .inl (by rw [h]; simp))
  have hl : us.length = out.length := by rw [← hu, List.length_map]
  refine ⟨A2, _, c2, rfl, by rw [List.length_append, hl]; rfl, fun i hi => ?_⟩
  obtain ⟨bb, off, hA, hbb, hcell⟩ := hat (by omega)
  subst hA
  have hne : bb ≠ b := ho.ne hbk (by decide) (by simp [Value.ownBlock])
  have hx := List.getElem_mem hi
  have e0 := hcell i hi 0 (by decide)
  have e1 := hcell i hi 1 (by decide)
  have key : FarC w7 (us ++ [u])[i].A (us ++ [u])[i].r.cs [b] ∧ (us ++ [u])[i].r.cs.length ≤ 8 ∧ ∀ c ∈ (us ++ [u])[i].r.cs, okI c.t ∧ ∀ r ∈ Mm.rows c, ∀ k, okI (r.value k) := by
    rcases List.mem_append.1 hx with hm | hm
    · obtain ⟨k1, k2⟩ := h1 _ hm
      have k3 := k1.fr hf (noC_own h0 (by decide))
      refine ⟨⟨k3.1, fun hl ad e hmm => ?_⟩, k2, h4 _ (by rw [← hu]; exact List.mem_map.2 ⟨_, hm, rfl⟩)⟩
      obtain ⟨arr, fz, h6⟩ := k3.2 hl ad e
      have e2 : ad.block = b := by simpa using hmm
      rw [e2] at h6
      exact noC_blk hbk (by decide) arr fz h6
    · have e2 : (us ++ [u])[i] = u := by simpa using hm
      rw [e2]
      refine ⟨⟨ChgsAt.fr hc hw (by simp), fun hl ad e hmm => ?_⟩, h3, h5⟩
      obtain ⟨b', o', e', hlt, -⟩ := hc hl
      rw [e'] at e
      injection e with e
      subst e
      have e3 : b' = b := by simpa using hmm
      omega
  exact ⟨bb, off, _, _, _, _, _, rfl, ⟨hbb, hne⟩, e0, e1, rfl, key.2.1, key.1, key.2.2⟩
end Go.Proofs.YtciaallekkdnhaaGreat

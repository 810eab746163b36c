/-
  Law 08: the index of queries that integers determine; the log.
-/
import Derived.Test.YtciaallekkdnhaaGreatMtW
import Derived.Test.YtciaallekkdnhaaGreatJk
import Derived.Test.YtciaallekkdnhaaGreatJx
import Derived.Test.YtciaallekkdnhaaGreatJn
import Derived.Test.YtciaallekkdnhaaGreatJl
namespace Go.Proofs.YtciaallekkdnhaaGreat
open Go.RowKit

def encQ (q : Qry) : List Value := [.int .i64 q.kind, .int .i64 q.table, .int .i64 q.column, .int .i64 q.low, .int .i64 q.high, .int .i64 q.by_, .int .i64 q.other]
theorem encQ_len (q : Qry) : (encQ q).length = 7 := rfl
theorem encQ_one (q : Qry) : ∀ u ∈ encQ q, u.oneCell' = true := by
  intro u hu
  simp only [encQ, List.mem_cons, List.not_mem_nil, or_false] at hu
  rcases hu with rfl | rfl | rfl | rfl | rfl | rfl | rfl <;> rfl
theorem etQ : ∃ i z, ET Tryz.prog 53 35 7 56 i z := by
  have h : (Tryz.prog.info? 35).map (fun i => (i.zero, i.size, i.bytes)) = some (some (.agg #[.int .i64 0, .int .i64 0, .int .i64 0, .int .i64 0, .int .i64 0, .int .i64 0, .int .i64 0]), 7, 56) := by kernel_rfl
  obtain ⟨i0, hi, hz0, hz1, hz2⟩ := info_parts h
  exact ⟨i0, _, Tryz.underlying53, hi, hz0, hz1, hz2, rfl, by decide⟩
/-- While the index is filled. -/
structure InIx (w wr : World) (b m : Nat) (v : Value) (M : Mm.Ix) (qs : List Qry) : Prop where
  ix : IxAt wr b m M [b, m]
  is : Mm.Ixq M qs
  ok : ∀ q ∈ qs, QrOk q
  row : OwnL 35 7 encQ wr v qs
  fr : Fr [] w wr
  new : w.heap.size ≤ b ∧ w.heap.size ≤ m
  own : ∀ g, v.ownBlock = some g → w.heap.size ≤ g
section
variable {w wr w' : World} {b m : Nat} {v : Value} {M : Mm.Ix} {qs : List Qry}
theorem InIx.fr0 (h : InIx w wr b m v M qs) (hf : Fr [] wr w') : InIx w w' b m v M qs :=
  ⟨h.ix.fr0 hf, h.is, h.ok, h.row.fr hf (by simp), h.fr.trans hf, h.new, h.own⟩
theorem IxAt.row_ne {X : Type} {e size : Nat} {enc : X → List Value} {D : List Nat} {L : List X} (h : IxAt w b m M D) (hr : OwnL e size enc w v L) (he : e ≠ 82) : ∀ g, v.ownBlock = some g → g ≠ b ∧ g ≠ m := by
  intro g hg
  obtain ⟨lp, hb, -⟩ := h.blk
  refine ⟨hr.ne hb he hg, fun e => ?_⟩
  subst e
  rcases hr.2 with ⟨rfl, -⟩ | ⟨g', cap, cur, rfl, _, hh, _⟩
  · simp [Value.ownBlock] at hg
  · simp [Value.ownBlock] at hg
    subst hg
    exact h.map.ne hh rfl
theorem InIx.add (h : InIx w wr b m v M qs) {q : Qry} (hq : QrOk q) (hl : qs.length < 500) : Mm.code M (qs.length : Int) q = 0 ∧ ∀ w', IxAt w' b m (Mm.add M (qs.length : Int) q) [b, m] → Fr [b, m] wr w' → OwnL 35 7 encQ w' v qs ∧ Fr [] w w' ∧ Mm.Ixq (Mm.add M (qs.length : Int) q) (qs ++ [q]) := by
  obtain ⟨h1, h2⟩ := h.is.snoc (h.ix.map.nd tyIntQry) hl hq.valid
  refine ⟨h1, fun w' hi hf => ⟨h.row.fr hf (fun g hg => ?_), h.fr.trans' hf (fun x hx => .inr ?_), h2⟩⟩
  · obtain ⟨a1, a2⟩ := h.ix.row_ne h.row (by decide) g hg
    simp [a1, a2]
  · have := h.new
    simp only [List.mem_cons, List.not_mem_nil, or_false] at hx
    rcases hx with rfl | rfl <;> omega
theorem InIx.push {wa w7 : World} {v7 : Value} {q : Qry} {o : Obj} (hia : IxAt wa b m M [b, m]) (his : Mm.Ixq M (qs ++ [q])) (hok : ∀ x ∈ qs, QrOk x) (hq : QrOk q) (hrow : OwnL 35 7 encQ wa v qs) (hfa : Fr [] w wa) (hnew : w.heap.size ≤ b ∧ w.heap.size ≤ m) (hown : ∀ g, v.ownBlock = some g → w.heap.size ≤ g)
    (ho : OwnL 35 7 encQ w7 v7 (qs ++ [q])) (hg : (wa.alloc o).grownBy w7 v.ownBlock) (hat : v7.ownBlock = v.ownBlock ∨ v7.ownBlock = some (wa.alloc o).heap.size) : InIx w w7 b m v7 M (qs ++ [q]) := by
  have hf : Fr v.ownBlock.toList wa w7 := ((Fr.refl _ wa).alloc o).grown hg (fun g h => .inl (by rw [h]; simp))
  have hs := hfa.size
  refine ⟨hia.fr hf (fun x hx hm => ?_), his, fun x hx => ?_, ho, hfa.trans' hf (fun x hx => .inr (hown x (by simpa using hx))), hnew, fun g hg7 => ?_⟩
  · obtain ⟨h1, h2⟩ := hia.row_ne hrow (by decide) x (by simpa using hm)
    simp only [List.mem_cons, List.not_mem_nil, or_false] at hx
    rcases hx with rfl | rfl
    · exact h1 rfl
    · exact h2 rfl
  · rcases List.mem_append.1 hx with hx | hx
    · exact hok x hx
    · obtain rfl : x = q := by simpa using hx
      exact hq
  · rcases hat with h | h
    · exact hown g (by rw [← h]; exact hg7)
    · rw [h] at hg7
      injection hg7 with hg7
      rw [World.size_alloc] at hg7
      omega
end
set_option maxRecDepth 100000 in
set_option maxHeartbeats 4000000 in
theorem mindex_any (A : Option Addr) (n cap : Nat) (w : World) (_hn : n ≤ cap) (hcap : cap ≤ maxLen) (hx : n = 0 ∨ ∃ bx ox, A = some ⟨bx, ox, Option.none⟩ ∧ FivAt w bx ox n) :
    Calls Tryz.prog 24 #[.slice A n cap] w fun e w' => ∃ b m M qs v, e = .returned (.tuple #[.pointer (some ⟨b, 0, Option.none⟩), v]) ∧ InIx w w' b m v M qs ∧ qs.length ≤ 40 ∧ qs.length ≤ n := by
  obtain ⟨i0, z0, TQ⟩ := etQ
  have TV := Lib.hid TQ
  have HX := Lib.hid hx
  clear hx TQ
  have hb63 : cap < 9223372036854775808 := by simp only [maxLen] at hcap; omega
  go_enter Tryz.func24, Tryz.ntmps24
  go_wp2_with fail
  refine (mnew_any _).mono ?_
  rintro e w1 ⟨rfl, hix, hf1⟩
  have HI : Hid (InIx w w1 (w.heap.size + 1) w.heap.size (.slice Option.none 0 0) [] []) := Lib.hid ⟨hix, Mm.Ixq.nil, by simp, OwnL.nil, hf1, ⟨by omega, by omega⟩, by simp [Value.ownBlock]⟩
  clear hix hf1
  generalize w.heap.size + 1 = b at *
  generalize w.heap.size = m at *
  go_wp2_with fail
  go_loopw [5, 6] (fun v i wr => ∃ (k : Nat) (M : Mm.Ix) (qs : List Qry), i = .int .i64 k ∧ k ≤ 40 ∧ k ≤ n ∧ Hid (qs.length = k) ∧ Hid (InIx w wr b m v M qs)) (fun _ i _ => 40 - (intOf i).toNat)
  case atStart => exact ⟨0, [], [], rfl, by omega, by omega, Lib.hid rfl, HI⟩
  case round =>
    clear HI
    obtain ⟨k, M, qs, rfl, hk40, hkn, HL, HI⟩ := hrel
    by_cases hlt : k < n
    · by_cases h40 : k < 40
      · obtain ⟨bx, ox, hA, hS⟩ : ∃ bx ox, A = some ⟨bx, ox, Option.none⟩ ∧ FivAt w bx ox n := by
          rcases HX.out with h0 | h
          · omega
          · exact h
        subst hA
        have hS' := hS.fr0 HI.out.fr
        obtain ⟨x0, c0, o0⟩ := hS'.cell k hlt 0 (by decide)
        obtain ⟨x1, c1, o1⟩ := hS'.cell k hlt 1 (by decide)
        obtain ⟨x2, c2, o2⟩ := hS'.cell k hlt 2 (by decide)
        obtain ⟨x3, c3, o3⟩ := hS'.cell k hlt 3 (by decide)
        obtain ⟨x4, c4, o4⟩ := hS'.cell k hlt 4 (by decide)
        simp only [Nat.add_zero] at c0
        have HQ := Lib.hid (fun W => query_any x0 x1 x2 x3 x4 W o0 o1 o2 o3 o4)
        have HOK := Lib.hid (okI_mk (x := (k : Int)) (by omega) (by omega))
        clear hS hS' o0 o1 o2 o3 o4
        go_wp2_with fail
        refine (HQ.out _).mono ?_
        rintro e wq ⟨q, rfl, hq, fq⟩
        have HQR := Lib.hid hq
        have fq1 := fq.alloc (.cells #[.int .i64 q.kind, .int .i64 q.table, .int .i64 q.column, .int .i64 q.low, .int .i64 q.high, .int .i64 q.by_, .int .i64 q.other] 35)
        have HBQ := Lib.hid (QAt.new wq q)
        replace HI := Lib.hid (HI.out.fr0 fq1)
        clear hq fq fq1 c0 c1 c2 c3 c4 HQ
        have HAD := Lib.hid (HI.out.add HQR.out (by rw [HL.out]; omega))
        rw [HL.out] at HAD
        have HM := Lib.hid (madd_any (k : Int) HOK.out q _ HI.out.ix)
        rw [HAD.out.1] at HM
        have hbq : Blk (wq.alloc (.cells #[.int .i64 q.kind, .int .i64 q.table, .int .i64 q.column, .int .i64 q.low, .int .i64 q.high, .int .i64 q.by_, .int .i64 q.other] 35)) wq.heap.size 35 #[.int .i64 q.kind, .int .i64 q.table, .int .i64 q.column, .int .i64 q.low, .int .i64 q.high, .int .i64 q.by_, .int .i64 q.other] := HBQ.out
        go_wp2_with fail
        refine HM.out.mono ?_
        rintro e wa ⟨rfl, hia, fa⟩
        obtain ⟨a1, a2, a3⟩ := HAD.out.2 _ hia fa
        have HIA := Lib.hid hia
        have HROW := Lib.hid a1
        have HFA := Lib.hid a2
        have HIS := Lib.hid a3
        have hgn : wq.heap.size ∉ [b, m] := by
          obtain ⟨lp, hb, -⟩ := HI.out.ix.blk
          have e1 : wq.heap.size ≠ b := Blk.ne HBQ.out hb (by decide)
          have e2 : m ≠ wq.heap.size := HI.out.ix.map.ne HBQ.out
          simp [e1, Ne.symm e2]
        have hbq := HBQ.out.fr fa hgn
        have HNEW := Lib.hid HI.out.new
        have HOWN := Lib.hid HI.out.own
        have HOKS := Lib.hid HI.out.ok
        clear hia fa a1 a2 a3 HBQ HAD HM hgn HI
        generalize wq.heap.size = gq at *
        have q0 := hbq.cell 0
        have q1 := hbq.cell 1
        have q2 := hbq.cell 2
        have q3 := hbq.cell 3
        have q4 := hbq.cell 4
        have q5 := hbq.cell 5
        have q6 := hbq.cell 6
        simp only [List.getElem?_toArray, List.getElem?_cons_zero, List.getElem?_cons_succ] at q0 q1 q2 q3 q4 q5 q6
        clear hbq
        have RD : Hid (Reads (wa.alloc (.cells #[.int .i64 q.kind, .int .i64 q.table, .int .i64 q.column, .int .i64 q.low, .int .i64 q.high, .int .i64 q.by_, .int .i64 q.other] 35)) (wa.heap.size + 1) 7 (some ⟨wa.heap.size, 0, Option.none⟩) 1 ([q].flatMap encQ)) := Lib.hid (reads_new wa 35 q rfl)
        go_wp2_with (at_builtin; refine wpList_appendL rfl _ _ rfl TV.out encQ_len encQ_one rfl (HROW.out.fr ((Fr.refl [] wa).alloc _) (by simp)) _ _ _ _ [q] rfl rfl RD.out (by rw [HL.out]; simp only [maxLen, List.length_singleton]; omega) (by rw [HL.out]; simp only [List.length_singleton]; omega) ?_; intro v7 w7 ho7 hg7 hat7; have HO7 := Lib.hid ho7; have HG7 := Lib.hid hg7; have HA7 := Lib.hid hat7; clear ho7 hg7 hat7)
        go_roundw
        case rel => exact ⟨k + 1, _, qs ++ [q], by go_num, by omega, by omega, Lib.hid (by rw [List.length_append, HL.out]; rfl), Lib.hid (InIx.push HIA.out HIS.out HOKS.out HQR.out HROW.out HFA.out HNEW.out HOWN.out HO7.out HG7.out HA7.out)⟩
        case measure => simp [intOf]; omega
      · go_wp2_with fail
        go_ret2
        exact ⟨b, m, M, qs, _, rfl, HI.out, by rw [HL.out]; exact hk40, by rw [HL.out]; exact hkn⟩
    · go_wp2_with fail
      go_ret2
      exact ⟨b, m, M, qs, _, rfl, HI.out, by rw [HL.out]; exact hk40, by rw [HL.out]; exact hkn⟩
end Go.Proofs.YtciaallekkdnhaaGreat

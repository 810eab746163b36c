/-
  Law 08: the log; what lies in memory between two records; Match in its terms.
-/
import Derived.Test.YtciaallekkdnhaaGreatMuA
namespace Go.Proofs.YtciaallekkdnhaaGreat
open Go.RowKit

theorem Rw.chg_okI {c : Chg} (h : Rw.chg c = true) : okI c.t ∧ ∀ r ∈ Mm.rows c, ∀ k, okI (r.value k) := by
  obtain ⟨t, k, had, o0, o1, o2, has, n0, n1, n2⟩ := c
  have hm : ∀ x : Int, -1000000000 ≤ x ∧ x ≤ 1000000000 → okI x := fun x hx => okI_mk (by omega) (by omega)
  have key : okI t ∧ okI k ∧ (okI o0 ∧ okI o1 ∧ okI o2) ∧ (okI n0 ∧ okI n1 ∧ okI n2) := by
    unfold Rw.chg Rw.turns Rw.sound Rw.row Rw.inI at h
    cases had <;> cases has <;> simp at h <;> refine ⟨hm _ (by omega), hm _ (by omega), ⟨hm _ (by omega), hm _ (by omega), hm _ (by omega)⟩, hm _ (by omega), hm _ (by omega), hm _ (by omega)⟩
  obtain ⟨h1, h2, ⟨h3, h4, h5⟩, h6, h7, h8⟩ := key
  exact ⟨h1, rows_okI h2 h3 h4 h5 h6 h7 h8⟩
theorem Rw.chgs_mem : ∀ {cs : List Chg} {a b : Int}, Rw.chgs a b cs = true → ∀ c ∈ cs, Rw.chg c = true
  | [], _, _, _, c, hc => absurd hc (by simp)
  | d :: cs, a, b, h, c, hc => by
    simp only [Rw.chgs, Bool.and_eq_true] at h
    rcases List.mem_cons.1 hc with rfl | hc
    · exact h.1.1
    · exact Rw.chgs_mem h.2 c hc
theorem Lg.Ok.okI {l : List Rec} (h : Lg.Ok l) {i : Nat} (hi : i < l.length) : ∀ c ∈ l[i].cs, okI c.t ∧ ∀ r ∈ Mm.rows c, ∀ k, okI (r.value k) := by
  intro c hc
  have hv := h.valid hi
  unfold Rw.valid at hv
  simp only [Bool.and_eq_true] at hv
  exact Rw.chg_okI (Rw.chgs_mem hv.2 c hc)
set_option maxRecDepth 100000 in
set_option maxHeartbeats 4000000 in
theorem mlog_any (A : Option Addr) (n cap : Nat) (w : World) (hn : n ≤ cap) (hcap : cap ≤ maxLen) (hx : n = 0 ∨ ∃ bx ox, A = some ⟨bx, ox, none⟩ ∧ SixAt w bx ox n) :
    Calls Tryz.prog 20 #[.slice A n cap] w fun e w' => ∃ (A2 : Option Addr) (n2 c2 : Nat) (out : List Rec), e = .returned (.slice A2 n2 c2) ∧ OwnR w' (.slice A2 n2 c2) out ∧ Lg.Ok out ∧ out.length ≤ 25 ∧ Fr [] w w' ∧ n2 = out.length := by
  have hm : (2 : Nat) ^ 47 ≤ maxLen := by decide
  have HL := Lib.hid (fun (m : Nat) (hm : m ≤ 25) (h : m ≤ n) => (log_any A m cap w (by omega) (by
    rcases hx with h0 | ⟨bx, ox, h1, h2⟩
    · exact .inl (by omega)
    · exact .inr ⟨bx, ox, h1, h2.le h⟩)))
  clear hx
  have hb : cap < 9223372036854775808 := by simp only [maxLen] at hcap; omega
  have HV : Hid (∀ (w' : World) (vo : Value) (out : List Rec), OwnR w' vo out → ∃ A2 n2 c2, vo = .slice A2 n2 c2 ∧ n2 = out.length) := Lib.hid (fun w' vo out h => by
    obtain ⟨us, hus, -⟩ := id h
    obtain ⟨A2, cap2, hv⟩ := hus.val
    subst hv
    exact ⟨_, _, _, rfl, h.recs.2⟩)
  go_enter Tryz.func20, Tryz.ntmps20
  go_wp2_with fail
  obtain ⟨mN, hmN⟩ : ∃ m : Nat, (min (n : Int) 25).toNat = m := ⟨_, rfl⟩
  have hm1 : mN ≤ 25 ∧ mN ≤ n := by omega
  rw [hmN]
  refine (HL.out mN hm1.1 hm1.2).mono ?_
  rintro e w1 ⟨vo, out, rfl, h1, h2, h3, h4, h5⟩
  clear hmN
  go_wp2_with fail
  go_ret
  obtain ⟨A2, n2, c2, rfl, hn2⟩ := HV.out _ _ _ h1
  exact ⟨_, _, _, out, rfl, h1, h2, by omega, h4, hn2⟩
/-- Between two records. -/
structure MgAt (w wr : World) (b m : Nat) (M : Mm.Ix) (D : List Nat) (v : Value) (qs : List Qry) (A2 : Option Addr) (n2 c2 : Nat) (l : List Rec) : Prop where
  ix : IxAt wr b m M D
  dl : ∀ x ∈ D, w.heap.size ≤ x ∧ x < wr.heap.size
  is : Mm.Ixq M qs
  ok : ∀ q ∈ qs, QrOk q
  row : OwnL 35 7 encQ wr v qs
  log : OwnR wr (.slice A2 n2 c2) l
  fr : Fr [] w wr
section
variable {w wr w' : World} {b m : Nat} {M : Mm.Ix} {D : List Nat} {v : Value} {qs : List Qry} {A2 : Option Addr} {n2 c2 : Nat} {l : List Rec}
theorem MgAt.fr0 (h : MgAt w wr b m M D v qs A2 n2 c2 l) (hf : Fr [] wr w') : MgAt w w' b m M D v qs A2 n2 c2 l :=
  ⟨h.ix.fr0 hf, fun x hx => ⟨(h.dl x hx).1, Nat.lt_of_lt_of_le (h.dl x hx).2 hf.size⟩, h.is, h.ok, h.row.fr hf (by simp), h.log.keep0 hf, h.fr.trans hf⟩
theorem MgAt.of (h : InIx w wr b m v M qs) (hl : OwnR w' (.slice A2 n2 c2) l) (hf : Fr [] wr w') : MgAt w w' b m M [b, m] v qs A2 n2 c2 l := by
  have hlt := h.ix.lt
  have h1 := h.fr0 hf
  exact ⟨h1.ix, fun x hx => by
    have := h.new
    have := hf.size
    simp only [List.mem_cons, List.not_mem_nil, or_false] at hx
    rcases hx with rfl | rfl <;> omega, h.is, h.ok, h1.row, hl, h1.fr⟩
theorem MgAt.match_ (h : MgAt w wr b m M D v qs A2 n2 c2 l) (at_ : Int) (A : Option Addr) (N cap : Nat) (cs : List Chg) (hc : HoldsC wr A cs) (hN : N = cs.length) (hn8 : N ≤ 1000) (hcs : ∀ c ∈ cs, okI c.t ∧ ∀ r ∈ Mm.rows c, ∀ k, okI (r.value k)) :
    Calls Tryz.prog 22 #[.pointer (some ⟨b, 0, none⟩), .agg #[.int .i64 at_, .slice A N cap]] wr fun e w' => ∃ A' n' c' L, e = .returned (.slice A' n' c') ∧ OwnL 3 1 encJ w' (.slice A' n' c') L ∧ n' = L.length ∧ L = Mm.hits qs cs qs.length ∧ Fr [b] wr w' ∧ ∃ D', MgAt w w' b m M D' v qs A2 n2 c2 l ∧ ∀ x ∈ D', x ∈ D ∨ wr.heap.size ≤ x := by
  refine (mmatch_any b m M D at_ A N cap cs wr h.ix (fun x hx => (h.dl x hx).2) hc hN hn8 hcs).mono ?_
  rintro e w' ⟨u, L, rfl, ho, hh, D', hi, hf, hd⟩
  obtain ⟨A', c', rfl⟩ := ho.val
  obtain ⟨lp, hb, -⟩ := h.ix.blk
  have hbw : w.heap.size ≤ b := (h.dl b h.ix.mem.1).1
  refine ⟨A', _, c', L, rfl, ho, rfl, hh.eq h.is, hf, D', ⟨hi, fun x hx => ⟨?_, (hd x hx).2⟩, h.is, h.ok, h.row.fr hf (fun g hg => ?_), ?_, h.fr.trans' hf (fun x hx => .inr ?_)⟩, fun x hx => (hd x hx).1⟩
  · rcases (hd x hx).1 with h1 | h1
    · exact (h.dl x h1).1
    · exact Nat.le_trans h.fr.size h1
  · simpa using (h.ix.row_ne h.row (by decide) g hg).1
  · obtain ⟨us, h1, -⟩ := id h.log
    exact h.log.fr hf (fun g hg => by simpa using h1.ne hb (by decide) hg) (NoC.cons (noC_blk hb (by decide)) NoC.nil)
  · obtain rfl : x = b := by simpa using hx
    exact hbw
theorem MgAt.recs (h : MgAt w wr b m M D v qs A2 n2 c2 l) : RecsAt wr A2 l ∧ n2 = l.length := h.log.recs
/-- The log's record at an index: its cells and its changes. -/
theorem MgAt.open_ (h : MgAt w wr b m M D v qs A2 n2 c2 l) {k : Nat} (hk : k < l.length) :
    ∃ bb off Ak ck, A2 = some ⟨bb, off, none⟩ ∧ bb < wr.heap.size ∧ wr.cell? ⟨bb, off + k * 2, none⟩ = some (.int .i64 l[k].p) ∧ wr.cell? ⟨bb, off + k * 2 + 1, none⟩ = some (.slice Ak l[k].cs.length ck) ∧ HoldsC wr Ak l[k].cs ∧ l[k].cs.length ≤ 8 := h.recs.1.open_ hk
/-- A query at an index. -/
theorem MgAt.query {A1 : Option Addr} {n1 c1 : Nat} (h : MgAt w wr b m M D (.slice A1 n1 c1) qs A2 n2 c2 l) {k : Nat} (hk : k < qs.length) :
    ∃ g off, A1 = some ⟨g, off, none⟩ ∧ g < wr.heap.size ∧ ∀ j, j < 7 → wr.cell? ⟨g, off + k * 7 + j, none⟩ = (encQ qs[k])[j]? := by
  obtain ⟨g, off, h1, h2, h3⟩ := (h.row.at1 encQ_len).1 (by omega)
  exact ⟨g, off, h1, h2, h3 k hk⟩
end
end Go.Proofs.YtciaallekkdnhaaGreat

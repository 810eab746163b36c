/-
  'At': the state after some records.
-/
import Derived.Test.YtlicjokgcahmlaaStF
import Derived.Test.YtlicjokgcahmlaaRecs
import Derived.Test.YtlicjokgcahmlaaLgA
namespace Go.Proofs.Ytlicjokgcahmlaa
open Go.RowKit

/-- Records at an address. -/
def RecsAt (w : World) (A : Option Addr) (l : List Rec) : Prop := ∃ us : List WRec, AtL WRec.cells 2 w A us ∧ us.map (·.r) = l ∧ ∀ u ∈ us, HoldsC w u.A u.r.cs ∧ u.r.cs.length ≤ 8
theorem OwnR.recs {w : World} {A : Option Addr} {n cap : Nat} {out : List Rec} (h : OwnR w (.slice A n cap) out) : RecsAt w A out ∧ n = out.length := by
  obtain ⟨us, h1, h2, h3⟩ := h
  obtain ⟨h4, h5⟩ := h1.at1 WRec.len
  exact ⟨⟨us, h4, h2, h3⟩, by rw [← h2, List.length_map]; exact h5⟩
/-- None of the blocks in S holds records. -/
def NoR (w : World) (S : List Nat) : Prop := ∀ s ∈ S, ∀ arr fz, w.heap[s]? ≠ some (.cells arr 65 fz)

/-- At the head of each round of 'At'. -/
structure AtRel (w0 w : World) (A : Option Addr) (l : List Rec) (k : Nat) (wr : World) (b m : Nat) : Prop where
  st : StaAt wr b m (Lg.run (l.take k))
  fr : Fr [] w wr
  hb : w.heap.size ≤ b
  hm : w.heap.size ≤ m

set_option maxRecDepth 100000 in
set_option maxHeartbeats 2000000 in
theorem sat_ok (A : Option Addr) (cap : Nat) (l : List Rec) (p : Nat) (w : World) (h : RecsAt w A l) (hl : l.length ≤ 1000) (hp : p ≤ l.length) (hlc : l.length ≤ cap) (hok : ∀ i (h : i < l.length), i < p → Sm.fits (Lg.run (l.take i)) l[i] = true) :
    Calls Try.prog 20 #[.slice A l.length cap, .int .i64 p] w fun e w' => ∃ b m, e = .returned (.tuple #[.pointer (some ⟨b, 0, none⟩), .int .i64 0]) ∧ StaAt w' b m (Lg.run (l.take p)) ∧ Fr [] w w' ∧ w.heap.size ≤ b ∧ w.heap.size ≤ m := by
  obtain ⟨us, hat, hus, hhc⟩ := h
  have hul : us.length = l.length := by rw [← hus, List.length_map]
  have HC := Lib.hid hhc
  have HAT := Lib.hid hat
  have HOK := Lib.hid hok
  clear hhc hat hok
  go_enter Try.func20, Try.ntmps20
  go_wp2_with fail
  refine (snew_any _).mono ?_
  rintro e w1 ⟨rfl, hnew, f1⟩
  have hbb0 : w.heap.size ≤ w.heap.size + 1 := by omega
  have R0 : Hid (AtRel w w A l 0 w1 (w.heap.size + 1) w.heap.size) := Lib.hid ⟨hnew, f1, by omega, Nat.le_refl _⟩
  clear hnew f1
  go_wp2_with fail
  generalize w.heap.size + 1 = b at *
  generalize hm0 : w.heap.size = m at R0
  have HM0 := Lib.hid hm0
  clear hm0
  go_loopw [22] (fun i wr => ∃ k : Nat, i = .int .i64 k ∧ k ≤ p ∧ Hid (AtRel w w A l k wr b m)) (fun i _ => p - (intOf i).toNat)
  case atStart => exact ⟨0, rfl, Nat.zero_le _, R0⟩
  case round =>
    clear R0
    obtain ⟨k, rfl, hk, R⟩ := hrel
    by_cases hlt : k < p
    · have hkl : k < l.length := by omega
      have hku : k < us.length := by omega
      have hck := HC.out us[k] (List.getElem_mem hku)
      have hcell : ∃ bb off, A = some ⟨bb, off, none⟩ ∧ wr.cell? ⟨bb, off + k * 2, none⟩ = some (.int .i64 us[k].r.p) ∧ wr.cell? ⟨bb, off + k * 2 + 1, none⟩ = some (.slice us[k].A us[k].r.cs.length us[k].cap) := by
        obtain ⟨bb, off, e, hbb, hc⟩ := HAT.out (by omega)
        refine ⟨bb, off, e, ?_, ?_⟩
        · rw [R.out.fr.cell (p := ⟨bb, off + k * 2, none⟩) hbb (by simp)]
          exact hc k hku 0 (by decide)
        · rw [R.out.fr.cell (p := ⟨bb, off + k * 2 + 1, none⟩) hbb (by simp)]
          exact hc k hku 1 (by decide)
      have hlk : us[k].r = l[k] := by subst hus; simp
      have hfit := Lib.hid (HOK.out k hkl hlt)
      have htk : Hid (Lg.run (l.take (k + 1)) = Sm.apply (Lg.run (l.take k)) l[k]) := Lib.hid (by rw [List.take_succ_eq_append_getElem hkl, Lg.run_snoc])
      rw [hlk] at hck hcell
      obtain ⟨bb, off, hA, hc0, hc1⟩ := hcell
      subst hA
      have hcode : Hid (Sm.code (Lg.run (l.take k)) l[k] = 0) := Lib.hid (Lg.code_zero.2 hfit.out)
      have HCK := Lib.hid hck
      clear hck hlk
      generalize us[k].A = Ak at *
      generalize us[k].cap = ck at *
      generalize l[k] = rk at *
      have F1 : Fr [] wr (wr.alloc (.cells #[.int .i64 rk.p, .slice Ak rk.cs.length ck] 65)) := (Fr.refl _ _).alloc _
      have hap := Lib.hid (sapply_any b m (Lg.run (l.take k)) rk Ak ck _ (R.out.st.fr0 F1) (HCK.out.1.fr (R.out.fr.trans F1) NoC.nil) (Nat.le_trans HCK.out.2 (by decide)))
      go_wp2_with fail
      refine hap.out.mono ?_
      rintro e w2 ⟨rfl, hst, hf⟩
      rw [hcode.out]
      have R2 : Hid (AtRel w w (some ⟨bb, off, none⟩) l (k + 1) w2 b m) := Lib.hid ⟨by rw [htk.out]; exact hst, (R.out.fr.trans F1).trans' hf (fun i hi => .inr (by
        have h1 := R.out.hb
        have h2 := R.out.hm
        simp only [List.mem_cons, List.not_mem_nil, or_false] at hi
        rcases hi with rfl | rfl <;> omega)), R.out.hb, R.out.hm⟩
      clear hst hf hap F1
      go_wp2_with fail
      go_roundw
      case rel => exact ⟨k + 1, by go_num, by omega, R2⟩
      case measure => simp [intOf]; omega
    · have hkp : k = p := by omega
      subst hkp
      go_wp2_with fail
      go_ret2
      exact ⟨b, m, rfl, R.out.st, R.out.fr, R.out.hb, R.out.hm⟩

theorem sat_bad (A : Option Addr) (n cap : Nat) (p : Int) (w : World) (hn : n ≤ maxLen) (hp : p < 0 ∨ n < p) :
    Calls Try.prog 20 #[.slice A n cap, .int .i64 p] w fun e w' => e = .returned (.tuple #[.pointer none, .int .i64 40]) ∧ w = w' := by
  by_cases h : p < 0
  · go_enter Try.func20, Try.ntmps20
    go_wp2
    go_ret2
    exact ⟨rfl, rfl⟩
  · have h2 : (n : Int) < p := by omega
    go_enter Try.func20, Try.ntmps20
    go_wp2
    go_ret2
    exact ⟨rfl, rfl⟩
end Go.Proofs.Ytlicjokgcahmlaa

/-
  What records that can be applied one after the other make.
-/
import Derived.Test.YthiaaminkfkjpaaEaw
import Derived.Test.YthiaaminkfkjpaaEat
import Derived.Test.YthiaaminkfkjpaaEal
import Derived.Test.YthiaaminkfkjpaaEah
import Derived.Test.YthiaaminkfkjpaaEan
import Derived.Test.YthiaaminkfkjpaaEae
import Derived.Test.YthiaaminkfkjpaaEau
namespace Go.Proofs.Ythiaaminkfkjpaa
open Go.RowKit

/-- Records at an address. -/
def RecsAt (w : World) (A : Option Addr) (l : List Rec) : Prop := ∃ us : List WRec, AtL WRec.cells 2 w A us ∧ us.map (·.r) = l ∧ ∀ u ∈ us, HoldsC w u.A u.r.cs ∧ u.r.cs.length ≤ 8
theorem OwnR.recs {w : World} {A : Option Addr} {n cap : Nat} {out : List Rec} (h : OwnR w (.slice A n cap) out) : RecsAt w A out ∧ n = out.length := by
  obtain ⟨us, h1, h2, h3⟩ := h
  obtain ⟨h4, h5⟩ := h1.at1 WRec.len
  exact ⟨⟨us, h4, h2, h3⟩, by rw [← h2, List.length_map]; exact h5⟩
/-- None of the blocks in S holds records. -/
def NoR (w : World) (S : List Nat) : Prop := ∀ s ∈ S, ∀ arr fz, w.heap[s]? ≠ some (.cells arr 38 fz)

/-- At the head of each round of 'At'. -/
structure AtRel (w0 w : World) (A : Option Addr) (l : List Rec) (k : Nat) (wr : World) (b m : Nat) : Prop where
  st : StaAt wr b m (Lg.run (l.take k))
  fr : Fr [] w wr
  hb : w.heap.size ≤ b
  hm : w.heap.size ≤ m

set_option maxRecDepth 100000 in
set_option maxHeartbeats 2000000 in
theorem sat_ok (A : Option Addr) (cap : Nat) (l : List Rec) (p : Nat) (w : World) (h : RecsAt w A l) (hl : l.length ≤ 1000) (hp : p ≤ l.length) (hlc : l.length ≤ cap) (hok : ∀ i (h : i < l.length), i < p → Sm.fits (Lg.run (l.take i)) l[i] = true) :
    Calls Try.prog 8 #[.slice A l.length cap, .int .i64 p] w fun e w' => ∃ b m, e = .returned (.tuple #[.pointer (some ⟨b, 0, none⟩), .int .i64 0]) ∧ StaAt w' b m (Lg.run (l.take p)) ∧ Fr [] w w' ∧ w.heap.size ≤ b ∧ w.heap.size ≤ m := by
  obtain ⟨us, hat, hus, hhc⟩ := h
  have hul : us.length = l.length := by rw [← hus, List.length_map]
  have HC := Lib.hid hhc
  have HAT := Lib.hid hat
  have HOK := Lib.hid hok
  clear hhc hat hok
  go_enter Try.func8, Try.ntmps8
  go_wp2_with fail
  refine (snew_any _).mono ?_
  rintro e w1 ⟨rfl, hnew, f1⟩
  have hbb0 : w.heap.size ≤ w.heap.size + 1 := by omega
  have R0 : Hid (AtRel w w A l 0 w1 (w.heap.size + 1) w.heap.size) := Lib.hid ⟨hnew, f1, by omega, Nat.le_refl _⟩
  clear hnew f1
  go_wp2_with fail
  generalize w.heap.size + 1 = b at *
  generalize hm0 : w.heap.size = m at R0
  have HM0 := Lib.hid hm0
  clear hm0
  go_loopw [22] (fun i wr => ∃ k : Nat, i = .int .i64 k ∧ k ≤ p ∧ Hid (AtRel w w A l k wr b m)) (fun i _ => p - (intOf i).toNat)
  case atStart => exact ⟨0, rfl, Nat.zero_le _, R0⟩
  case round =>
    clear R0
    obtain ⟨k, rfl, hk, R⟩ := hrel
    by_cases hlt : k < p
    · have hkl : k < l.length := by omega
      have hku : k < us.length := by omega
      have hck := HC.out us[k] (List.getElem_mem hku)
      have hcell : ∃ bb off, A = some ⟨bb, off, none⟩ ∧ wr.cell? ⟨bb, off + k * 2, none⟩ = some (.int .i64 us[k].r.p) ∧ wr.cell? ⟨bb, off + k * 2 + 1, none⟩ = some (.slice us[k].A us[k].r.cs.length us[k].cap) := by
        obtain ⟨bb, off, e, hbb, hc⟩ := HAT.out (by omega)
        refine ⟨bb, off, e, ?_, ?_⟩
        · rw [R.out.fr.cell (p := ⟨bb, off + k * 2, none⟩) hbb (by simp)]
          exact hc k hku 0 (by decide)
        · rw [R.out.fr.cell (p := ⟨bb, off + k * 2 + 1, none⟩) hbb (by simp)]
          exact hc k hku 1 (by decide)
      have hlk : us[k].r = l[k] := by subst hus; simp
      have hfit := Lib.hid (HOK.out k hkl hlt)
      have htk : Hid (Lg.run (l.take (k + 1)) = Sm.apply (Lg.run (l.take k)) l[k]) := Lib.hid (by rw [List.take_succ_eq_append_getElem hkl, Lg.run_snoc])
      rw [hlk] at hck hcell
      obtain ⟨bb, off, hA, hc0, hc1⟩ := hcell
      subst hA
      have hcode : Hid (Sm.code (Lg.run (l.take k)) l[k] = 0) := Lib.hid (Lg.code_zero.2 hfit.out)
      have HCK := Lib.hid hck
      clear hck hlk
      generalize us[k].A = Ak at *
      generalize us[k].cap = ck at *
      generalize l[k] = rk at *
      have F1 : Fr [] wr (wr.alloc (.cells #[.int .i64 rk.p, .slice Ak rk.cs.length ck] 38)) := (Fr.refl _ _).alloc _
      have hap := Lib.hid (sapply_any b m (Lg.run (l.take k)) rk Ak ck _ (R.out.st.fr0 F1) (HCK.out.1.fr (R.out.fr.trans F1) NoC.nil) (Nat.le_trans HCK.out.2 (by decide)))
      go_wp2_with fail
      refine hap.out.mono ?_
      rintro e w2 ⟨rfl, hst, hf⟩
      rw [hcode.out]
      have R2 : Hid (AtRel w w (some ⟨bb, off, none⟩) l (k + 1) w2 b m) := Lib.hid ⟨by rw [htk.out]; exact hst, (R.out.fr.trans F1).trans' hf (fun i hi => .inr (by
        have h1 := R.out.hb
        have h2 := R.out.hm
        simp only [List.mem_cons, List.not_mem_nil, or_false] at hi
        rcases hi with rfl | rfl <;> omega)), R.out.hb, R.out.hm⟩
      clear hst hf hap F1
      go_wp2_with fail
      go_roundw
      case rel => exact ⟨k + 1, by go_num, by omega, R2⟩
      case measure => simp [intOf]; omega
    · have hkp : k = p := by omega
      subst hkp
      go_wp2_with fail
      go_ret2
      exact ⟨b, m, rfl, R.out.st, R.out.fr, R.out.hb, R.out.hm⟩

theorem sat_bad (A : Option Addr) (n cap : Nat) (p : Int) (w : World) (_hn : n ≤ maxLen) (hp : p < 0 ∨ n < p) :
    Calls Try.prog 8 #[.slice A n cap, .int .i64 p] w fun e w' => e = .returned (.tuple #[.pointer none, .int .i64 40]) ∧ w = w' := by
  by_cases h : p < 0
  · go_enter Try.func8, Try.ntmps8
    go_wp2
    go_ret2
    exact ⟨rfl, rfl⟩
  · have h2 : (n : Int) < p := by omega
    go_enter Try.func8, Try.ntmps8
    go_wp2
    go_ret2
    exact ⟨rfl, rfl⟩
end Go.Proofs.Ythiaaminkfkjpaa
namespace Go.Proofs.Ythiaaminkfkjpaa
namespace Lg

theorem run_ok (l : List Rec) : Sm.Ok (run l) := by
  have key : ∀ (l : List Rec) (s : Sm.Sta), Sm.Ok s → Sm.Ok (l.foldl Sm.apply s) := by
    intro l
    induction l with
    | nil => exact fun s h => h
    | cons r l ih => exact fun s h => ih _ (h.applied r)
  exact key l _ Sm.ok_new
theorem run_succ (l : List Rec) {i : Nat} (hi : i < l.length) : run (l.take (i + 1)) = Sm.apply (run (l.take i)) l[i] := by
  rw [List.take_succ_eq_append_getElem hi, run_snoc]
theorem fits_pos {s : Sm.Sta} {r : Rec} (h : Sm.fits s r = true) : r.p = s.pos + 1 ∧ Sm.apply s r = ⟨r.cs.foldl Sm.put1 s.M, r.p⟩ := by
  refine ⟨?_, by unfold Sm.apply; rw [if_pos h]⟩
  simp only [Sm.fits, Bool.and_eq_true, decide_eq_true_eq] at h
  exact h.1.2
theorem Ok.pos {l : List Rec} (h : Ok l) : ∀ i, i ≤ l.length → (run (l.take i)).pos = i
  | 0, _ => rfl
  | i + 1, hi => by
    have hf := h.fits i (by omega)
    obtain ⟨h1, h2⟩ := fits_pos hf
    rw [run_succ l (by omega), h2]
    dsimp only
    rw [h1, h.pos i (by omega)]
    omega
theorem Ok.at_ {l : List Rec} (h : Ok l) {i : Nat} (hi : i < l.length) : l[i].p = i + 1 := by
  rw [(fits_pos (h.fits i hi)).1, h.pos i (by omega)]
theorem Ok.valid {l : List Rec} (h : Ok l) {i : Nat} (hi : i < l.length) : Rw.valid l[i] = true := by
  have hf := h.fits i hi
  simp only [Sm.fits, Bool.and_eq_true, decide_eq_true_eq] at hf
  exact hf.1.1
theorem run_all (l : List Rec) : run (l.take l.length) = run l := by rw [List.take_length]
end Lg
theorem OwnR.cap {w : World} {A : Option Addr} {cap : Nat} {out : List Rec} (h : OwnR w (.slice A out.length cap) out) : out.length ≤ cap := by
  obtain ⟨us, h1, h2, _⟩ := h
  have hl : out.length = us.length := by rw [← h2, List.length_map]
  rw [hl] at h1 ⊢
  exact own_cap2 h1
theorem RecsAt.open_ {w : World} {A : Option Addr} {l : List Rec} (h : RecsAt w A l) {k : Nat} (hk : k < l.length) :
    ∃ bb off Ak ck, A = some ⟨bb, off, none⟩ ∧ bb < w.heap.size ∧ w.cell? ⟨bb, off + k * 2, none⟩ = some (.int .i64 l[k].p) ∧ w.cell? ⟨bb, off + k * 2 + 1, none⟩ = some (.slice Ak l[k].cs.length ck) ∧ HoldsC w Ak l[k].cs ∧ l[k].cs.length ≤ 8 := by
  obtain ⟨us, hat, hus, hhc⟩ := h
  subst hus
  have hku : k < us.length := by simpa using hk
  obtain ⟨bb, off, e, hbb, hc⟩ := hat (by omega)
  obtain ⟨h1, h2⟩ := hhc us[k] (List.getElem_mem hku)
  have e1 : (us.map (·.r))[k]'hk = us[k].r := by simp
  rw [e1]
  exact ⟨bb, off, us[k].A, us[k].cap, e, hbb, hc k hku 0 (by decide), hc k hku 1 (by decide), h1, h2⟩
theorem sapply_n (b m : Nat) (s : Sm.Sta) (r : Rec) (A : Option Addr) (n cap : Nat) (p : Int) (w : World) (h : StaAt w b m s) (hc : HoldsC w A r.cs) (hlen : r.cs.length ≤ 8) (hn : n = r.cs.length) (hp : p = r.p) :
    Calls Try.prog 19 #[.pointer (some ⟨b, 0, none⟩), .agg #[.int .i64 p, .slice A n cap]] w fun e w' => e = .returned (.int .i64 (Sm.code s r)) ∧ StaAt w' b m (Sm.apply s r) ∧ Fr [b, m] w w' := by
  subst hn
  subst hp
  exact sapply_any b m s r A cap w h hc (Nat.le_trans hlen (by decide))
end Go.Proofs.Ythiaaminkfkjpaa

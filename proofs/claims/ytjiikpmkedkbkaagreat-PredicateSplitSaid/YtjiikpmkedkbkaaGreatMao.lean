/-
  What the reference's Log and the laws need about rows of changes and of records.
-/
import Derived.Test.YtjiikpmkedkbkaaGreatMag
import Derived.Test.YtjiikpmkedkbkaaGreatMan
import Derived.Test.YtjiikpmkedkbkaaGreatMai
import Derived.Test.YtjiikpmkedkbkaaGreatMah
import Derived.Test.YtjiikpmkedkbkaaGreatMae
import Derived.Test.YtjiikpmkedkbkaaGreatMam
namespace Go.Proofs.YtjiikpmkedkbkaaGreat

/-- A change of a small log. -/
structure LgC (c : Chg) : Prop where
  t0 : 0 ≤ c.t
  t1 : c.t ≤ 2
  k0 : 1 ≤ c.k
  k1 : c.k ≤ 9
  new : c.has = true → (0 ≤ c.n0 ∧ c.n0 ≤ 9) ∧ (1 ≤ c.n1 ∧ c.n1 ≤ 9) ∧ (-20 ≤ c.n2 ∧ c.n2 ≤ 19)

namespace Lg
/-- The state that a log leaves. -/
def run (l : List Rec) : Sm.Sta := l.foldl Sm.apply Sm.new
structure Ok (l : List Rec) : Prop where
  fits : ∀ i (h : i < l.length), Sm.fits (run (l.take i)) l[i] = true
  small : ∀ r ∈ l, ∀ c ∈ r.cs, LgC c
theorem run_nil : run [] = Sm.new := rfl
theorem run_snoc (l : List Rec) (r : Rec) : run (l ++ [r]) = Sm.apply (run l) r := by simp [run]
theorem ok_nil : Ok [] := ⟨fun i h => absurd h (by simp), by simp⟩
theorem Ok.snoc {l : List Rec} {r : Rec} (h : Ok l) (hf : Sm.fits (run l) r = true) (hs : ∀ c ∈ r.cs, LgC c) : Ok (l ++ [r]) := by
  refine ⟨fun i hi => ?_, fun q hq => ?_⟩
  · rw [List.length_append, List.length_singleton] at hi
    rcases Nat.lt_or_ge i l.length with h1 | h1
    · rw [List.take_append_of_le_length (by omega), List.getElem_append_left h1]
      exact h.fits i h1
    · have : i = l.length := by omega
      subst this
      rw [List.take_left, List.getElem_append_right (Nat.le_refl _)]
      simpa using hf
  · rcases List.mem_append.1 hq with h1 | h1
    · exact h.small q h1
    · rw [List.mem_singleton] at h1
      subst h1
      exact hs
theorem code_zero {s : Sm.Sta} {r : Rec} : Sm.code s r = 0 ↔ Sm.fits s r = true := by
  unfold Sm.code
  split <;> simp_all
end Lg
end Go.Proofs.YtjiikpmkedkbkaaGreat
namespace Go.Proofs.YtjiikpmkedkbkaaGreat
open Go.RowKit

/-- Records at an address. -/
def RecsAt (w : World) (A : Option Addr) (l : List Rec) : Prop := ∃ us : List WRec, AtL WRec.cells 2 w A us ∧ us.map (·.r) = l ∧ ∀ u ∈ us, HoldsC w u.A u.r.cs ∧ u.r.cs.length ≤ 8
theorem OwnR.recs {w : World} {A : Option Addr} {n cap : Nat} {out : List Rec} (h : OwnR w (.slice A n cap) out) : RecsAt w A out ∧ n = out.length := by
  obtain ⟨us, h1, h2, h3⟩ := h
  obtain ⟨h4, h5⟩ := h1.at1 WRec.len
  exact ⟨⟨us, h4, h2, h3⟩, by rw [← h2, List.length_map]; exact h5⟩
/-- None of the blocks in S holds records. -/
def NoR (w : World) (S : List Nat) : Prop := ∀ s ∈ S, ∀ arr fz, w.heap[s]? ≠ some (.cells arr 41 fz)

/-- At the head of each round of 'At'. -/
structure AtRel (w0 w : World) (A : Option Addr) (l : List Rec) (k : Nat) (wr : World) (b m : Nat) : Prop where
  st : StaAt wr b m (Lg.run (l.take k))
  fr : Fr [] w wr
  hb : w.heap.size ≤ b
  hm : w.heap.size ≤ m

set_option maxRecDepth 100000 in
set_option maxHeartbeats 2000000 in
theorem sat_ok (A : Option Addr) (cap : Nat) (l : List Rec) (p : Nat) (w : World) (h : RecsAt w A l) (hl : l.length ≤ 1000) (hp : p ≤ l.length) (hlc : l.length ≤ cap) (hok : ∀ i (h : i < l.length), i < p → Sm.fits (Lg.run (l.take i)) l[i] = true) :
    Calls Tryz.prog 22 #[.slice A l.length cap, .int .i64 p] w fun e w' => ∃ b m, e = .returned (.tuple #[.pointer (some ⟨b, 0, none⟩), .int .i64 0]) ∧ StaAt w' b m (Lg.run (l.take p)) ∧ Fr [] w w' ∧ w.heap.size ≤ b ∧ w.heap.size ≤ m := by
  obtain ⟨us, hat, hus, hhc⟩ := h
  have hul : us.length = l.length := by rw [← hus, List.length_map]
  have HC := Lib.hid hhc
  have HAT := Lib.hid hat
  have HOK := Lib.hid hok
  clear hhc hat hok
  go_enter Tryz.func22, Tryz.ntmps22
  go_wp2_with fail
  refine (snew_any _).mono ?_
  rintro e w1 ⟨rfl, hnew, f1⟩
  have hbb0 : w.heap.size ≤ w.heap.size + 1 := by omega
  have R0 : Hid (AtRel w w A l 0 w1 (w.heap.size + 1) w.heap.size) := Lib.hid ⟨hnew, f1, by omega, Nat.le_refl _⟩
  clear hnew f1
  go_wp2_with fail
  generalize w.heap.size + 1 = b at *
  generalize hm0 : w.heap.size = m at R0
  have HM0 := Lib.hid hm0
  clear hm0
  go_loopw [22] (fun i wr => ∃ k : Nat, i = .int .i64 k ∧ k ≤ p ∧ Hid (AtRel w w A l k wr b m)) (fun i _ => p - (intOf i).toNat)
  case atStart => exact ⟨0, rfl, Nat.zero_le _, R0⟩
  case round =>
    clear R0
    obtain ⟨k, rfl, hk, R⟩ := hrel
    by_cases hlt : k < p
    · have hkl : k < l.length := by omega
      have hku : k < us.length := by omega
      have hck := HC.out us[k] (List.getElem_mem hku)
      have hcell : ∃ bb off, A = some ⟨bb, off, none⟩ ∧ wr.cell? ⟨bb, off + k * 2, none⟩ = some (.int .i64 us[k].r.p) ∧ wr.cell? ⟨bb, off + k * 2 + 1, none⟩ = some (.slice us[k].A us[k].r.cs.length us[k].cap) := by
        obtain ⟨bb, off, e, hbb, hc⟩ := HAT.out (by omega)
        refine ⟨bb, off, e, ?_, ?_⟩
        · rw [R.out.fr.cell (p := ⟨bb, off + k * 2, none⟩) hbb (by simp)]
          exact hc k hku 0 (by decide)
        · rw [R.out.fr.cell (p := ⟨bb, off + k * 2 + 1, none⟩) hbb (by simp)]
          exact hc k hku 1 (by decide)
      have hlk : us[k].r = l[k] := by subst hus; simp
      have hfit := Lib.hid (HOK.out k hkl hlt)
      have htk : Hid (Lg.run (l.take (k + 1)) = Sm.apply (Lg.run (l.take k)) l[k]) := Lib.hid (by rw [List.take_succ_eq_append_getElem hkl, Lg.run_snoc])
      rw [hlk] at hck hcell
      obtain ⟨bb, off, hA, hc0, hc1⟩ := hcell
      subst hA
      have hcode : Hid (Sm.code (Lg.run (l.take k)) l[k] = 0) := Lib.hid (Lg.code_zero.2 hfit.out)
      have HCK := Lib.hid hck
      clear hck hlk
      generalize us[k].A = Ak at *
      generalize us[k].cap = ck at *
      generalize l[k] = rk at *
      have F1 : Fr [] wr (wr.alloc (.cells #[.int .i64 rk.p, .slice Ak rk.cs.length ck] 41)) := (Fr.refl _ _).alloc _
      have hap := Lib.hid (sapply_any b m (Lg.run (l.take k)) rk Ak ck _ (R.out.st.fr0 F1) (HCK.out.1.fr (R.out.fr.trans F1) NoC.nil) (Nat.le_trans HCK.out.2 (by decide)))
      go_wp2_with fail
      refine hap.out.mono ?_
      rintro e w2 ⟨rfl, hst, hf⟩
      rw [hcode.out]
      have R2 : Hid (AtRel w w (some ⟨bb, off, none⟩) l (k + 1) w2 b m) := Lib.hid ⟨by rw [htk.out]; exact hst, (R.out.fr.trans F1).trans' hf (fun i hi => .inr (by
        have h1 := R.out.hb
        have h2 := R.out.hm
        simp only [List.mem_cons, List.not_mem_nil, or_false] at hi
        rcases hi with rfl | rfl <;> omega)), R.out.hb, R.out.hm⟩
      clear hst hf hap F1
      go_wp2_with fail
      go_roundw
      case rel => exact ⟨k + 1, by go_num, by omega, R2⟩
      case measure => simp [intOf]; omega
    · have hkp : k = p := by omega
      subst hkp
      go_wp2_with fail
      go_ret2
      exact ⟨b, m, rfl, R.out.st, R.out.fr, R.out.hb, R.out.hm⟩

theorem sat_bad (A : Option Addr) (n cap : Nat) (p : Int) (w : World) (_hn : n ≤ maxLen) (hp : p < 0 ∨ n < p) :
    Calls Tryz.prog 22 #[.slice A n cap, .int .i64 p] w fun e w' => e = .returned (.tuple #[.pointer none, .int .i64 40]) ∧ w = w' := by
  by_cases h : p < 0
  · go_enter Tryz.func22, Tryz.ntmps22
    go_wp2
    go_ret2
    exact ⟨rfl, rfl⟩
  · have h2 : (n : Int) < p := by omega
    go_enter Tryz.func22, Tryz.ntmps22
    go_wp2
    go_ret2
    exact ⟨rfl, rfl⟩
end Go.Proofs.YtjiikpmkedkbkaaGreat
namespace Go.Proofs.YtjiikpmkedkbkaaGreat
namespace Lg

theorem run_ok (l : List Rec) : Sm.Ok (run l) := by
  have key : ∀ (l : List Rec) (s : Sm.Sta), Sm.Ok s → Sm.Ok (l.foldl Sm.apply s) := by
    intro l
    induction l with
    | nil => exact fun s h => h
    | cons r l ih => exact fun s h => ih _ (h.applied r)
  exact key l _ Sm.ok_new
theorem run_succ (l : List Rec) {i : Nat} (hi : i < l.length) : run (l.take (i + 1)) = Sm.apply (run (l.take i)) l[i] := by
  rw [List.take_succ_eq_append_getElem hi, run_snoc]
theorem fits_pos {s : Sm.Sta} {r : Rec} (h : Sm.fits s r = true) : r.p = s.pos + 1 ∧ Sm.apply s r = ⟨r.cs.foldl Sm.put1 s.M, r.p⟩ := by
  refine ⟨?_, by unfold Sm.apply; rw [if_pos h]⟩
  simp only [Sm.fits, Bool.and_eq_true, decide_eq_true_eq] at h
  exact h.1.2
theorem Ok.pos {l : List Rec} (h : Ok l) : ∀ i, i ≤ l.length → (run (l.take i)).pos = i
  | 0, _ => rfl
  | i + 1, hi => by
    have hf := h.fits i (by omega)
    obtain ⟨h1, h2⟩ := fits_pos hf
    rw [run_succ l (by omega), h2]
    dsimp only
    rw [h1, h.pos i (by omega)]
    omega
theorem Ok.at_ {l : List Rec} (h : Ok l) {i : Nat} (hi : i < l.length) : l[i].p = i + 1 := by
  rw [(fits_pos (h.fits i hi)).1, h.pos i (by omega)]
theorem Ok.valid {l : List Rec} (h : Ok l) {i : Nat} (hi : i < l.length) : Rw.valid l[i] = true := by
  have hf := h.fits i hi
  simp only [Sm.fits, Bool.and_eq_true, decide_eq_true_eq] at hf
  exact hf.1.1
theorem run_all (l : List Rec) : run (l.take l.length) = run l := by rw [List.take_length]
end Lg
theorem OwnR.cap {w : World} {A : Option Addr} {cap : Nat} {out : List Rec} (h : OwnR w (.slice A out.length cap) out) : out.length ≤ cap := by
  obtain ⟨us, h1, h2, _⟩ := h
  have hl : out.length = us.length := by rw [← h2, List.length_map]
  rw [hl] at h1 ⊢
  exact own_cap2 h1
theorem RecsAt.open_ {w : World} {A : Option Addr} {l : List Rec} (h : RecsAt w A l) {k : Nat} (hk : k < l.length) :
    ∃ bb off Ak ck, A = some ⟨bb, off, none⟩ ∧ bb < w.heap.size ∧ w.cell? ⟨bb, off + k * 2, none⟩ = some (.int .i64 l[k].p) ∧ w.cell? ⟨bb, off + k * 2 + 1, none⟩ = some (.slice Ak l[k].cs.length ck) ∧ HoldsC w Ak l[k].cs ∧ l[k].cs.length ≤ 8 := by
  obtain ⟨us, hat, hus, hhc⟩ := h
  subst hus
  have hku : k < us.length := by simpa using hk
  obtain ⟨bb, off, e, hbb, hc⟩ := hat (by omega)
  obtain ⟨h1, h2⟩ := hhc us[k] (List.getElem_mem hku)
  have e1 : (us.map (·.r))[k]'hk = us[k].r := by simp
  rw [e1]
  exact ⟨bb, off, us[k].A, us[k].cap, e, hbb, hc k hku 0 (by decide), hc k hku 1 (by decide), h1, h2⟩
/-- The same, and what the slice may hold. -/
theorem RecsAt.openC {w : World} {A : Option Addr} {l : List Rec} (h : RecsAt w A l) {k : Nat} (hk : k < l.length) :
    ∃ bb off Ak ck, A = some ⟨bb, off, none⟩ ∧ bb < w.heap.size ∧ w.cell? ⟨bb, off + k * 2, none⟩ = some (.int .i64 l[k].p) ∧ w.cell? ⟨bb, off + k * 2 + 1, none⟩ = some (.slice Ak l[k].cs.length ck) ∧ HoldsC w Ak l[k].cs ∧ l[k].cs.length ≤ 8 ∧ l[k].cs.length ≤ ck := by
  obtain ⟨us, hat, hus, hhc⟩ := h
  subst hus
  have hku : k < us.length := by simpa using hk
  obtain ⟨bb, off, e, hbb, hc⟩ := hat (by omega)
  obtain ⟨h1, h2⟩ := hhc us[k] (List.getElem_mem hku)
  have e1 : (us.map (·.r))[k]'hk = us[k].r := by simp
  rw [e1]
  exact ⟨bb, off, us[k].A, us[k].cap, e, hbb, hc k hku 0 (by decide), hc k hku 1 (by decide), h1, h2, us[k].le⟩
theorem sapply_n (b m : Nat) (s : Sm.Sta) (r : Rec) (A : Option Addr) (n cap : Nat) (p : Int) (w : World) (h : StaAt w b m s) (hc : HoldsC w A r.cs) (hlen : r.cs.length ≤ 8) (hn : n = r.cs.length) (hp : p = r.p) :
    Calls Tryz.prog 13 #[.pointer (some ⟨b, 0, none⟩), .agg #[.int .i64 p, .slice A n cap]] w fun e w' => e = .returned (.int .i64 (Sm.code s r)) ∧ StaAt w' b m (Sm.apply s r) ∧ Fr [b, m] w w' := by
  subst hn
  subst hp
  exact sapply_any b m s r A cap w h hc (Nat.le_trans hlen (by decide))
end Go.Proofs.YtjiikpmkedkbkaaGreat
namespace Go.Proofs.YtjiikpmkedkbkaaGreat
open Go.RowKit

theorem infoChg : (Tryz.prog.info? 45).map (fun i => (i.zero, i.size, i.bytes)) = some (some (.agg #[.int .i64 0, .int .i64 0, .bool false, .int .i64 0, .int .i64 0, .int .i64 0, .bool false, .int .i64 0, .int .i64 0, .int .i64 0]), 10, 80) := by kernel_rfl
theorem etChg : ∃ i0, ET Tryz.prog 39 45 10 80 i0 (.agg #[.int .i64 0, .int .i64 0, .bool false, .int .i64 0, .int .i64 0, .int .i64 0, .bool false, .int .i64 0, .int .i64 0, .int .i64 0]) := by
  obtain ⟨i0, hi, hz0, hz1, hz2⟩ := info_parts infoChg
  exact ⟨i0, Tryz.underlying39, hi, hz0, hz1, hz2, rfl, by decide⟩
theorem infoRec : (Tryz.prog.info? 41).map (fun i => (i.zero, i.size, i.bytes)) = some (some (.agg #[.int .i64 0, .slice none 0 0]), 2, 32) := by kernel_rfl
theorem etRec : ∃ i0, ET Tryz.prog 25 41 2 32 i0 (.agg #[.int .i64 0, .slice none 0 0]) := by
  obtain ⟨i0, hi, hz0, hz1, hz2⟩ := info_parts infoRec
  exact ⟨i0, Tryz.underlying25, hi, hz0, hz1, hz2, rfl, by decide⟩

theorem got_shape (o : Option RowV) : ∃ (a b x y z : Int) (had : Bool), gotVal o = .tuple #[.agg #[.int .i64 a, .int .i64 b, .int .i64 x, .int .i64 y, .int .i64 z], .bool had] := by
  cases o with
  | none => exact ⟨0, 0, 0, 0, 0, false, rfl⟩
  | some r => exact ⟨r.t, r.k, r.x, r.y, r.z, true, rfl⟩

theorem OwnL.holdsC {w : World} {A : Option Addr} {n cap : Nat} {cs : List Chg} (h : OwnL 45 10 Chg.cells w (.slice A n cap) cs) : HoldsC w A cs := by
  refine ⟨(h.at1 Chg.len).1, fun hl ad e => ?_⟩
  rcases h.2 with ⟨hv, _⟩ | ⟨g', cap', cur, hv, _, hh, _⟩
  · cases hv
    cases e
  · cases hv
    cases e
    exact ⟨_, _, hh⟩

theorem OwnL.ne2 {X Y : Type} {e size e' size' : Nat} {enc : X → List Value} {enc' : Y → List Value} {w : World} {v v' : Value} {L : List X} {L' : List Y} (h : OwnL e size enc w v L) (h' : OwnL e' size' enc' w v' L') (hne : e ≠ e') {g : Nat} (hg : v.ownBlock = some g) : v'.ownBlock ≠ some g := by
  intro hg'
  rcases h'.2 with ⟨rfl, _⟩ | ⟨g', cap, cur, rfl, _, hh, _⟩
  · simp [Value.ownBlock] at hg'
  · simp [Value.ownBlock] at hg'
    subst hg'
    exact h.ne (b := g') hh hne hg rfl

theorem OwnL.noC {X : Type} {e size : Nat} {enc : X → List Value} {w : World} {v : Value} {L : List X} (h : OwnL e size enc w v L) (hne : e ≠ 45) : NoC w v.ownBlock.toList := by
  intro s hs arr fz hh'
  rcases h.2 with ⟨rfl, _⟩ | ⟨g', cap, cur, rfl, _, hh, _⟩
  · simp [Value.ownBlock] at hs
  · simp [Value.ownBlock] at hs
    subst hs
    exact noC_blk (show Blk w _ e cur from hh) hne arr fz hh'
end Go.Proofs.YtjiikpmkedkbkaaGreat

/-
  GapMissing holds: the missing spans are just the positions that have not been received.
-/
import Derived.Test.YtlolinaggobbdaaGapQ
import Derived.Test.YtlolinaggobbdaaGapFar
import Derived.Test.YtlolinaggobbdaaArr
import Derived.Deep.OwnRows
import Derived.IntWalk
import Derived.Deep.CutBlock
namespace Go.Proofs.Ytlolinaggobbdaa
open Go.RowKit Go.WideShapes Go.ChangeShapes

/-- The positions that wait, by the array of truth values. -/
def SG (p : Int) (G : Nat → Bool) (q : Int) : Prop := p + 1 ≤ q ∧ q ≤ p + 100 ∧ G (q - p).toNat = true
def GB (G : Nat → Bool) : Array Value := arr 101 (fun j => .bool (G j))
def setG (G : Nat → Bool) (n : Nat) : Nat → Bool := fun j => if j = n then true else G j
theorem GB_set (G : Nat → Bool) (n : Nat) : (GB G).setIfInBounds n (.bool true) = GB (setG G n) := by
  unfold GB setG
  rw [arr_set]
  refine arr_congr fun i _ => ?_
  split <;> rfl
theorem GB_get {G : Nat → Bool} {n : Nat} (h : n < 101) : (GB G)[n]? = some (.bool (G n)) := arr_get h

theorem SG_set {p : Int} {G : Nat → Bool} {N : Nat} (h1 : 1 ≤ N) (h2 : N ≤ 100) (q : Int) : (SG p G q ∨ q = p + N) ↔ SG p (setG G N) q := by
  unfold SG setG
  constructor
  · rintro (⟨a, b, c⟩ | rfl)
    · refine ⟨a, b, ?_⟩
      split
      · rfl
      · exact c
    · refine ⟨by omega, by omega, ?_⟩
      rw [if_pos (by omega)]
  · rintro ⟨a, b, c⟩
    split at c
    · right; omega
    · exact .inl ⟨a, b, c⟩
theorem SG_set_in {p : Int} {G : Nat → Bool} {N : Nat} (h1 : 1 ≤ N) (h2 : N ≤ 100) (hg : G N = true) (q : Int) : SG p G q ↔ SG p (setG G N) q := by
  rw [← SG_set h1 h2]
  constructor
  · exact .inl
  · rintro (h | rfl)
    · exact h
    · exact ⟨by omega, by omega, by rw [show (p + (N : Int) - p).toNat = N by omega]; exact hg⟩
theorem noC_got {w : World} {g : Nat} {G : Nat → Bool} (h : Blk w g 4 (GB G)) : NoC w [g] := NoC.cons (noC_blk h (by decide)) NoC.nil

/-- The law's memory. -/
structure MsAt (W : World) (b m g : Nat) (p H : Int) (G : Nat → Bool) (S : Int → Prop) (c : Gm.Rcv) (wr : World) : Prop where
  rcv : RcvAt wr b m c
  is : Gm.Is c S
  pos : c.pos = p
  high : c.high = H
  got : Blk wr g 4 (GB G)
  fr : Fr [] W wr

def encI (x : Int) : List Value := [.int .i64 x]
theorem encI_len (x : Int) : (encI x).length = 1 := rfl
theorem encI_one (x : Int) : ∀ u ∈ encI x, u.oneCell' = true := by
  intro u hu
  simp only [encI, List.mem_cons, List.not_mem_nil, or_false] at hu
  subst hu
  rfl
theorem etI : ∃ i z, ET Try.prog 22 3 1 8 i z := by
  have h : (Try.prog.info? 3).map (fun i => (i.zero, i.size, i.bytes)) = some (some (.int .i64 0), 1, 8) := by kernel_rfl
  obtain ⟨i0, hi, hz0, hz1, hz2⟩ := info_parts h
  exact ⟨i0, _, Try.underlying22, hi, hz0, hz1, hz2, rfl, by decide⟩

/-- The law's memory while the missing positions are gathered: those of T so far. -/
structure Ms (W : World) (b m g : Nat) (p : Int) (K : Nat) (G : Nat → Bool) (c : Gm.Rcv) (A5 : Option Addr) (cap5 : Nat) (l : List (Int × Int)) (T : Int → Prop) (ms : List Int) (v : Value) (G' : Nat → Bool) (wr : World) : Prop where
  mem0 : MsAt W b m g p (p + K) G' (SG p G) c wr
  sp : OwnL 42 2 encS wr (.slice A5 l.length cap5) l
  row : OwnL 3 1 encI wr v ms
  new : ∀ g', v.ownBlock = some g' → W.heap.size ≤ g'
  gm : ∀ j : Nat, 1 ≤ j → j ≤ 100 → (G' j = true ↔ G j = true ∨ (p + j : Int) ∈ ms)
  mem : ∀ q, q ∈ ms ↔ T q
  asc : ms.Pairwise (· < ·)
  rng : ∀ q ∈ ms, p < q ∧ q ≤ p + K
theorem Ms.congr {W : World} {b m g : Nat} {p : Int} {K : Nat} {G : Nat → Bool} {c : Gm.Rcv} {A5 : Option Addr} {cap5 : Nat} {l : List (Int × Int)} {T T' : Int → Prop} {ms : List Int} {v : Value} {G' : Nat → Bool} {wr : World} (h : Ms W b m g p K G c A5 cap5 l T ms v G' wr) (ht : ∀ q, T q ↔ T' q) : Ms W b m g p K G c A5 cap5 l T' ms v G' wr :=
  ⟨h.mem0, h.sp, h.row, h.new, h.gm, fun q => (h.mem q).trans (ht q), h.asc, h.rng⟩
theorem Ms.drewN {W : World} {b m g : Nat} {p : Int} {K : Nat} {G : Nat → Bool} {c : Gm.Rcv} {A5 : Option Addr} {cap5 : Nat} {l : List (Int × Int)} {T : Int → Prop} {ms : List Int} {v : Value} {G' : Nat → Bool} {wr : World} (h : Ms W b m g p K G c A5 cap5 l T ms v G' wr) (n : Nat) : Ms W b m g p K G c A5 cap5 l T ms v G' (wr.drewN n) :=
  have hf : Fr [] wr (wr.drewN n) := (Fr.refl _ _).drewN _
  ⟨⟨h.mem0.rcv.fr0 hf, h.mem0.is, h.mem0.pos, h.mem0.high, h.mem0.got.fr hf (by simp), h.mem0.fr.trans hf⟩, h.sp.keep0 hf, h.row.keep0 hf, h.new, h.gm, h.mem, h.asc, h.rng⟩
theorem OwnL.apart {X Y : Type} {e e' size size' : Nat} {enc : X → List Value} {enc' : Y → List Value} {w : World} {v v' : Value} {L : List X} {L' : List Y} (h : OwnL e size enc w v L) (h' : OwnL e' size' enc' w v' L') (hne : e ≠ e') {g g' : Nat}
    (hg : v.ownBlock = some g) (hg' : v'.ownBlock = some g') : g ≠ g' := by
  rcases h'.2 with ⟨e1, _⟩ | ⟨g2, cap, cur, e1, _, hh, _⟩
  · rw [e1] at hg'; simp [Value.ownBlock] at hg'
  · rw [e1] at hg'
    simp [Value.ownBlock] at hg'
    subst hg'
    exact h.ne (b := g2) (tt := e') (cs := cur) hh hne hg
/-- One more position. -/
theorem Ms.push {W : World} {b m g : Nat} {p : Int} {K : Nat} {G : Nat → Bool} {c : Gm.Rcv} {A5 : Option Addr} {cap5 : Nat} {l : List (Int × Int)} {T : Int → Prop} {ms : List Int} {v : Value} {G' : Nat → Bool} {wr : World} (h : Ms W b m g p K G c A5 cap5 l T ms v G' wr)
    {N : Nat} (h1 : 1 ≤ N) (hNK : N ≤ K) (hlt : ∀ q, T q → q < p + N) (hgw : W.heap.size ≤ g) (hgb : g ∉ [b, m]) {o : Obj} {v5 : Value} {w5 : World}
    (hown5 : OwnL 3 1 encI w5 v5 (ms ++ [p + (N : Int)])) (hg5 : ((wr.setCell ⟨g, N, none⟩ (.bool true)).alloc o).grownBy w5 v.ownBlock) (hat5 : v5.ownBlock = v.ownBlock ∨ v5.ownBlock = some ((wr.setCell ⟨g, N, none⟩ (.bool true)).alloc o).heap.size) :
    Ms W b m g p K G c A5 cap5 l (fun q => T q ∨ q = p + N) (ms ++ [p + (N : Int)]) v5 (setG G' N) w5 := by
  have f1 : Fr [g] wr ((wr.setCell ⟨g, N, none⟩ (.bool true)).alloc o) := ((Fr.refl _ _).setCell (.inl (by simp)) _).alloc _
  have n1 := noC_got h.mem0.got
  have hb : b ∉ [g] := fun hm => hgb (by simp at hm; simp [hm])
  have hm' : m ∉ [g] := fun hm => hgb (by simp at hm; simp [hm])
  have hrow := h.row.fr f1 (fun g' hg' => by simpa using h.row.ne h.mem0.got (by decide) hg')
  have hsp := h.sp.fr f1 (fun g' hg' => by simpa using h.sp.ne h.mem0.got (by decide) hg')
  have hgot : Blk ((wr.setCell ⟨g, N, none⟩ (.bool true)).alloc o) g 4 (GB (setG G' N)) := by
    have := (h.mem0.got.set_ N (.bool true)).alloc o
    rwa [GB_set] at this
  have hrcv := h.mem0.rcv.fr f1 hb hm' n1
  have F1 : Fr [] W ((wr.setCell ⟨g, N, none⟩ (.bool true)).alloc o) := h.mem0.fr.trans' f1 (by simpa using hgw)
  have f5 := grown_fr hg5
  refine ⟨⟨hrcv.past_row hrow (by decide) (by decide) f5, h.mem0.is, h.mem0.pos, h.mem0.high, hgot.fr f5 (fun hx => hrow.ne hgot (by decide) (Option.mem_toList.1 hx) rfl), F1.trans' f5 (fun i hi => .inr (h.new i (Option.mem_toList.1 hi)))⟩,
    hsp.fr f5 (fun g' hg' hx => hsp.apart hrow (by decide) hg' (Option.mem_toList.1 hx) rfl), hown5, fun g' hg' => ?_, fun j hj1 hj2 => ?_, fun q => ?_, ?_, fun q hq => ?_⟩
  · rcases hat5 with h2 | h2
    · rw [h2] at hg'; exact h.new g' hg'
    · rw [h2] at hg'
      have := F1.size
      injection hg' with hg'
      omega
  · have h2 := h.gm j hj1 hj2
    unfold setG
    by_cases hj : j = N
    · subst hj
      simp
    · rw [if_neg hj, h2]
      constructor
      · rintro (h3 | h3)
        · exact .inl h3
        · exact .inr (by simp [h3])
      · rintro (h3 | h3)
        · exact .inl h3
        · rcases List.mem_append.1 h3 with h4 | h4
          · exact .inr h4
          · simp at h4; omega
  · rw [List.mem_append, h.mem q]
    simp
  · rw [List.pairwise_append]
    refine ⟨h.asc, by simp, fun a ha d hd => ?_⟩
    have := hlt a ((h.mem a).1 ha)
    simp at hd
    omega
  · rcases List.mem_append.1 hq with h3 | h3
    · exact h.rng q h3
    · simp at h3
      omega

/-- The spans below the i-th. -/
def Below_i (l : List (Int × Int)) (i : Nat) (q : Int) : Prop := ∃ i', ∃ h : i' < l.length, i' < i ∧ l[i'].1 ≤ q ∧ q ≤ l[i'].2

/-- The law's memory while the missing records are received, from behind: those from the j-th on. -/
structure Mr (W : World) (b m : Nat) (p : Int) (K : Nat) (G : Nat → Bool) (ms : List Int) (v : Value) (j : Nat) (c : Gm.Rcv) (wr : World) : Prop where
  rcv : RcvAt wr b m c
  is : Gm.Is c (fun q => SG p G q ∨ q ∈ ms.drop j)
  pos : c.pos = p
  high : c.high = p + K
  row : OwnL 3 1 encI wr v ms
  fr : Fr [] W wr

set_option maxRecDepth 100000 in
set_option maxHeartbeats 4000000 in
theorem missing_walk (x0 : Int) (A1 : Option Addr) (n1 cap1 : Nat) (xs : List Int) (x2 : Int) (W : World) (wx0 : okI x0)
    (hn1 : xs.length = n1) (hmax1 : n1 ≤ maxLen) (hx1 : n1 = 0 ∨ ∃ b off, A1 = some ⟨b, off, none⟩ ∧ IntsAt W b off xs) (wx2 : okI x2) :
    Calls Try.prog 4 #[.int .i64 x0, .slice A1 n1 cap1, .int .i64 x2] W fun e W' => e = .returned (.bool true) ∧ Below W.heap.size W W' := by
  unfold maxLen at hmax1
  have hb0 := okI_bounds wx0
  have hb2 := okI_bounds wx2
  have hp1 := pickI_nonneg x0 (n := 9001) (by decide)
  have hp2 := pickI_lt x0 (n := 9001) (by decide)
  have HN1 := Lib.hid hn1
  have HX1 := Lib.hid hx1
  clear hn1 hx1
  obtain ⟨iI, zI, TI⟩ := etI
  have hmk : ∀ w : World, (Instr.makeSlice 23 (.int .i64 101) (.int .i64 101)).run Try.prog w = .ok (.slice (some ⟨w.heap.size, 0, none⟩) 101 101) (w.alloc (.cells (GB (fun _ => false)) 4)) := fun w => by
    have := Go.run_make_row' (P := Try.prog) 23 4 (.bool false) 1 Try.underlying23 (by kernel_rfl) rfl .i64 .i64 101 (by decide) (by decide) w
    rw [made_arr] at this
    exact this
  go_enter Try.func4, Try.ntmps4
  go_wp2_with fail
  refine (sane_any _).mono ?_
  rintro e w1 ⟨rfl, f1⟩
  go_wp2_with fail
  refine (pick_any x0 9001 _ hb0.1 hb0.2 (by decide) (by decide)).mono ?_
  rintro e w' ⟨rfl, rfl⟩
  generalize pickI x0 9001 = p at *
  go_wp2_with fail
  refine (gnew_any p _ (by omega) (by omega)).mono ?_
  rintro e w2 ⟨rfl, h2, f2⟩
  have hmb : ∀ i ∈ [w1.heap.size + 1, w1.heap.size], i ∈ ([] : List Nat) ∨ W.heap.size ≤ i := by have := f1.size; simp; omega
  have F2 := f1.trans f2
  have is2 : Gm.Is (Gm.new p) (SG p (fun _ => false)) := (Gm.is_new p).congr (fun q => ⟨fun h => h.elim, fun h => by have := h.2.2; simp at this⟩)
  have hc2 : (Gm.new p).pos = p ∧ (Gm.new p).high = p := ⟨rfl, rfl⟩
  generalize Gm.new p = c0 at *
  generalize w1.heap.size + 1 = b at *
  generalize w1.heap.size = m at *
  have HMB := Lib.hid hmb
  have HC2 := Lib.hid hc2
  clear f1 f2 wx0 hb0 wx2 hmb hc2
  go_upto_region 7 with (fail)
  have R0 : MsAt W b m w2.heap.size p p (fun _ => false) (SG p (fun _ => false)) c0 (w2.alloc (.cells (GB (fun _ => false)) 4)) :=
    ⟨h2.fr0 ((Fr.refl _ _).alloc _), is2, HC2.out.1, HC2.out.2, Blk.new _ _ _, F2.alloc _⟩
  have hgw : W.heap.size ≤ w2.heap.size := F2.size
  have hgb : w2.heap.size ∉ [b, m] := by obtain ⟨a1, a2⟩ := h2.lt; simp; omega
  generalize w2.alloc (.cells (GB (fun _ => false)) 4) = w3 at R0 ⊢
  generalize w2.heap.size = g at *
  clear hmk h2 F2 is2 HC2
  go_upto_block 0 with (fail)
  go_cut [11] (fun hv wc => ∃ (H : Int) (G : Nat → Bool) (c : Gm.Rcv), (hv = .int .i64 H ∧ p ≤ H ∧ H ≤ p + 100) ∧ MsAt W b m g p H G (SG p G) c wc)
  case first =>
    go_wp2_with fail
    go_loopw [11, 12] (fun hv i wr => ∃ (k : Nat) (H : Int) (G : Nat → Bool) (c : Gm.Rcv), (k ≤ n1 ∧ k ≤ 100 ∧ i = .int .i64 k ∧ hv = .int .i64 H ∧ p ≤ H ∧ H ≤ p + 100) ∧ MsAt W b m g p H G (SG p G) c wr) (fun _ i _ => n1 - (intOf i).toNat)
    case atStart => exact ⟨0, p, _, c0, ⟨Nat.zero_le _, Nat.zero_le _, rfl, rfl, by omega, by omega⟩, R0⟩
    case round =>
      clear R0
      obtain ⟨k, H, G, c, ⟨hk, hk100, rfl, rfl, hH1, hH2⟩, R⟩ := hrel
      by_cases hlt : k < n1 ∧ k < 100
      · obtain ⟨hlt1, hlt2⟩ := hlt
        obtain ⟨b1, o1, e1, hxa⟩ : ∃ b off, A1 = some ⟨b, off, none⟩ ∧ IntsAt W b off xs := by
          rcases HX1.out with h | h
          · omega
          · exact h
        subst e1
        have hc := (hxa.fr R.fr).cell k (by rw [HN1.out]; exact hlt1)
        have hwx := okI_bounds (hxa.wf _ (List.getElem_mem (by rw [HN1.out]; exact hlt1)))
        generalize xs[k]'(by rw [HN1.out]; exact hlt1) = x at hc hwx
        go_wp2_with fail
        refine (pick_any x 100 _ hwx.1 hwx.2 (by decide) (by decide)).mono ?_
        rintro e w' ⟨rfl, rfl⟩
        have hq1 := pickI_nonneg x (n := 100) (by decide)
        have hq2 := pickI_lt x (n := 100) (by decide)
        generalize pickI x 100 = q at *
        go_wp2_with fail
        obtain ⟨N, hN⟩ : ∃ N : Nat, 1 + q = N := ⟨(1 + q).toNat, by omega⟩
        rw [hN]
        have hN1 : 1 ≤ N := by omega
        have hN2 : N ≤ 100 := by omega
        have hi1 : (0 : Int) ≤ (N : Int) := by omega
        have hi2 : (N : Int) < 101 := by omega
        have hlg := R.got.lt
        have c0 : wr.cell? ⟨g, N, none⟩ = some (.bool (G N)) := (R.got.cell N).trans (GB_get (by omega))
        have hrd := R.rcv.fr0 (Fr.refl [] wr).drew
        have hpos := R.pos
        have hhigh := R.high
        have hw1 : IntKind.i64.wrap (p + (N : Int)) = p + N := IntWalk.i64_in _ (by omega)
        clear hq1 hq2 hN hc hwx
        have hpn : (p + (N : Int) - p).toNat = N := by omega
        have HPN := Lib.hid hpn
        clear hpn
        cases hg : G N
        · rw [hg] at c0
          go_region_held3 (fun w' => w'.cell? ⟨g, N, none⟩ = some (.bool false))
            (first | go_keep | exact (hcc _ _ hlg).trans c0 | exact (f5.cell (p := ⟨g, N, none⟩) (Nat.lt_of_lt_of_le hlg f4.size) hgb).trans ((hcc _ _ hlg).trans c0))
            (first
              | (go_at_call 10; refine (record_any (p + N) _).mono ?_; rintro e w4 ⟨rfl, hc4, f4⟩; obtain ⟨hcc, hff⟩ := f4.rules)
              | (go_at_call 9; refine (recv_yes b m c _ (p + N) _ _ (hrd.fr0 f4) R.is hc4 (by omega) (by omega) (by omega) (fun h => by have h2 := h.2.2; rw [HPN.out, hg] at h2; cases h2) (by omega)).mono ?_; rintro e w5 ⟨c5, rfl, h5, is5, ⟨ep, eh⟩, f5⟩))
          have F5 : Fr [] W w5 := (R.fr.trans ((Fr.refl [] _).drew.trans f4)).trans' f5 HMB.out
          have hg5 : Blk w5 g 4 (GB G) := (R.got.fr ((Fr.refl [] _).drew.trans f4) (by simp)).fr f5 hgb
          have is6 : Gm.Is c5 (SG p (setG G N)) := is5.congr (SG_set hN1 hN2)
          obtain ⟨H', hH'⟩ : ∃ H', (if H < p + (N : Int) then p + (N : Int) else H) = H' := ⟨_, rfl⟩
          have hb5 : p ≤ H' ∧ H' ≤ p + 100 := by rw [← hH']; split <;> omega
          have hh5 : c5.high = H' := by rw [eh, hhigh, ← hH']; rfl
          have hp5 : c5.pos = p := by rw [ep, hpos]
          have hf5 : Fr [g] w5 (w5.setCell ⟨g, N, none⟩ (.bool true)) := (Fr.refl _ _).setCell (.inl (by simp)) _
          have RR : MsAt W b m g p H' (setG G N) (SG p (setG G N)) c5 (w5.setCell ⟨g, N, none⟩ (.bool true)) :=
            ⟨h5.fr hf5 (fun hm => hgb (by simp at hm; simp [hm])) (fun hm => hgb (by simp at hm; simp [hm])) (noC_got hg5), is6, hp5, hh5, by rw [← GB_set]; exact hg5.set_ N _, F5.setCell (.inr (by simpa using hgw)) _⟩
          have cg : w5.cell? ⟨g, N, none⟩ = some (.bool (G N)) := (hg5.cell N).trans (GB_get (by omega))
          have zg := hg5.frozen N
          clear R hc4 f4 f5 h5 is5 is6 ep eh hh5 hp5 F5 hf5 hg5 hcc hff hrd c0 hpos hhigh
          go_wp2_with fail
          go_roundw
          case rel => exact ⟨k + 1, H', setG G N, c5, ⟨by omega, by omega, by go_num, rfl, hb5.1, hb5.2⟩, RR⟩
          case measure => simp [intOf]; omega
        · rw [hg] at c0
          go_region_held3 (fun w' => w'.cell? ⟨g, N, none⟩ = some (.bool true))
            (first | go_keep | exact (hcc _ _ hlg).trans c0 | exact (f5.cell (p := ⟨g, N, none⟩) (Nat.lt_of_lt_of_le hlg f4.size) hgb).trans ((hcc _ _ hlg).trans c0))
            (first
              | (go_at_call 10; refine (record_any (p + N) _).mono ?_; rintro e w4 ⟨rfl, hc4, f4⟩; obtain ⟨hcc, hff⟩ := f4.rules)
              | (go_at_call 9; refine (recv_no b m c _ (p + N) _ _ (hrd.fr0 f4) R.is hc4 (by omega) (by omega) (by omega) (.inl ⟨by omega, by omega, by rw [HPN.out]; exact hg⟩)).mono ?_; rintro e w5 ⟨c5, rfl, h5, is5, ⟨ep, eh⟩, f5⟩))
          have F5 : Fr [] W w5 := (R.fr.trans ((Fr.refl [] _).drew.trans f4)).trans' f5 HMB.out
          have hg5 : Blk w5 g 4 (GB G) := (R.got.fr ((Fr.refl [] _).drew.trans f4) (by simp)).fr f5 hgb
          have is6 : Gm.Is c5 (SG p (setG G N)) := is5.congr (SG_set_in hN1 hN2 hg)
          obtain ⟨H', hH'⟩ : ∃ H', (if H < p + (N : Int) then p + (N : Int) else H) = H' := ⟨_, rfl⟩
          have hb5 : p ≤ H' ∧ H' ≤ p + 100 := by rw [← hH']; split <;> omega
          have hh5 : c5.high = H' := by rw [eh, hhigh, ← hH']; rfl
          have hp5 : c5.pos = p := by rw [ep, hpos]
          have hf5 : Fr [g] w5 (w5.setCell ⟨g, N, none⟩ (.bool true)) := (Fr.refl _ _).setCell (.inl (by simp)) _
          have RR : MsAt W b m g p H' (setG G N) (SG p (setG G N)) c5 (w5.setCell ⟨g, N, none⟩ (.bool true)) :=
            ⟨h5.fr hf5 (fun hm => hgb (by simp at hm; simp [hm])) (fun hm => hgb (by simp at hm; simp [hm])) (noC_got hg5), is6, hp5, hh5, by rw [← GB_set]; exact hg5.set_ N _, F5.setCell (.inr (by simpa using hgw)) _⟩
          have cg : w5.cell? ⟨g, N, none⟩ = some (.bool (G N)) := (hg5.cell N).trans (GB_get (by omega))
          have zg := hg5.frozen N
          clear R hc4 f4 f5 h5 is5 is6 ep eh hh5 hp5 F5 hf5 hg5 hcc hff hrd c0 hpos hhigh
          go_wp2_with fail
          go_roundw
          case rel => exact ⟨k + 1, H', setG G N, c5, ⟨by omega, by omega, by go_num, rfl, hb5.1, hb5.2⟩, RR⟩
          case measure => simp [intOf]; omega
      · have RR : ∃ (H' : Int) (G : Nat → Bool) (c : Gm.Rcv), (Value.int .i64 H = .int .i64 H' ∧ p ≤ H' ∧ H' ≤ p + 100) ∧ MsAt W b m g p H' G (SG p G) c wr := ⟨H, G, c, ⟨rfl, hH1, hH2⟩, R⟩
        go_wp2_with fail
        all_goals
          go_meet
          case rel => exact RR
  case rest =>
    clear R0
    obtain ⟨H, G, c, ⟨rfl, hH1, hH2⟩, R⟩ := hcut
    have hq1 := pickI_nonneg x2 (n := 100) (by decide)
    have hq2 := pickI_lt x2 (n := 100) (by decide)
    go_wp2_with fail
    refine (pick_any x2 100 _ hb2.1 hb2.2 (by decide) (by decide)).mono ?_
    rintro e w' ⟨rfl, rfl⟩
    have HA := Lib.hid (show pickI x2 100 = pickI x2 100 from rfl)
    obtain ⟨a, ha⟩ : ∃ a, pickI x2 100 = a := ⟨_, rfl⟩
    rw [ha]
    rw [ha] at hq1 hq2
    have HPA := Lib.hid ha
    clear ha HA
    go_wp2_with fail
    refine (announce_any b m c (p + a) _ R.rcv).mono ?_
    rintro e w4 ⟨rfl, h4, f4⟩
    have hann : Gm.announce c (p + a) = { c with high := Gm.mx c.high (p + a) } := if_pos (by omega)
    rw [hann] at h4
    obtain ⟨H', hH'⟩ : ∃ H', (if H < p + a then p + a else H) = H' := ⟨_, rfl⟩
    have hb5 : p ≤ H' ∧ H' ≤ p + 100 := by rw [← hH']; split <;> omega
    have R4 : MsAt W b m g p H' G (SG p G) { c with high := Gm.mx c.high (p + a) } w4 :=
      ⟨h4, R.is, R.pos, by rw [R.high]; exact hH', R.got.fr f4 hgb, R.fr.trans' f4 HMB.out⟩
    generalize ({ c with high := Gm.mx c.high (p + a) } : Gm.Rcv) = c4 at *
    clear hann h4 f4 R
    go_wp2_with fail
    refine (pick_any x2 100 _ hb2.1 hb2.2 (by decide) (by decide)).mono ?_
    rintro e w' ⟨rfl, rfl⟩
    rw [HPA.out]
    go_wp2_with fail
    refine (missing_any b m c4 _ R4.rcv).mono ?_
    rintro e w5 ⟨v, ⟨rfl, hv⟩, f5⟩
    obtain ⟨K, hK⟩ : ∃ K : Nat, H' = p + K := ⟨(H' - p).toNat, by omega⟩
    have hK2 : (c4.high - c4.pos).toNat = K := by rw [R4.high, R4.pos]; omega
    rw [hK2, R4.pos] at hv
    have hsp := Gm.missing_spans R4.is p K
    have hml := Gm.missing_len c4.L p K
    generalize Gm.missing c4.L p K = l at *
    subst hK
    have R5 : MsAt W b m g p (p + K) G (SG p G) c4 w5 := ⟨R4.rcv.fr0 f5, R4.is, R4.pos, R4.high, R4.got.fr f5 (by simp), R4.fr.trans f5⟩
    clear R4 f5 hK2 hH' hb2 hq1 hq2
    obtain ⟨A5, cap5, e5⟩ := hv.val
    subst e5
    have hK100 : K ≤ 100 := by omega
    have M5 : Ms W b m g p K G c4 A5 cap5 l (Below_i l 0) [] (.slice none 0 0) G w5 := ⟨R5, hv, OwnL.nil, by simp [Value.ownBlock], fun j _ _ => by simp, fun q => by simp [Below_i], List.Pairwise.nil, by simp⟩
    clear R5 hv
    go_wp2_with fail
    go_loopw [15, 16] (fun mv i wr => ∃ (i' : Nat) (ms : List Int) (G' : Nat → Bool), (i' ≤ l.length ∧ i = .int .i64 i') ∧ Ms W b m g p K G c4 A5 cap5 l (Below_i l i') ms mv G' wr) (fun _ i _ => l.length - (intOf i).toNat)
    case atStart => exact ⟨0, [], G, ⟨Nat.zero_le _, rfl⟩, M5⟩
    case round =>
      clear M5
      obtain ⟨i, ms, G', ⟨hil, rfl⟩, M⟩ := hrel
      by_cases hlt : i < l.length
      · obtain ⟨b6, o6, e6, hb6, hc6⟩ := (M.sp.at1 encS_len).1 (by omega)
        subst e6
        obtain ⟨r1, r2, r3⟩ := hsp.rng i hlt
        obtain ⟨x, y, hxy⟩ : ∃ x y, l[i] = (x, y) := ⟨_, _, rfl⟩
        have c0 : wr.cell? ⟨b6, o6 + i * 2, none⟩ = some (.int .i64 l[i].1) := hc6 i hlt 0 (by decide)
        have c1 : wr.cell? ⟨b6, o6 + i * 2 + 1, none⟩ = some (.int .i64 l[i].2) := hc6 i hlt 1 (by decide)
        have hprev : i = 0 ∨ ∃ (h : 0 < i) (z : Int), wr.cell? ⟨b6, o6 + (i - 1) * 2 + 1, none⟩ = some (.int .i64 z) ∧ z + 1 < x ∧ p < z := by
          rcases Nat.eq_zero_or_pos i with h0 | h0
          · exact .inl h0
          · right
            have h1 := hsp.gap (i - 1) i (by omega) hlt (by omega)
            have h2 := hsp.rng (i - 1) (by omega)
            rw [hxy] at h1
            exact ⟨h0, _, hc6 (i - 1) (by omega) 1 (by decide), h1, by omega⟩
        rw [hxy] at r1 r2 r3 c0 c1
        dsimp only at r1 r2 r3 c0 c1
        have HXY := Lib.hid hxy
        clear hc6 hxy
        have d1 : decide (y < x) = false := by simpa using r2
        have d3 : decide (x ≤ p) = false := by simpa using r1
        have d4 : decide (p + K < y) = false := by simpa using r3
        have hi1 : (0 : Int) ≤ (i : Int) := by omega
        have hi2 : (i : Int) < (l.length : Int) := by omega
        rcases hprev with h0 | ⟨h0, z, hz, hzx, hpz⟩
        · have d2 : decide ((0 : Int) < (i : Int)) = false := by simp; omega
          have H0 := Lib.hid h0
          have hle : i ≤ 0 := by omega
          have d2' : decide (0 < i) = false := by simp; omega
          clear h0
          go_wp2_with fail
          go_quiet (fail)
          go_wp2_with fail
          have hx0 : p + ((x - p).toNat : Int) = x := by omega
          have MI : Ms W b m g p K G c4 (some ⟨b6, o6, none⟩) cap5 l (fun q => Below_i l i q ∨ (x ≤ q ∧ q < p + ((x - p).toNat : Int))) ms u15 G' (wr.drewN nq) := (M.drewN nq).congr (fun q => ⟨.inl, fun h => h.resolve_right (by omega)⟩)
          have HX0 := Lib.hid hx0
          clear hx0 M c0 c1 d1 d3 d4 d2 d2' hle
          go_loopw [15, 17] (fun mv nv wi => ∃ (N : Nat) (ms : List Int) (G' : Nat → Bool), (nv = .int .i64 (p + N) ∧ x ≤ p + N ∧ p + N ≤ y + 1) ∧ Ms W b m g p K G c4 (some ⟨b6, o6, none⟩) cap5 l (fun q => Below_i l i q ∨ (x ≤ q ∧ q < p + N)) ms mv G' wi) (fun _ nv _ => (20000 - intOf nv).toNat)
          case atStart => exact ⟨(x - p).toNat, ms, G', ⟨by rw [HX0.out], by omega, by omega⟩, MI⟩
          case round =>
            clear MI
            obtain ⟨N, ms, G', ⟨rfl, hN1, hN2⟩, M⟩ := hrel
            by_cases hle : p + (N : Int) ≤ y
            · obtain ⟨b7, o7, e7, hb7, hc7⟩ := (M.sp.at1 encS_len).1 (by omega)
              cases e7
              have c1 : wr.cell? ⟨b6, o6 + i * 2 + 1, none⟩ = some (.int .i64 l[i].2) := hc7 i hlt 1 (by decide)
              rw [HXY.out] at c1
              dsimp only at c1
              clear hc7
              have hnS : ¬ SG p G (p + N) := hsp.out i hlt (p + N) (by rw [HXY.out]; exact hN1) (by rw [HXY.out]; exact hle)
              have hpn : (p + (N : Int) - p).toNat = N := by omega
              have hGN : ¬ G N = true := fun h => hnS ⟨by omega, by omega, by rw [hpn]; exact h⟩
              have hbel : ∀ q, Below_i l i q → q < x := by
                rintro q ⟨i', hi', hlt', h1, h2⟩
                have h3 := hsp.gap i' i hi' hlt hlt'
                rw [HXY.out] at h3
                dsimp only at h3
                omega
              have hnm : (p + (N : Int)) ∉ ms := fun h => by
                rcases (M.mem _).1 h with h1 | h1
                · have := hbel _ h1; omega
                · omega
              have hG' : G' N = false := by
                cases hv : G' N
                · rfl
                · rcases (M.gm N (by omega) (by omega)).1 hv with h1 | h1
                  · exact absurd h1 hGN
                  · exact absurd h1 hnm
              have cg : wr.cell? ⟨g, N, none⟩ = some (.bool false) := (M.mem0.got.cell N).trans (by rw [GB_get (by omega), hG'])
              have zg := M.mem0.got.frozen N
              have hi1 : (0 : Int) ≤ (N : Int) := by omega
              have hi2 : (N : Int) < 101 := by omega
              have hsub : p + (N : Int) - p = N := by omega
              have fg : Fr [g] wr (wr.setCell ⟨g, N, none⟩ (.bool true)) := (Fr.refl _ _).setCell (.inl (by simp)) _
              have hrow1 := M.row.fr fg (fun g' hg' => by simpa using M.row.ne M.mem0.got (by decide) hg')
              have hrow2 := hrow1.keep0 ((Fr.refl _ _).alloc (.cells #[.int .i64 (p + N)] 3))
              have hmlen : ms.length ≤ 100 := length_le_of_nodup 100 ms p (M.asc.imp fun h => by omega) (fun q hq => by have := M.rng q hq; omega)
              have HSZ : Hid ((wr.setCell ⟨g, N, none⟩ (.bool true)).heap.size = wr.heap.size) := Lib.hid (by simp [World.setCell])
              have HM := Lib.hid M
              have HPN := Lib.hid hpn
              have HG := Lib.hid hG'
              clear M hpn hG' hnS
              go_wp2_with (at_builtin; refine wpList_appendL rfl _ _ rfl TI encI_len encI_one rfl hrow2 (wr.heap.size + 1) _ _ _ [p + (N : Int)] rfl rfl (by have := reads_new (enc := encI) (wr.setCell ⟨g, N, none⟩ (.bool true)) 3 (p + (N : Int)) rfl; rw [HSZ.out] at this; exact this) (by simp only [maxLen, List.length_singleton]; omega) (by simp only [List.length_singleton]; omega) ?_; intro v5 w5 hown5 hg5 hat5)
              have hM5 := HM.out.push (N := N) (by omega) (by omega) (fun q hq => by
                rcases hq with h1 | h1
                · have := hbel _ h1; omega
                · omega) hgw hgb hown5 hg5 hat5
              have hM6 := hM5.congr (T' := fun q => Below_i l i q ∨ (x ≤ q ∧ q < p + ((N + 1 : Nat) : Int))) (fun q => by
                constructor
                · rintro ((h1 | h1) | h1)
                  · exact .inl h1
                  · exact .inr (by omega)
                  · exact .inr (by omega)
                · rintro (h1 | h1)
                  · exact .inl (.inl h1)
                  · by_cases h2 : q = p + N
                    · exact .inr h2
                    · exact .inl (.inr (by omega)))
              go_roundw
              case rel => exact ⟨N + 1, _, _, ⟨by go_num, by omega, by omega⟩, hM6⟩
              case measure => simp [intOf]; omega
            · have hM6 := M.congr (T' := Below_i l (i + 1)) (fun q => by
                constructor
                · rintro (⟨i', hi', h1, h2⟩ | h1)
                  · exact ⟨i', hi', by omega, h2⟩
                  · exact ⟨i, hlt, by omega, by rw [HXY.out]; dsimp only; omega⟩
                · rintro ⟨i', hi', h1, h2⟩
                  by_cases h3 : i' = i
                  · subst h3
                    rw [HXY.out] at h2
                    dsimp only at h2
                    exact .inr (by omega)
                  · exact .inl ⟨i', hi', by omega, h2⟩)
              obtain ⟨b7, o7, e7, hb7, hc7⟩ := (M.sp.at1 encS_len).1 (by omega)
              cases e7
              have c1 : wr.cell? ⟨b6, o6 + i * 2 + 1, none⟩ = some (.int .i64 l[i].2) := hc7 i hlt 1 (by decide)
              rw [HXY.out] at c1
              dsimp only at c1
              clear hc7 M
              go_wp2_with fail
              go_roundw
              case rel => exact ⟨i + 1, ms, G', ⟨by omega, by go_num⟩, hM6⟩
              case measure => simp [intOf]; omega
        · have d2 : decide ((0 : Int) < (i : Int)) = true := by simp; omega
          have d5 : decide (x ≤ z + 1) = false := by simpa using hzx
          have w1 : IntKind.i64.wrap (z + 1) = z + 1 := IntWalk.i64_in _ (by omega)
          have w2 : IntKind.i64.wrap ((i : Int) - 1) = (i : Int) - 1 := IntWalk.i64_in _ (by omega)
          have w3 : (0 : Int) ≤ (i : Int) - 1 := by omega
          have w4 : ((i : Int) - 1).toNat = i - 1 := by omega
          have w5 : (i : Int) - 1 < (l.length : Int) := by omega
          go_wp2_with fail
          go_quiet (fail)
          go_wp2_with fail
          have hx0 : p + ((x - p).toNat : Int) = x := by omega
          have MI : Ms W b m g p K G c4 (some ⟨b6, o6, none⟩) cap5 l (fun q => Below_i l i q ∨ (x ≤ q ∧ q < p + ((x - p).toNat : Int))) ms u15 G' (wr.drewN nq) := (M.drewN nq).congr (fun q => ⟨.inl, fun h => h.resolve_right (by omega)⟩)
          have HX0 := Lib.hid hx0
          clear hx0 M c0 c1 d1 d3 d4 d2 d5 w1 w2 w3 w4 w5 hz
          go_loopw [15, 17] (fun mv nv wi => ∃ (N : Nat) (ms : List Int) (G' : Nat → Bool), (nv = .int .i64 (p + N) ∧ x ≤ p + N ∧ p + N ≤ y + 1) ∧ Ms W b m g p K G c4 (some ⟨b6, o6, none⟩) cap5 l (fun q => Below_i l i q ∨ (x ≤ q ∧ q < p + N)) ms mv G' wi) (fun _ nv _ => (20000 - intOf nv).toNat)
          case atStart => exact ⟨(x - p).toNat, ms, G', ⟨by rw [HX0.out], by omega, by omega⟩, MI⟩
          case round =>
            clear MI
            obtain ⟨N, ms, G', ⟨rfl, hN1, hN2⟩, M⟩ := hrel
            by_cases hle : p + (N : Int) ≤ y
            · obtain ⟨b7, o7, e7, hb7, hc7⟩ := (M.sp.at1 encS_len).1 (by omega)
              cases e7
              have c1 : wr.cell? ⟨b6, o6 + i * 2 + 1, none⟩ = some (.int .i64 l[i].2) := hc7 i hlt 1 (by decide)
              rw [HXY.out] at c1
              dsimp only at c1
              clear hc7
              have hnS : ¬ SG p G (p + N) := hsp.out i hlt (p + N) (by rw [HXY.out]; exact hN1) (by rw [HXY.out]; exact hle)
              have hpn : (p + (N : Int) - p).toNat = N := by omega
              have hGN : ¬ G N = true := fun h => hnS ⟨by omega, by omega, by rw [hpn]; exact h⟩
              have hbel : ∀ q, Below_i l i q → q < x := by
                rintro q ⟨i', hi', hlt', h1, h2⟩
                have h3 := hsp.gap i' i hi' hlt hlt'
                rw [HXY.out] at h3
                dsimp only at h3
                omega
              have hnm : (p + (N : Int)) ∉ ms := fun h => by
                rcases (M.mem _).1 h with h1 | h1
                · have := hbel _ h1; omega
                · omega
              have hG' : G' N = false := by
                cases hv : G' N
                · rfl
                · rcases (M.gm N (by omega) (by omega)).1 hv with h1 | h1
                  · exact absurd h1 hGN
                  · exact absurd h1 hnm
              have cg : wr.cell? ⟨g, N, none⟩ = some (.bool false) := (M.mem0.got.cell N).trans (by rw [GB_get (by omega), hG'])
              have zg := M.mem0.got.frozen N
              have hi1 : (0 : Int) ≤ (N : Int) := by omega
              have hi2 : (N : Int) < 101 := by omega
              have hsub : p + (N : Int) - p = N := by omega
              have fg : Fr [g] wr (wr.setCell ⟨g, N, none⟩ (.bool true)) := (Fr.refl _ _).setCell (.inl (by simp)) _
              have hrow1 := M.row.fr fg (fun g' hg' => by simpa using M.row.ne M.mem0.got (by decide) hg')
              have hrow2 := hrow1.keep0 ((Fr.refl _ _).alloc (.cells #[.int .i64 (p + N)] 3))
              have hmlen : ms.length ≤ 100 := length_le_of_nodup 100 ms p (M.asc.imp fun h => by omega) (fun q hq => by have := M.rng q hq; omega)
              have HSZ : Hid ((wr.setCell ⟨g, N, none⟩ (.bool true)).heap.size = wr.heap.size) := Lib.hid (by simp [World.setCell])
              have HM := Lib.hid M
              have HPN := Lib.hid hpn
              have HG := Lib.hid hG'
              clear M hpn hG' hnS
              go_wp2_with (at_builtin; refine wpList_appendL rfl _ _ rfl TI encI_len encI_one rfl hrow2 (wr.heap.size + 1) _ _ _ [p + (N : Int)] rfl rfl (by have := reads_new (enc := encI) (wr.setCell ⟨g, N, none⟩ (.bool true)) 3 (p + (N : Int)) rfl; rw [HSZ.out] at this; exact this) (by simp only [maxLen, List.length_singleton]; omega) (by simp only [List.length_singleton]; omega) ?_; intro v5 w5 hown5 hg5 hat5)
              have hM5 := HM.out.push (N := N) (by omega) (by omega) (fun q hq => by
                rcases hq with h1 | h1
                · have := hbel _ h1; omega
                · omega) hgw hgb hown5 hg5 hat5
              have hM6 := hM5.congr (T' := fun q => Below_i l i q ∨ (x ≤ q ∧ q < p + ((N + 1 : Nat) : Int))) (fun q => by
                constructor
                · rintro ((h1 | h1) | h1)
                  · exact .inl h1
                  · exact .inr (by omega)
                  · exact .inr (by omega)
                · rintro (h1 | h1)
                  · exact .inl (.inl h1)
                  · by_cases h2 : q = p + N
                    · exact .inr h2
                    · exact .inl (.inr (by omega)))
              go_roundw
              case rel => exact ⟨N + 1, _, _, ⟨by go_num, by omega, by omega⟩, hM6⟩
              case measure => simp [intOf]; omega
            · have hM6 := M.congr (T' := Below_i l (i + 1)) (fun q => by
                constructor
                · rintro (⟨i', hi', h1, h2⟩ | h1)
                  · exact ⟨i', hi', by omega, h2⟩
                  · exact ⟨i, hlt, by omega, by rw [HXY.out]; dsimp only; omega⟩
                · rintro ⟨i', hi', h1, h2⟩
                  by_cases h3 : i' = i
                  · subst h3
                    rw [HXY.out] at h2
                    dsimp only at h2
                    exact .inr (by omega)
                  · exact .inl ⟨i', hi', by omega, h2⟩)
              obtain ⟨b7, o7, e7, hb7, hc7⟩ := (M.sp.at1 encS_len).1 (by omega)
              cases e7
              have c1 : wr.cell? ⟨b6, o6 + i * 2 + 1, none⟩ = some (.int .i64 l[i].2) := hc7 i hlt 1 (by decide)
              rw [HXY.out] at c1
              dsimp only at c1
              clear hc7 M
              go_wp2_with fail
              go_roundw
              case rel => exact ⟨i + 1, ms, G', ⟨by omega, by go_num⟩, hM6⟩
              case measure => simp [intOf]; omega
      · obtain rfl : i = l.length := by omega
        have hin : ∀ q ∈ ms, p < q ∧ q ≤ p + K ∧ ¬ SG p G q := fun q hq => by
          obtain ⟨i', hi', _, h1, h2⟩ := (M.mem q).1 hq
          exact ⟨(M.rng q hq).1, (M.rng q hq).2, hsp.out i' hi' q h1 h2⟩
        have hall : ∀ q, p < q → q ≤ p + K → SG p G q ∨ q ∈ ms := fun q h1 h2 => by
          by_cases hs : SG p G q
          · exact .inl hs
          · obtain ⟨i', hi', h3, h4⟩ := hsp.all q h1 h2 hs
            exact .inr ((M.mem q).2 ⟨i', hi', hi', h3, h4⟩)
        have hgot : ∀ N : Nat, 1 ≤ N → N ≤ K → G' N = true := fun N h1 h2 => by
          refine (M.gm N h1 (by omega)).2 ?_
          rcases hall (p + N) (by omega) (by omega) with h3 | h3
          · left
            have := h3.2.2
            rwa [show (p + (N : Int) - p).toNat = N by omega] at this
          · exact .inr h3
        have HIN := Lib.hid hin
        have HALL := Lib.hid hall
        have HGOT := Lib.hid hgot
        have hmlen : ms.length ≤ 100 := length_le_of_nodup 100 ms p (M.asc.imp fun h => by omega) (fun q hq => by have := M.rng q hq; omega)
        obtain ⟨A6, cap6, e6⟩ := M.row.val
        subst e6
        clear hin hall hgot hsp
        go_wp2_with fail
        go_loopw [18] (fun nv wi => ∃ N : Nat, (nv = .int .i64 (p + 1 + N) ∧ N ≤ K) ∧ wr = wi) (fun nv _ => (20000 - intOf nv).toNat)
        case atStart => exact ⟨0, ⟨by simp, by omega⟩, rfl⟩
        case round =>
          obtain ⟨N, ⟨rfl, hN⟩, rfl⟩ := hrel
          by_cases hle : N < K
          · have cg : wr.cell? ⟨g, 1 + N, none⟩ = some (.bool true) := (M.mem0.got.cell (1 + N)).trans (by rw [GB_get (by omega), HGOT.out (1 + N) (by omega) (by omega)])
            have hsub : p + 1 + (N : Int) - p = ((1 + N : Nat) : Int) := by omega
            have ha : p + 1 + (N : Int) ≤ p + K := by omega
            have HM := Lib.hid M
            clear M
            go_wp2_with fail
            go_roundw
            case rel => exact ⟨N + 1, ⟨by go_num, by omega⟩, trivial⟩
            case measure => simp [intOf]; omega
          · have ha : ¬ p + 1 + (N : Int) ≤ p + K := by omega
            have R5 : Mr W b m p K G ms (.slice A6 ms.length cap6) ms.length c4 wr := ⟨M.mem0.rcv, M.mem0.is.congr (fun q => by simp), M.mem0.pos, M.mem0.high, M.row, M.mem0.fr⟩
            have hasc := Lib.hid M.asc
            clear M
            go_wp2_with fail
            go_loopw [19] (fun jv wi => ∃ (j : Nat) (c : Gm.Rcv), (jv = .int .i64 ((j : Int) - 1) ∧ j ≤ ms.length) ∧ Mr W b m p K G ms (.slice A6 ms.length cap6) j c wi) (fun jv _ => (intOf jv + 1).toNat)
            case atStart => exact ⟨ms.length, c4, ⟨rfl, Nat.le_refl _⟩, R5⟩
            case round =>
              clear R5
              obtain ⟨j, c, ⟨rfl, hj⟩, R⟩ := hrel
              by_cases hj1 : 1 ≤ j
              · obtain ⟨b8, o8, e8, hb8, hc8⟩ := (R.row.at1 encI_len).1 (by omega)
                subst e8
                have hjm : j - 1 < ms.length := by omega
                have c0 : wr.cell? ⟨b8, o8 + (j - 1), none⟩ = some (.int .i64 ms[j - 1]) := by
                  have := hc8 (j - 1) hjm 0 (by decide)
                  simpa [encI] using this
                obtain ⟨k1, k2, k3⟩ := HIN.out _ (List.getElem_mem hjm)
                have hnd : ms[j - 1] ∉ ms.drop j := fun h => by
                  obtain ⟨i', hi', e⟩ := List.getElem_of_mem h
                  rw [List.getElem_drop] at e
                  have := List.pairwise_iff_getElem.1 hasc.out (j - 1) (j + i') hjm (by simp at hi'; omega) (by omega)
                  omega
                have hdrop : ms.drop (j - 1) = ms[j - 1] :: ms.drop j := by
                  rw [List.drop_eq_getElem_cons hjm, show j - 1 + 1 = j by omega]
                have HD := Lib.hid hdrop
                generalize ms[j - 1] = q at *
                have w1 : (0 : Int) ≤ (j : Int) - 1 := by omega
                have w2 : ((j : Int) - 1).toNat = j - 1 := by omega
                have w3 : (j : Int) - 1 < (ms.length : Int) := by omega
                clear hdrop hc8
                go_wp2_with fail
                refine (record_any q _).mono ?_
                rintro e w3' ⟨rfl, hc3, f3⟩
                go_wp2_with fail
                refine (recv_yes b m c _ q _ _ (R.rcv.fr0 f3) R.is hc3 (by omega) (by omega) (by rw [R.pos]; omega) (by rintro (h | h); exact k3 h; exact hnd h) (by rw [R.pos]; omega)).mono ?_
                rintro e w4' ⟨c5, rfl, h5, is5, ⟨ep, eh⟩, f5⟩
                have RR : Mr W b m p K G ms (.slice (some ⟨b8, o8, none⟩) ms.length cap6) (j - 1) c5 w4' := by
                  refine ⟨h5, is5.congr (fun x => ?_), by rw [ep, R.pos], ?_, (R.row.keep0 f3).keep (R.rcv.fr0 f3) (by decide) f5, (R.fr.trans f3).trans' f5 HMB.out⟩
                  · rw [HD.out, List.mem_cons]
                    constructor
                    · rintro ((h | h) | h)
                      · exact .inl h
                      · exact .inr (.inr h)
                      · exact .inr (.inl h)
                    · rintro (h | h | h)
                      · exact .inl (.inl h)
                      · exact .inr h
                      · exact .inl (.inr h)
                  · rw [eh, R.high]
                    unfold Gm.mx
                    rw [if_neg (by omega)]
                have hcast : ((j - 1 : Nat) : Int) - 1 = (j : Int) - 1 - 1 := by omega
                have HCAST := Lib.hid hcast
                clear R hc3 f3 h5 is5 ep eh f5 hcast w1 w2 w3 c0 hnd k3
                go_wp2_with fail
                go_roundw
                case rel => exact ⟨j - 1, c5, ⟨by rw [HCAST.out], by omega⟩, RR⟩
                case measure => simp [intOf]; omega
              · obtain rfl : j = 0 := by omega
                have his : Gm.Is c (fun q => p < q ∧ q ≤ p + K) := R.is.congr (fun q => by
                  rw [List.drop_zero]
                  constructor
                  · rintro (h | h)
                    · have := (R.is.mem R.rcv.ok (.inl h))
                      rw [R.pos, R.high] at this
                      exact ⟨this.1, this.2.1⟩
                    · exact ⟨(HIN.out q h).1, (HIN.out q h).2.1⟩
                  · rintro ⟨h1, h2⟩
                    rw [← List.drop_zero (l := ms)] at *
                    exact HALL.out q h1 h2)
                have hcp := R.pos
                have hch := R.high
                go_wp2_with fail
                refine (take_isAt b m c _ _ R.rcv his).mono ?_
                rintro e wa ⟨J, Aa, capa, ca, rfl, ha', ⟨g1, g2, g3, g4⟩, isa, fa⟩
                have hJ : J = K := by
                  have h2 : ¬ K + 1 ≤ J := fun h7 => by
                    have := g3 (K + 1) (by omega) (by omega)
                    omega
                  have h3 : ¬ J < K := fun h7 => g4 ⟨by omega, by omega⟩
                  omega
                have Fa : Fr [] W wa := R.fr.trans' fa HMB.out
                have hpa : ca.pos = p + K := by omega
                have hha : ca.high = ca.pos := by omega
                have hm0 : Hid (Gm.missing ca.L ca.pos (ca.high - ca.pos).toNat = []) := Lib.hid (by rw [hha, show (ca.pos - ca.pos).toNat = 0 by omega]; rfl)
                have hd2 : (ca.pos == p + K) = true := by simpa using hpa
                have hd3 : (ca.high == p + K) = true := by simp; omega
                have hd4 : ((J : Int) == p + K - p) = true := by simp; omega
                clear g1 g2 g3 g4 hcp hch hpa hha hJ isa R fa his
                go_wp2_with fail
                refine (missing_any b m ca _ ha').mono ?_
                rintro e wb ⟨vb, ⟨rfl, hvb⟩, fb⟩
                rw [hm0.out] at hvb
                obtain ⟨Ab, capb, eb⟩ := hvb.val
                subst eb
                have hb' := ha'.fr0 fb
                go_wp2_with fail
                refine (position_any b m ca _ hb').mono ?_
                rintro e w' ⟨rfl, rfl⟩
                go_wp2_with fail
                refine (highest_any b m ca _ hb').mono ?_
                rintro e w' ⟨rfl, rfl⟩
                go_wp2_with fail
                go_ret
                exact ⟨rfl, (Fa.trans fb).below⟩

theorem missing_law : LawWalk 4 Try.f4 := by
  intro H enc W base args ds p hval0 hA0 hlt hsz
  have hval : ∀ (j : Nat) t v, Try.f4.params[j]? = some t → args[j]? = some v → Value.okWide Try.prog W .any base t v := hval0
  have hA : DataW.TrodAll enc Try.prog W 0 (fun _ => true) true Try.f4.params.toList args.toList ds p := hA0
  clear hA0 hval0 hsz
  rw [Try.params4] at hA hval
  obtain ⟨v0, vs0, d0, ds0, p0, q0, hargs, rfl, rfl, h0, r0⟩ := trodAll_cons hA
  obtain ⟨v1, vs1, d1, ds1, p1, q1, rfl, rfl, rfl, h1, r1⟩ := trodAll_cons r0
  obtain ⟨v2, vs2, d2, ds2, p2, q2, rfl, rfl, rfl, h2, r2⟩ := trodAll_cons r1
  obtain ⟨rfl, rfl, rfl⟩ := trodAll_nil r2
  obtain rfl : args = #[v0, v1, v2] := by cases args; simp_all
  obtain ⟨x0, rfl, rfl, rfl, wx0⟩ := open_int Try.underlying3 (hval 0 _ v0 rfl rfl) h0
  obtain ⟨A1, n1, cap1, xs1, rfl, hn1, hmax1, hx1⟩ := open_intsAt (hval 1 _ v1 rfl rfl) h1
  obtain ⟨x2, rfl, rfl, rfl, wx2⟩ := open_int Try.underlying3 (hval 2 _ v2 rfl rfl) h2
  exact missing_walk x0 A1 n1 cap1 xs1 x2 W wx0 hn1 hmax1 hx1 wx2

theorem missing_lifted (os : Os) (started : os.Started) (H : Type) (enc : TypeId × Value → H) :
    ReturnsInHanded {} Try.checked os 4 .any (Rows.gapMissingSpec.pre6 enc Try.prog Try.f4 Rows.gapMissingRow.domain false) (Rows.gapMissingSpec.post enc Try.prog Try.f4 false true false false) :=
  law_lifted (s := Rows.gapMissingSpec) (conds := Rows.gapMissingRow.domain) Try.func4 (by kernel_rfl) rfl rfl
    (by
      rw [Try.params4]
      intro t ht
      simp only [List.mem_cons, List.not_mem_nil, or_false] at ht
      rcases ht with rfl | rfl | rfl
      all_goals exact ⟨by kernel_rfl, of_decide_eq_true (by kernel_rfl)⟩)
    (fun H ds h => by
      match ds, h with
      | [d0, d1, d2], _ => exact ⟨rfl, rfl, rfl⟩) missing_law os started H enc
    (ChangeSpec.witness6 (enc := enc) (C := Try.checked) false ⟨#[], #[.int .i64 0, .slice none 0 0, .int .i64 0], []⟩ 8 (by kernel_rfl) (by kernel_rfl) (by kernel_rfl) (by kernel_rfl))

theorem missing_holds : Rows.GapMissingSaid :=
  OpenClaim.holds_of_wide 4 Try.f4 rfl rfl rfl rfl rfl rfl rfl ⟨rfl, rfl, rfl, rfl, rfl⟩ rfl rfl rfl rfl rfl (by kernel_rfl) Try.func4 (by kernel_rfl)
    (of_decide_eq_true (by kernel_rfl)) (by unfold Func.isWrapper; rw [if_neg (of_decide_eq_false (by kernel_rfl))]; exact ⟨rfl, rfl⟩)
    (fun os started H enc _ => missing_lifted os started H enc)
#print axioms missing_holds

end Go.Proofs.Ytlolinaggobbdaa

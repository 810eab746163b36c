/-
  GapComplete: what the walk shows, as the law says it. Conditions: none.
-/
import Derived.Test.YtfbhdmppddledaaRfB
import Derived.Test.YtfbhdmppddledaaAtL
import Derived.Test.YtfbhdmppddledaaStF
import Derived.Deep.QuietTactic
import Derived.Test.YtfbhdmppddledaaStH
import Derived.Test.YtfbhdmppddledaaRfP
import Derived.Test.YtfbhdmppddledaaRecs
import Derived.Test.YtfbhdmppddledaaLgA
import Derived.Test.YtfbhdmppddledaaStP
import Derived.Test.YtfbhdmppddledaaStB
import Derived.Test.YtfbhdmppddledaaRow3
import Derived.Test.YtfbhdmppddledaaStE
import Derived.Test.YtfbhdmppddledaaGapF
import Derived.Test.YtfbhdmppddledaaGapG
import Derived.Test.YtfbhdmppddledaaSame
import Derived.Test.YtfbhdmppddledaaGapA2
import Derived.Test.YtfbhdmppddledaaGapE
import Derived.Test.YtfbhdmppddledaaLgE
import Derived.Test.YtfbhdmppddledaaLgB
import Derived.Deep.DeepCutAuto
import Derived.Deep.CutBlock
namespace Go.Proofs.Ytfbhdmppddledaa
open Go.RowKit

theorem run_isAgg_v3' (w : World) : (isAgg 57).run Try.prog w = .ok true w := by kernel_rfl
theorem run_sizeOf_v3' (w : World) : (sizeOf 57).run Try.prog w = .ok 3 w := by kernel_rfl
theorem eqIn_row (d : Nat) (a b : RowV) (w : World) : (Op.equalIn (d + 3) 61 a.val b.val).run Try.prog w = .ok (decide (a = b)) w := by
  unfold RowV.val
  rw [run_equalIn_agg w (d + 2) 61 _ _ (by kernel_rfl) (by kernel_rfl)]
  simp only [Program.fieldsOf, Try.underlying61]
  obtain ⟨t, k, x, y, z⟩ := a
  obtain ⟨t', k', x', y', z'⟩ := b
  have hI : ∀ (a b : Int) (w : World), (Op.equalIn (d + 2) 3 (.int .i64 a) (.int .i64 b)).run Try.prog w = .ok (a == b) w := fun a b w => run_equalIn_int (P := Try.prog) w (d + 1) 3 .i64 .i64 a b Try.underlying3
  have hV := fun x y z a b c w => eqIn_v3 d x y z a b c w
  simp [Op.eqFields, Sem.run_bind, part, run_isAgg_int, run_isAgg_v3', run_sizeOf_v3', hI, hV]
  repeat' split
  all_goals simp_all
theorem neq_row (a b : RowV) (w : World) : (binOp .neq 61 a.val b.val).run Try.prog w = .ok (.bool (!decide (a = b))) w := by
  rw [run_neq_struct, show (10000 : Nat) = 9997 + 3 from rfl, eqIn_row]
  rfl
theorem eql_row (a b : RowV) (w : World) : (binOp .eql 61 a.val b.val).run Try.prog w = .ok (.bool (decide (a = b))) w := by
  rw [run_eql_struct, show (10000 : Nat) = 9997 + 3 from rfl, eqIn_row]
  rfl
theorem eqGuard_row (op : BinOp) (x y : Operand) (xs ys : Array Value) (w : World) : (eqGuard op 61 x y (.agg xs) (.agg ys)).run Try.prog w = .ok () w :=
  run_eqGuard_agg w op _ x y xs ys (by kernel_rfl)

/-- Rows at an address. -/
abbrev RowsAt (w : World) (A : Option Addr) (L : List RowV) : Prop := AtL RowV.cells 5 w A L
theorem sameRows_any (cs ds : List RowV) (A B : Option Addr) (ca cb : Nat) (w : World) (ha : RowsAt w A cs) (hb : RowsAt w B ds) (la : cs.length ≤ 4000) (lb : ds.length ≤ 4000) :
    Calls Try.prog 15 #[.slice A cs.length ca, .slice B ds.length cb] w fun e w' => e = .returned (.bool (decide (cs = ds))) ∧ Fr [] w w' := by
  by_cases hl : cs.length = ds.length
  · go_enter Try.func15, Try.ntmps15
    have HL := Lib.hid hl
    have hd : ((cs.length : Int) != (ds.length : Int)) = false := by simp [hl]
    clear hl
    go_wp2_with fail
    have hf0 : Fr [] w w := Fr.refl _ _
    go_loopw [5] (fun i wr => ∃ k : Nat, i = .int .i64 k ∧ (k ≤ cs.length ∧ cs.take k = ds.take k) ∧ Fr [] w wr) (fun i _ => cs.length - (intOf i).toNat)
    case atStart => exact ⟨0, rfl, ⟨Nat.zero_le _, by simp⟩, hf0⟩
    case round =>
      clear hf0
      obtain ⟨k, rfl, ⟨hk, htk⟩, hf⟩ := hrel
      have HTK := Lib.hid htk
      clear htk
      by_cases hlt : k < cs.length
      · obtain ⟨b1, o1, e1, hb1, hc1⟩ := (ha.fr hf (by simp)) (by omega)
        obtain ⟨b2, o2, e2, hb2, hc2⟩ := (hb.fr hf (by simp)) (by have := HL.out; omega)
        subst e1 e2
        have hlt2 : k < ds.length := by have := HL.out; omega
        replace hc1 := Lib.hid (hc1 k hlt)
        replace hc2 := Lib.hid (hc2 k hlt2)
        have htake : cs[k] = ds[k] → cs.take (k + 1) = ds.take (k + 1) := fun e => by rw [List.take_succ_eq_append_getElem hlt, List.take_succ_eq_append_getElem hlt2, HTK.out, e]
        have hdiff : cs[k] ≠ ds[k] → cs ≠ ds := fun h e => h (by simp only [e])
        have hq := neq_row cs[k] ds[k]
        generalize cs[k] = c at *
        generalize ds[k] = d at *
        obtain ⟨t, kk, p0, p1, p2⟩ := c
        obtain ⟨t', kk', p0', p1', p2'⟩ := d
        unfold RowV.val at hq
        dsimp only at hq
        have hc1_0 : wr.cell? ⟨b1, o1 + k * 5, none⟩ = some (.int .i64 t) := hc1.out 0 (by decide)
        have hc1_1 : wr.cell? ⟨b1, o1 + k * 5 + 1, none⟩ = some (.int .i64 kk) := hc1.out 1 (by decide)
        have hc1_2 : wr.cell? ⟨b1, o1 + k * 5 + 2, none⟩ = some (.int .i64 p0) := hc1.out 2 (by decide)
        have hc1_3 : wr.cell? ⟨b1, o1 + k * 5 + 3, none⟩ = some (.int .i64 p1) := hc1.out 3 (by decide)
        have hc1_4 : wr.cell? ⟨b1, o1 + k * 5 + 4, none⟩ = some (.int .i64 p2) := hc1.out 4 (by decide)
        have hc2_0 : wr.cell? ⟨b2, o2 + k * 5, none⟩ = some (.int .i64 t') := hc2.out 0 (by decide)
        have hc2_1 : wr.cell? ⟨b2, o2 + k * 5 + 1, none⟩ = some (.int .i64 kk') := hc2.out 1 (by decide)
        have hc2_2 : wr.cell? ⟨b2, o2 + k * 5 + 2, none⟩ = some (.int .i64 p0') := hc2.out 2 (by decide)
        have hc2_3 : wr.cell? ⟨b2, o2 + k * 5 + 3, none⟩ = some (.int .i64 p1') := hc2.out 3 (by decide)
        have hc2_4 : wr.cell? ⟨b2, o2 + k * 5 + 4, none⟩ = some (.int .i64 p2') := hc2.out 4 (by decide)
        have hg := eqGuard_row
        clear hc1 hc2
        by_cases he : (⟨t, kk, p0, p1, p2⟩ : RowV) = ⟨t', kk', p0', p1', p2'⟩
        · have HT := Lib.hid (htake he)
          rw [decide_eq_true he] at hq
          clear htake hdiff he
          go_wp2_with fail
          go_quiet (fail)
          go_wp2_with fail
          have f1 : Fr [] w (wr.drewN nq) := hf.drewN _
          go_roundw
          case rel => exact ⟨k + 1, by go_num, ⟨by omega, HT.out⟩, f1⟩
          case measure => simp [intOf]; omega
        · have HD := Lib.hid (hdiff he)
          rw [decide_eq_false he] at hq
          clear htake hdiff he
          go_wp2_with fail
          go_quiet (fail)
          go_wp2_with fail
          go_ret
          exact ⟨by rw [decide_eq_false HD.out]; rfl, hf.drewN _⟩
      · go_wp2_with fail
        go_ret
        have HF : cs = ds := by
          have e1 := HTK.out
          have e2 := HL.out
          rwa [List.take_of_length_le (by omega), List.take_of_length_le (by omega)] at e1
        exact ⟨by rw [decide_eq_true HF]; rfl, hf⟩
  · have HF : Hid (decide (cs = ds) = false) := Lib.hid (decide_eq_false fun e => hl (by rw [e]))
    have hd : decide (cs.length = ds.length) = false := by simpa using hl
    go_enter Try.func15, Try.ntmps15
    go_wp2_with fail
    go_ret
    exact ⟨by rw [HF.out]; rfl, Fr.refl _ _⟩
end Go.Proofs.Ytfbhdmppddledaa
namespace Go.Proofs.Ytfbhdmppddledaa
open Go.RowKit Go.Sort

def inTab (t : Int) (r : RowV) : Bool := decide (r.t = t)
def inRng (t c lo hi : Int) (r : RowV) : Bool := decide (r.t = t) && (decide (lo ≤ r.value c) && decide (r.value c ≤ hi))

theorem rowsC_any (r : RowV) (t : Int) (gt : Nat) (w : World) (h0 : w.cell? ⟨gt, 0, none⟩ = some (.int .i64 t)) :
    Calls Try.prog 35 #[r.val, .pointer (some ⟨gt, 0, none⟩)] w fun e w' => e = .returned (.bool (inTab t r)) ∧ Fr [] w w' := by
  obtain ⟨rt, k, x, y, z⟩ := r
  have hl := World.block_lt_of_cell? w _ h0
  have h1 : ∀ o, (w.alloc o).cell? ⟨gt, 0, none⟩ = some (.int .i64 t) := fun o => by rw [World.cell?_alloc_lt _ _ _ hl]; exact h0
  unfold RowV.val inTab
  dsimp only
  by_cases e : rt = t
  · have e' : (rt == t) = true := by simpa using e
    have E := Lib.hid e
    clear e
    go_enter Try.func35, Try.ntmps35
    go_wp2
    go_ret
    exact ⟨by rw [decide_eq_true E.out]; rfl, (Fr.refl _ _).alloc _⟩
  · have e' : (rt == t) = false := by simpa using e
    have E := Lib.hid e
    clear e
    go_enter Try.func35, Try.ntmps35
    go_wp2
    go_ret
    exact ⟨by rw [decide_eq_false E.out]; rfl, (Fr.refl _ _).alloc _⟩

/-- What Rows and Range hand out. -/
structure Picked (s : Sm.Sta) (c : Int) (p : RowV → Bool) (R : List RowV) : Prop where
  perm : R.Perm ((s.M.map (·.2)).filter p)
  srt : R.Pairwise (fun x y => ¬ ahead2 c y x)

theorem srows_any (b m : Nat) (s : Sm.Sta) (t : Int) (w : World) (h : StaAt w b m s) :
    Calls Try.prog 16 #[.pointer (some ⟨b, 0, none⟩), .int .i64 t] w fun e w' => ∃ v R, e = .returned v ∧ RowsOwn w' v R ∧ Picked s 0 (inTab t) R ∧ Fr [] w w' ∧ ∀ g, v.ownBlock = some g → w.heap.size ≤ g := by
  have F0 : Fr [] w (w.alloc (.cells #[.int .i64 t] 3)) := (Fr.refl _ _).alloc _
  have hb := Blk.new w 3 #[.int .i64 t]
  have HC := Lib.hid (chosen_any b m s 0 35 #[.pointer (some ⟨w.heap.size, 0, none⟩)] (inTab t) (w.alloc (.cells #[.int .i64 t] 3)) (h.fr0 F0) (enters_of Try.func35 (by kernel_rfl) rfl)
    (fun W r hf => rowsC_any r t w.heap.size W ((hb.fr hf (by simp)).cell 0)))
  clear h
  go_enter Try.func16, Try.ntmps16
  go_wp2_with (go_at_call 34; refine HC.out.mono ?_; rintro e w' ⟨v, R, rfl, hr, hp, hs, hf, ho⟩; have HR := Lib.hid hr; have HPS := Lib.hid (And.intro hp hs); have HF := Lib.hid hf; have HO := Lib.hid ho; clear hr hp hs hf ho)
  go_ret
  exact ⟨v, R, rfl, HR.out, ⟨HPS.out.1, HPS.out.2⟩, F0.trans HF.out, fun g hg => by have := HO.out g hg; simp at this; omega⟩

end Go.Proofs.Ytfbhdmppddledaa
namespace Go.Proofs.Ytfbhdmppddledaa

theorem ahead2_total {c : Int} {a b : RowV} (h1 : ¬ ahead2 c a b) (h2 : ¬ ahead2 c b a) : a.value c = b.value c ∧ a.k = b.k := by
  unfold ahead2 at h1 h2
  omega
theorem ahead2_irrefl {c : Int} {a : RowV} : ¬ ahead2 c a a := by
  unfold ahead2
  omega
theorem ahead2_asymm {c : Int} {a b : RowV} (h : ahead2 c a b) : ¬ ahead2 c b a := by
  unfold ahead2 at *
  omega
/-- Rows of one table are told apart by their keys. -/
def KeyApart (R : List RowV) : Prop := ∀ a ∈ R, ∀ b ∈ R, a.k = b.k → a = b
theorem picked_uniq : ∀ {R R' : List RowV} {c : Int}, R.Perm R' → KeyApart R → R.Pairwise (fun x y => ¬ ahead2 c y x) → R'.Pairwise (fun x y => ¬ ahead2 c y x) → R = R'
  | [], R', _, hp, _, _, _ => by rw [hp.nil_eq]
  | a :: R, [], _, hp, _, _, _ => by have := hp.length_eq; simp at this
  | a :: R, b :: R', c, hp, hk, h1, h2 => by
    obtain ⟨h3, h4⟩ := List.pairwise_cons.1 h1
    obtain ⟨h5, h6⟩ := List.pairwise_cons.1 h2
    have hb : b ∈ a :: R := hp.mem_iff.2 (by simp)
    have ha : a ∈ b :: R' := hp.mem_iff.1 (by simp)
    have e : a = b := by
      rcases List.mem_cons.1 ha with e | ha
      · exact e
      · rcases List.mem_cons.1 hb with e | hb
        · exact e.symm
        · exact hk a (by simp) b (by simp [hb]) (ahead2_total (h5 a ha) (h3 b hb)).2
    subst e
    rw [picked_uniq hp.cons_inv (fun x hx y hy => hk x (by simp [hx]) y (by simp [hy])) h4 h6]
theorem keyApart_filter {s : Sm.Sta} (h : Sm.Ok s) (t : Int) {p : RowV → Bool} (hp : ∀ r, p r = true → r.t = t) : KeyApart ((s.M.map (·.2)).filter p) := by
  intro a ha b hb hk
  obtain ⟨ha1, ha2⟩ := List.mem_filter.1 ha
  obtain ⟨hb1, hb2⟩ := List.mem_filter.1 hb
  obtain ⟨⟨i, a'⟩, hia, rfl⟩ := List.mem_map.1 ha1
  obtain ⟨⟨j, b'⟩, hjb, rfl⟩ := List.mem_map.1 hb1
  dsimp only at hk ha2 hb2 ⊢
  have e1 := h.key _ hia
  have e2 := h.key _ hjb
  dsimp only at e1 e2
  have hij : i = j := Subtype.ext (by rw [e1, e2, hp _ ha2, hp _ hb2, hk])
  subst hij
  have h1 := (mget_iff h.nd).2 hia
  have h2 := (mget_iff h.nd).2 hjb
  rw [h1] at h2
  exact Option.some.inj h2
theorem Picked.uniq {s : Sm.Sta} {c t : Int} {p : RowV → Bool} {R R' : List RowV} (h : Picked s c p R) (h' : Picked s c p R') (ho : Sm.Ok s) (hp : ∀ r, p r = true → r.t = t) : R = R' :=
  picked_uniq (h.perm.trans h'.perm.symm) (fun a ha b hb => keyApart_filter ho t hp a (h.perm.mem_iff.1 ha) b (h.perm.mem_iff.1 hb)) h.srt h'.srt
theorem inTab_t {t : Int} (r : RowV) (h : inTab t r = true) : r.t = t := by simpa [inTab] using h
theorem inRng_t {t c lo hi : Int} (r : RowV) (h : inRng t c lo hi r = true) : r.t = t := by
  simp only [inRng, Bool.and_eq_true, decide_eq_true_eq] at h
  exact h.1
theorem value_zero (r : RowV) : r.value 0 = r.k := rfl
/-- The rows of a table in the reference's list are the rows that are picked. -/
theorem picked_filter {s : Sm.Sta} {L : List RowV} (h : Sm.Sim s.M L) (t : Int) : Picked s 0 (inTab t) (L.filter (inTab t)) := by
  refine ⟨h.perm.filter _, ?_⟩
  refine List.Pairwise.imp_of_mem (fun {a b} ha hb hab => ?_) (List.Pairwise.filter _ h.srt)
  have e1 := inTab_t a (List.mem_filter.1 ha).2
  have e2 := inTab_t b (List.mem_filter.1 hb).2
  unfold ahead2
  rw [value_zero, value_zero]
  omega
/-- A row is inserted behind those whose values are not greater. -/
theorem insert_srt {c : Int} {R : List RowV} {x : RowV} {k : Nat} (h : R.Pairwise (ahead2 c)) (hlo : ∀ i (hi : i < R.length), i < k → R[i].value c ≤ x.value c) (hhi : ∀ i (hi : i < R.length), k ≤ i → x.value c < R[i].value c) (hk : ∀ a ∈ R, a.k < x.k) :
    (R.take k ++ x :: R.drop k).Pairwise (ahead2 c) := by
  have h' := h
  rw [← List.take_append_drop k R, List.pairwise_append] at h'
  obtain ⟨h1, h2, h3⟩ := h'
  rw [List.pairwise_append]
  refine ⟨h1, List.pairwise_cons.2 ⟨fun b hb => ?_, h2⟩, fun a ha b hb => ?_⟩
  · obtain ⟨i, hi, rfl⟩ := List.getElem_of_mem hb
    rw [List.length_drop] at hi
    rw [List.getElem_drop]
    exact .inl (hhi (k + i) (by omega) (by omega))
  · rcases List.mem_cons.1 hb with rfl | hb
    · obtain ⟨i, hi, rfl⟩ := List.getElem_of_mem ha
      rw [List.length_take] at hi
      rw [List.getElem_take]
      have e1 := hlo i (by omega) (by omega)
      have e2 := hk _ (List.getElem_mem (show i < R.length by omega))
      unfold ahead2
      omega
    · exact h3 a ha b hb
theorem insert_perm {R : List RowV} {x : RowV} (k : Nat) : (R.take k ++ x :: R.drop k).Perm (R ++ [x]) := by
  refine List.perm_middle.trans ?_
  rw [List.take_append_drop]
  exact (List.perm_append_singleton x R).symm
end Go.Proofs.Ytfbhdmppddledaa
namespace Go.Proofs.Ytfbhdmppddledaa
open Go.RowKit

/-- Records at an address. -/
def RecsAt (w : World) (A : Option Addr) (l : List Rec) : Prop := ∃ us : List WRec, AtL WRec.cells 2 w A us ∧ us.map (·.r) = l ∧ ∀ u ∈ us, HoldsC w u.A u.r.cs ∧ u.r.cs.length ≤ 8
theorem OwnR.recs {w : World} {A : Option Addr} {n cap : Nat} {out : List Rec} (h : OwnR w (.slice A n cap) out) : RecsAt w A out ∧ n = out.length := by
  obtain ⟨us, h1, h2, h3⟩ := h
  obtain ⟨h4, h5⟩ := h1.at1 WRec.len
  exact ⟨⟨us, h4, h2, h3⟩, by rw [← h2, List.length_map]; exact h5⟩
/-- None of the blocks in S holds records. -/
def NoR (w : World) (S : List Nat) : Prop := ∀ s ∈ S, ∀ arr fz, w.heap[s]? ≠ some (.cells arr 34 fz)

/-- At the head of each round of 'At'. -/
structure AtRel (w0 w : World) (A : Option Addr) (l : List Rec) (k : Nat) (wr : World) (b m : Nat) : Prop where
  st : StaAt wr b m (Lg.run (l.take k))
  fr : Fr [] w wr
  hb : w.heap.size ≤ b
  hm : w.heap.size ≤ m

set_option maxRecDepth 100000 in
set_option maxHeartbeats 2000000 in
theorem sat_ok (A : Option Addr) (cap : Nat) (l : List Rec) (p : Nat) (w : World) (h : RecsAt w A l) (hl : l.length ≤ 1000) (hp : p ≤ l.length) (hlc : l.length ≤ cap) (hok : ∀ i (h : i < l.length), i < p → Sm.fits (Lg.run (l.take i)) l[i] = true) :
    Calls Try.prog 12 #[.slice A l.length cap, .int .i64 p] w fun e w' => ∃ b m, e = .returned (.tuple #[.pointer (some ⟨b, 0, none⟩), .int .i64 0]) ∧ StaAt w' b m (Lg.run (l.take p)) ∧ Fr [] w w' ∧ w.heap.size ≤ b ∧ w.heap.size ≤ m := by
  obtain ⟨us, hat, hus, hhc⟩ := h
  have hul : us.length = l.length := by rw [← hus, List.length_map]
  have HC := Lib.hid hhc
  have HAT := Lib.hid hat
  have HOK := Lib.hid hok
  clear hhc hat hok
  go_enter Try.func12, Try.ntmps12
  go_wp2_with fail
  refine (snew_any _).mono ?_
  rintro e w1 ⟨rfl, hnew, f1⟩
  have hbb0 : w.heap.size ≤ w.heap.size + 1 := by omega
  have R0 : Hid (AtRel w w A l 0 w1 (w.heap.size + 1) w.heap.size) := Lib.hid ⟨hnew, f1, by omega, Nat.le_refl _⟩
  clear hnew f1
  go_wp2_with fail
  generalize w.heap.size + 1 = b at *
  generalize hm0 : w.heap.size = m at R0
  have HM0 := Lib.hid hm0
  clear hm0
  go_loopw [22] (fun i wr => ∃ k : Nat, i = .int .i64 k ∧ k ≤ p ∧ Hid (AtRel w w A l k wr b m)) (fun i _ => p - (intOf i).toNat)
  case atStart => exact ⟨0, rfl, Nat.zero_le _, R0⟩
  case round =>
    clear R0
    obtain ⟨k, rfl, hk, R⟩ := hrel
    by_cases hlt : k < p
    · have hkl : k < l.length := by omega
      have hku : k < us.length := by omega
      have hck := HC.out us[k] (List.getElem_mem hku)
      have hcell : ∃ bb off, A = some ⟨bb, off, none⟩ ∧ wr.cell? ⟨bb, off + k * 2, none⟩ = some (.int .i64 us[k].r.p) ∧ wr.cell? ⟨bb, off + k * 2 + 1, none⟩ = some (.slice us[k].A us[k].r.cs.length us[k].cap) := by
        obtain ⟨bb, off, e, hbb, hc⟩ := HAT.out (by omega)
        refine ⟨bb, off, e, ?_, ?_⟩
        · rw [R.out.fr.cell (p := ⟨bb, off + k * 2, none⟩) hbb (by simp)]
          exact hc k hku 0 (by decide)
        · rw [R.out.fr.cell (p := ⟨bb, off + k * 2 + 1, none⟩) hbb (by simp)]
          exact hc k hku 1 (by decide)
      have hlk : us[k].r = l[k] := by subst hus; simp
      have hfit := Lib.hid (HOK.out k hkl hlt)
      have htk : Hid (Lg.run (l.take (k + 1)) = Sm.apply (Lg.run (l.take k)) l[k]) := Lib.hid (by rw [List.take_succ_eq_append_getElem hkl, Lg.run_snoc])
      rw [hlk] at hck hcell
      obtain ⟨bb, off, hA, hc0, hc1⟩ := hcell
      subst hA
      have hcode : Hid (Sm.code (Lg.run (l.take k)) l[k] = 0) := Lib.hid (Lg.code_zero.2 hfit.out)
      have HCK := Lib.hid hck
      clear hck hlk
      generalize us[k].A = Ak at *
      generalize us[k].cap = ck at *
      generalize l[k] = rk at *
      have F1 : Fr [] wr (wr.alloc (.cells #[.int .i64 rk.p, .slice Ak rk.cs.length ck] 34)) := (Fr.refl _ _).alloc _
      have hap := Lib.hid (sapply_any b m (Lg.run (l.take k)) rk Ak ck _ (R.out.st.fr0 F1) (HCK.out.1.fr (R.out.fr.trans F1) NoC.nil) (Nat.le_trans HCK.out.2 (by decide)))
      go_wp2_with fail
      refine hap.out.mono ?_
      rintro e w2 ⟨rfl, hst, hf⟩
      rw [hcode.out]
      have R2 : Hid (AtRel w w (some ⟨bb, off, none⟩) l (k + 1) w2 b m) := Lib.hid ⟨by rw [htk.out]; exact hst, (R.out.fr.trans F1).trans' hf (fun i hi => .inr (by
        have h1 := R.out.hb
        have h2 := R.out.hm
        simp only [List.mem_cons, List.not_mem_nil, or_false] at hi
        rcases hi with rfl | rfl <;> omega)), R.out.hb, R.out.hm⟩
      clear hst hf hap F1
      go_wp2_with fail
      go_roundw
      case rel => exact ⟨k + 1, by go_num, by omega, R2⟩
      case measure => simp [intOf]; omega
    · have hkp : k = p := by omega
      subst hkp
      go_wp2_with fail
      go_ret2
      exact ⟨b, m, rfl, R.out.st, R.out.fr, R.out.hb, R.out.hm⟩

theorem sat_bad (A : Option Addr) (n cap : Nat) (p : Int) (w : World) (hn : n ≤ maxLen) (hp : p < 0 ∨ n < p) :
    Calls Try.prog 12 #[.slice A n cap, .int .i64 p] w fun e w' => e = .returned (.tuple #[.pointer none, .int .i64 40]) ∧ w = w' := by
  by_cases h : p < 0
  · go_enter Try.func12, Try.ntmps12
    go_wp2
    go_ret2
    exact ⟨rfl, rfl⟩
  · have h2 : (n : Int) < p := by omega
    go_enter Try.func12, Try.ntmps12
    go_wp2
    go_ret2
    exact ⟨rfl, rfl⟩
end Go.Proofs.Ytfbhdmppddledaa
namespace Go.Proofs.Ytfbhdmppddledaa
namespace Lg

theorem run_ok (l : List Rec) : Sm.Ok (run l) := by
  have key : ∀ (l : List Rec) (s : Sm.Sta), Sm.Ok s → Sm.Ok (l.foldl Sm.apply s) := by
    intro l
    induction l with
    | nil => exact fun s h => h
    | cons r l ih => exact fun s h => ih _ (h.applied r)
  exact key l _ Sm.ok_new
theorem run_succ (l : List Rec) {i : Nat} (hi : i < l.length) : run (l.take (i + 1)) = Sm.apply (run (l.take i)) l[i] := by
  rw [List.take_succ_eq_append_getElem hi, run_snoc]
theorem fits_pos {s : Sm.Sta} {r : Rec} (h : Sm.fits s r = true) : r.p = s.pos + 1 ∧ Sm.apply s r = ⟨r.cs.foldl Sm.put1 s.M, r.p⟩ := by
  refine ⟨?_, by unfold Sm.apply; rw [if_pos h]⟩
  simp only [Sm.fits, Bool.and_eq_true, decide_eq_true_eq] at h
  exact h.1.2
theorem Ok.pos {l : List Rec} (h : Ok l) : ∀ i, i ≤ l.length → (run (l.take i)).pos = i
  | 0, _ => rfl
  | i + 1, hi => by
    have hf := h.fits i (by omega)
    obtain ⟨h1, h2⟩ := fits_pos hf
    rw [run_succ l (by omega), h2]
    dsimp only
    rw [h1, h.pos i (by omega)]
    omega
theorem Ok.at_ {l : List Rec} (h : Ok l) {i : Nat} (hi : i < l.length) : l[i].p = i + 1 := by
  rw [(fits_pos (h.fits i hi)).1, h.pos i (by omega)]
theorem Ok.valid {l : List Rec} (h : Ok l) {i : Nat} (hi : i < l.length) : Rw.valid l[i] = true := by
  have hf := h.fits i hi
  simp only [Sm.fits, Bool.and_eq_true, decide_eq_true_eq] at hf
  exact hf.1.1
theorem run_all (l : List Rec) : run (l.take l.length) = run l := by rw [List.take_length]
end Lg
theorem OwnR.cap {w : World} {A : Option Addr} {cap : Nat} {out : List Rec} (h : OwnR w (.slice A out.length cap) out) : out.length ≤ cap := by
  obtain ⟨us, h1, h2, _⟩ := h
  have hl : out.length = us.length := by rw [← h2, List.length_map]
  rw [hl] at h1 ⊢
  exact own_cap2 h1
theorem RecsAt.open_ {w : World} {A : Option Addr} {l : List Rec} (h : RecsAt w A l) {k : Nat} (hk : k < l.length) :
    ∃ bb off Ak ck, A = some ⟨bb, off, none⟩ ∧ bb < w.heap.size ∧ w.cell? ⟨bb, off + k * 2, none⟩ = some (.int .i64 l[k].p) ∧ w.cell? ⟨bb, off + k * 2 + 1, none⟩ = some (.slice Ak l[k].cs.length ck) ∧ HoldsC w Ak l[k].cs ∧ l[k].cs.length ≤ 8 := by
  obtain ⟨us, hat, hus, hhc⟩ := h
  subst hus
  have hku : k < us.length := by simpa using hk
  obtain ⟨bb, off, e, hbb, hc⟩ := hat (by omega)
  obtain ⟨h1, h2⟩ := hhc us[k] (List.getElem_mem hku)
  have e1 : (us.map (·.r))[k]'hk = us[k].r := by simp
  rw [e1]
  exact ⟨bb, off, us[k].A, us[k].cap, e, hbb, hc k hku 0 (by decide), hc k hku 1 (by decide), h1, h2⟩
theorem sapply_n (b m : Nat) (s : Sm.Sta) (r : Rec) (A : Option Addr) (n cap : Nat) (p : Int) (w : World) (h : StaAt w b m s) (hc : HoldsC w A r.cs) (hlen : r.cs.length ≤ 8) (hn : n = r.cs.length) (hp : p = r.p) :
    Calls Try.prog 11 #[.pointer (some ⟨b, 0, none⟩), .agg #[.int .i64 p, .slice A n cap]] w fun e w' => e = .returned (.int .i64 (Sm.code s r)) ∧ StaAt w' b m (Sm.apply s r) ∧ Fr [b, m] w w' := by
  subst hn
  subst hp
  exact sapply_any b m s r A cap w h hc (Nat.le_trans hlen (by decide))
end Go.Proofs.Ytfbhdmppddledaa
namespace Go.Proofs.Ytfbhdmppddledaa
open Go.RowKit

/-- A record of one change is received. -/
theorem recv_any (b m : Nat) (c : Gm.Rcv) (p : Int) (A : Option Addr) (w : World) (h : RcvAt w b m c) (hc : HoldsC w A (recOf p).cs) :
    Calls Try.prog 8 #[.pointer (some ⟨b, 0, none⟩), .agg #[.int .i64 p, .slice A 1 1]] w fun e w' =>
      e = .returned (.bool (Gm.took c (recOf p))) ∧ RcvAt w' b m (Gm.receive c (recOf p)) ∧ Fr [b, m] w w' :=
  receive_any b m 1 c (recOf p) A w h hc (by simp [recOf, maxLen])
theorem recv_nil (p : Int) (A : Option Addr) (w : World) :
    Calls Try.prog 8 #[.pointer none, .agg #[.int .i64 p, .slice A 1 1]] w fun e w' => e = .returned (.bool false) ∧ Fr [] w w' :=
  receive_nil (recOf p) A 1 w
theorem OwnL.keep {X : Type} {e size : Nat} {enc : X → List Value} {w w' : World} {v : Value} {L : List X} {b m : Nat} {c : Gm.Rcv} (h : OwnL e size enc w v L) (hr : RcvAt w b m c) (he : e ≠ 68) (hf : Fr [b, m] w w') : OwnL e size enc w' v L := by
  obtain ⟨M, hm, _⟩ := hr.map
  exact h.fr hf (fun g hg => by
    have e1 := h.ne hr.blk he hg
    have e2 := h.ne_map hm hg
    simp [e1, e2])
theorem OwnR.keep {w w' : World} {v : Value} {out : List Rec} {b m : Nat} {c : Gm.Rcv} (h : OwnR w v out) (hr : RcvAt w b m c) (hf : Fr [b, m] w w') : OwnR w' v out := h.fr hf (h.apart hr) hr.noC
end Go.Proofs.Ytfbhdmppddledaa
namespace Go.Proofs.Ytfbhdmppddledaa
open Go.RowKit

/-- 'pick'. -/
def pickI (c n : Int) : Int := (if c < 0 then -(c + 1) else c) % n
theorem pickI_nonneg (c : Int) {n : Int} (h : 1 ≤ n) : 0 ≤ pickI c n := Int.emod_nonneg _ (by omega)
theorem pickI_lt (c : Int) {n : Int} (h : 1 ≤ n) : pickI c n < n := Int.emod_lt_of_pos _ (by omega)
theorem pick_any (c n : Int) (w : World) (h1 : -9223372036854775808 ≤ c) (h2 : c ≤ 9223372036854775807) (h3 : 1 ≤ n) (h4 : n ≤ 1000000000) :
    Calls Try.prog 9 #[.int .i64 c, .int .i64 n] w fun e w' => e = .returned (.int .i64 (pickI c n)) ∧ w = w' := by
  have hn : (n == 0) = false := by simp; omega
  have hn' : ¬ n = 0 := by omega
  by_cases hc : c < 0
  · go_enter Try.func9, Try.ntmps9
    go_wp2
    go_ret
    have e1 : pickI c n = -(c + 1) % n := by unfold pickI; rw [if_pos hc]
    rw [e1]
    refine ⟨?_, rfl⟩
    show Ending.returned (.int .i64 (-((c + 1).tmod n))) = _
    rw [← Int.neg_tmod, Int.tmod_eq_emod_of_nonneg (by omega)]
  · go_enter Try.func9, Try.ntmps9
    go_wp2
    go_ret
    have e1 : pickI c n = c % n := by unfold pickI; rw [if_neg (by omega)]
    rw [e1]
    refine ⟨by simp, rfl⟩

def Gm.sameS (a b : List (Int × Int)) : Bool := decide (a = b)
theorem neq_span (a b : Int × Int) (w : World) : (binOp .neq 53 (.agg #[.int .i64 a.1, .int .i64 a.2]) (.agg #[.int .i64 b.1, .int .i64 b.2])).run Try.prog w = .ok (.bool (!decide (a = b))) w := by
  rw [run_neq_struct, show (10000 : Nat) = 9998 + 2 from rfl]
  rw [run_equalIn_agg w (9998 + 1) 53 _ _ (by kernel_rfl) (by kernel_rfl)]
  simp only [Program.fieldsOf, Try.underlying53]
  have hI : ∀ (a b : Int) (w : World), (Op.equalIn (9998 + 1) 3 (.int .i64 a) (.int .i64 b)).run Try.prog w = .ok (a == b) w := fun a b w => run_equalIn_int (P := Try.prog) w 9998 3 .i64 .i64 a b Try.underlying3
  obtain ⟨a1, a2⟩ := a
  obtain ⟨b1, b2⟩ := b
  simp [Op.eqFields, Sem.run_bind, part, run_isAgg_int, hI]
  repeat' split
  all_goals simp_all [Result.andThen]
theorem eqGuard_span (op : BinOp) (x y : Operand) (xs ys : Array Value) (w : World) : (eqGuard op 53 x y (.agg xs) (.agg ys)).run Try.prog w = .ok () w :=
  run_eqGuard_agg w op _ x y xs ys (by kernel_rfl)

/-- 'SameSpans'. -/
theorem sameSpans_any (a b : List (Int × Int)) (A B : Option Addr) (ca cb : Nat) (w : World) (ha : AtL encS 2 w A a) (hb : AtL encS 2 w B b) (la : a.length ≤ 100000) (lb : b.length ≤ 100000) :
    Calls Try.prog 24 #[.slice A a.length ca, .slice B b.length cb] w fun e w' => e = .returned (.bool (Gm.sameS a b)) ∧ Fr [] w w' := by
  by_cases hl : a.length = b.length
  · go_enter Try.func24, Try.ntmps24
    have HL := Lib.hid hl
    have hd : ((a.length : Int) != (b.length : Int)) = false := by simp [hl]
    clear hl
    go_wp2_with fail
    go_loopw [5] (fun i wr => ∃ k : Nat, i = .int .i64 k ∧ (k ≤ a.length ∧ a.take k = b.take k) ∧ Fr [] w wr) (fun i _ => a.length - (intOf i).toNat)
    case atStart => exact ⟨0, rfl, ⟨Nat.zero_le _, by simp⟩, Fr.refl _ _⟩
    case round =>
      obtain ⟨k, rfl, ⟨hk, htk⟩, hf⟩ := hrel
      have HTK := Lib.hid htk
      clear htk
      by_cases hlt : k < a.length
      · obtain ⟨b1, o1, e1, hb1, hc1⟩ := (ha.fr0 hf) (by omega)
        obtain ⟨b2, o2, e2, hb2, hc2⟩ := (hb.fr0 hf) (by have := HL.out; omega)
        subst e1 e2
        have hlt2 : k < b.length := by have := HL.out; omega
        replace hc1 := Lib.hid (hc1 k hlt)
        replace hc2 := Lib.hid (hc2 k hlt2)
        have htake : a[k] = b[k] → a.take (k + 1) = b.take (k + 1) := fun e => by rw [List.take_succ_eq_append_getElem hlt, List.take_succ_eq_append_getElem hlt2, HTK.out, e]
        have hdiff : a[k] ≠ b[k] → a ≠ b := fun h e => h (by simp only [e])
        have hq := neq_span a[k] b[k]
        generalize a[k] = c at *
        generalize b[k] = d at *
        obtain ⟨x, y⟩ := c
        obtain ⟨x', y'⟩ := d
        dsimp only at hq
        have c0 : wr.cell? ⟨b1, o1 + k * 2, none⟩ = some (.int .i64 x) := hc1.out 0 (by decide)
        have c1 : wr.cell? ⟨b1, o1 + k * 2 + 1, none⟩ = some (.int .i64 y) := hc1.out 1 (by decide)
        have d0 : wr.cell? ⟨b2, o2 + k * 2, none⟩ = some (.int .i64 x') := hc2.out 0 (by decide)
        have d1 : wr.cell? ⟨b2, o2 + k * 2 + 1, none⟩ = some (.int .i64 y') := hc2.out 1 (by decide)
        have hg := eqGuard_span
        clear hc1 hc2
        by_cases he : (x, y) = (x', y')
        · have HT := Lib.hid (htake he)
          rw [decide_eq_true he] at hq
          clear htake hdiff he
          go_wp2_with fail
          go_quiet (fail)
          go_wp2_with fail
          have f1 : Fr [] w (wr.drewN nq) := hf.drewN _
          go_roundw
          case rel => exact ⟨k + 1, by go_num, ⟨by omega, HT.out⟩, f1⟩
          case measure => simp [intOf]; omega
        · have HD := Lib.hid (hdiff he)
          rw [decide_eq_false he] at hq
          clear htake hdiff he
          go_wp2_with fail
          go_quiet (fail)
          go_wp2_with fail
          go_ret
          have HF : Hid (Gm.sameS a b = false) := Lib.hid (by have := HD.out; simp [Gm.sameS, this])
          exact ⟨by rw [HF.out]; rfl, hf.drewN _⟩
      · go_wp2_with fail
        go_ret
        have HF : Hid (Gm.sameS a b = true) := Lib.hid (by
          have e1 := HTK.out
          have e2 := HL.out
          rw [List.take_of_length_le (by omega), List.take_of_length_le (by omega)] at e1
          simp [Gm.sameS, e1])
        exact ⟨by rw [HF.out]; rfl, hf⟩
  · have HF : Hid (Gm.sameS a b = false) := Lib.hid (by simp [Gm.sameS]; intro e; exact hl (by rw [e]))
    have hd : ((a.length : Int) != (b.length : Int)) = true := by simp; omega
    go_enter Try.func24, Try.ntmps24
    go_wp2_with fail
    go_ret
    exact ⟨by rw [HF.out]; rfl, Fr.refl _ _⟩

def Gm.sameR (a b : List Rec) : Bool := decide (a = b)
/-- 'SameRecords'. -/
theorem sameRecords_any (a b : List WRec) (A B : Option Addr) (ca cb : Nat) (w : World) (ha : AtL WRec.cells 2 w A a) (hb : AtL WRec.cells 2 w B b) (la : a.length ≤ 100000) (lb : b.length ≤ 100000)
    (ka : ∀ u ∈ a, ChgsAt w u.A u.r.cs ∧ u.r.cs.length ≤ 8) (kb : ∀ u ∈ b, ChgsAt w u.A u.r.cs ∧ u.r.cs.length ≤ 8) :
    Calls Try.prog 17 #[.slice A a.length ca, .slice B b.length cb] w fun e w' => e = .returned (.bool (Gm.sameR (a.map (·.r)) (b.map (·.r)))) ∧ Fr [] w w' := by
  by_cases hl : a.length = b.length
  · go_enter Try.func17, Try.ntmps17
    have HL := Lib.hid hl
    have hd : ((a.length : Int) != (b.length : Int)) = false := by simp [hl]
    clear hl
    go_wp2_with fail
    go_loopw [5] (fun i wr => ∃ k : Nat, i = .int .i64 k ∧ (k ≤ a.length ∧ (a.map (·.r)).take k = (b.map (·.r)).take k) ∧ Fr [] w wr) (fun i _ => a.length - (intOf i).toNat)
    case atStart => exact ⟨0, rfl, ⟨Nat.zero_le _, by simp⟩, Fr.refl _ _⟩
    case round =>
      obtain ⟨k, rfl, ⟨hk, htk⟩, hf⟩ := hrel
      have HTK := Lib.hid htk
      clear htk
      by_cases hlt : k < a.length
      · obtain ⟨b1, o1, e1, hb1, hc1⟩ := (ha.fr0 hf) (by omega)
        obtain ⟨b2, o2, e2, hb2, hc2⟩ := (hb.fr0 hf) (by have := HL.out; omega)
        subst e1 e2
        have hlt2 : k < b.length := by have := HL.out; omega
        replace hc1 := Lib.hid (hc1 k hlt)
        replace hc2 := Lib.hid (hc2 k hlt2)
        have ka1 := ka a[k] (List.getElem_mem _)
        have kb1 := kb b[k] (List.getElem_mem _)
        have htake : a[k].r = b[k].r → (a.map (·.r)).take (k + 1) = (b.map (·.r)).take (k + 1) := fun e => by
          rw [List.take_succ_eq_append_getElem (by simpa using hlt), List.take_succ_eq_append_getElem (by simpa using hlt2), HTK.out, List.getElem_map, List.getElem_map, e]
        have hdiff : a[k].r ≠ b[k].r → a.map (·.r) ≠ b.map (·.r) := fun h e => h (by
          have h1 : (a.map (·.r))[k]? = (b.map (·.r))[k]? := by rw [e]
          rw [List.getElem?_map, List.getElem?_map, List.getElem?_eq_getElem hlt, List.getElem?_eq_getElem hlt2] at h1
          simpa using h1)
        generalize a[k] = c at *
        generalize b[k] = d at *
        have c0 : wr.cell? ⟨b1, o1 + k * 2, none⟩ = some (.int .i64 c.r.p) := hc1.out 0 (by decide)
        have c1 : wr.cell? ⟨b1, o1 + k * 2 + 1, none⟩ = some (.slice c.A c.r.cs.length c.cap) := hc1.out 1 (by decide)
        have d0 : wr.cell? ⟨b2, o2 + k * 2, none⟩ = some (.int .i64 d.r.p) := hc2.out 0 (by decide)
        have d1 : wr.cell? ⟨b2, o2 + k * 2 + 1, none⟩ = some (.slice d.A d.r.cs.length d.cap) := hc2.out 1 (by decide)
        have hfd : Fr [] w wr.drew := hf.drew
        have ka2 := ka1.1.fr hfd (by simp)
        have kb2 := kb1.1.fr hfd (by simp)
        clear hc1 hc2
        go_wp2_with fail
        go_region_held3 (fun w' => w'.cell? ⟨b1, o1 + k * 2, none⟩ = some (.int .i64 c.r.p) ∧ w'.cell? ⟨b1, o1 + k * 2 + 1, none⟩ = some (.slice c.A c.r.cs.length c.cap) ∧ w'.cell? ⟨b2, o2 + k * 2, none⟩ = some (.int .i64 d.r.p) ∧ w'.cell? ⟨b2, o2 + k * 2 + 1, none⟩ = some (.slice d.A d.r.cs.length d.cap))
          (first | go_keep | exact ⟨(hcc _ _ hb1).trans c0, (hcc _ _ hb1).trans c1, (hcc _ _ hb2).trans d0, (hcc _ _ hb2).trans d1⟩)
          (first
            | (go_at_call 36; refine (same_any c.r d.r c.A d.A c.cap d.cap _ ka2 kb2 (by omega) (by omega)).mono ?_; rintro e w1 ⟨rfl, f1⟩; obtain ⟨hcc, hff⟩ := f1.rules))
        have f2 : Fr [] w w1 := hfd.trans f1
        clear hcc hff f1 c0 c1 d0 d1
        cases he : Rw.same c.r d.r
        · have hne : c.r ≠ d.r := fun e => by rw [e, Rw.same_self] at he; cases he
          have HD := Lib.hid (hdiff hne)
          clear he hne htake hdiff
          go_wp2_with fail
          go_ret
          have HF : Hid (Gm.sameR (a.map (·.r)) (b.map (·.r)) = false) := Lib.hid (by have := HD.out; simp [Gm.sameR, this])
          exact ⟨by rw [HF.out]; rfl, f2⟩
        · have HT := Lib.hid (htake (Rw.same_true.1 he))
          clear he htake hdiff
          go_wp2_with fail
          go_roundw
          case rel => exact ⟨k + 1, by go_num, ⟨by omega, HT.out⟩, f2⟩
          case measure => simp [intOf]; omega
      · go_wp2_with fail
        go_ret
        have HF : Hid (Gm.sameR (a.map (·.r)) (b.map (·.r)) = true) := Lib.hid (by
          have e1 := HTK.out
          have e2 := HL.out
          rw [List.take_of_length_le (by simp; omega), List.take_of_length_le (by simp; omega)] at e1
          simp only [Gm.sameR, e1, decide_true])
        exact ⟨by rw [HF.out]; rfl, hf⟩
  · have HF : Hid (Gm.sameR (a.map (·.r)) (b.map (·.r)) = false) := Lib.hid (by
      simp only [Gm.sameR, decide_eq_false_iff_not]
      intro e
      exact hl (by have := congrArg List.length e; simpa using this))
    have hd : ((a.length : Int) != (b.length : Int)) = true := by simp; omega
    go_enter Try.func17, Try.ntmps17
    go_wp2_with fail
    go_ret
    exact ⟨by rw [HF.out]; rfl, Fr.refl _ _⟩
end Go.Proofs.Ytfbhdmppddledaa
namespace Go.Proofs.Ytfbhdmppddledaa
open Go.RowKit

theorem ready1_nil (bx : Nat) (W : World) (l : Nat) (hx : W.cell? ⟨bx, 0, none⟩ = some (.pointer none)) :
    Calls Try.prog 42 #[.func (.yield l) #[] #[], .pointer (some ⟨bx, 0, none⟩)] W fun e W' => (∃ v, e = .returned v) ∧ W = W' := by
  go_enter Try.func42, Try.ntmps42
  go_wp2_with fail
  refine wp_loop_rounds 1 ?_
  rw [rounds_succ]
  go_wp2_with fail
  go_end0
  exact ⟨⟨_, rfl⟩, rfl⟩
theorem take_nil (w : World) : Calls Try.prog 10 #[.pointer none] w fun e w' => e = .returned (.slice none 0 0) ∧ Fr [] w w' := by
  refine (callsIn_wide (n := 6)).1 ?_
  refine callsIn_of_wp_marks Try.func10 rfl trivial ?_ rfl
  simp only [Try.ntmps10, List.size_toArray, List.length_cons, List.length_nil, Nat.reduceAdd, Nat.reduceSub, Array.replicate_succ, Array.replicate_zero, List.push_toArray, List.append_toArray, List.nil_append, List.cons_append]
  gi_wp2
  refine ⟨trivial, ?_⟩
  refine (callsIn_wide.2 (ready_any _ _)).mono ?_
  rintro e w' ⟨rfl, rfl⟩
  gi_wp2
  have F0 : Fr [] w ((w.alloc (.cells #[.slice none 0 0] 25)).alloc (.cells #[.pointer none] 27)) := ((Fr.refl _ _).alloc _).alloc _
  have hB0 := (Blk.new w 25 #[.slice none 0 0]).alloc (.cells #[.pointer none] 27)
  have hX0 := Blk.new (w.alloc (.cells #[.slice none 0 0] 25)) 27 #[.pointer none]
  rw [World.size_alloc] at hX0
  generalize ((w.alloc (.cells #[.slice none 0 0] 25)).alloc (.cells #[.pointer none] 27)) = W0 at *
  refine wpIn_range_rec rfl (by omega) (gf := 42) (lb := #[.pointer (some ⟨w.heap.size + 1, 0, none⟩)]) rfl trivial (enters_of Try.func42 (by kernel_rfl) rfl) ?_
  intro fn hfn rec hrec
  have F1 : Fr [] W0 ((W0.alloc (.deferred (some []))).alloc (.loop rec)) := ((Fr.refl _ _).alloc _).alloc _
  have hL1 : ((W0.alloc (.deferred (some []))).alloc (.loop rec)).heap[W0.heap.size + 1]? = some (.loop rec) := by
    have := World.alloc_heap_new (W0.alloc (.deferred (some []))) (.loop rec); rwa [World.size_alloc] at this
  have hK1 : ((W0.alloc (.deferred (some []))).alloc (.loop rec)).heap[W0.heap.size]? = some (.deferred (some [])) := (Below.heap_alloc _ _ _ (by simp)).trans (World.alloc_heap_new W0 _)
  have hX1 := hX0.fr F1 (by simp)
  have hB1 := hB0.fr F1 (by simp)
  have hbl : w.heap.size < W0.heap.size := hB0.lt
  refine (callsIn_wide.2 (ready1_nil (w.heap.size + 1) _ (W0.heap.size + 1) (hX1.cell 0))).mono ?_
  rintro e W2 ⟨⟨v, rfl⟩, rfl⟩
  have F2 := F0.trans F1
  generalize (W0.alloc (.deferred (some []))).alloc (.loop rec) = W2 at *
  have hend := run_endLoop (P := Try.prog) hL1 (by rw [hrec]; simp)
  have hz0 := F0.size
  have hpe : rec.pending = none := by rw [hrec]
  have F3 : Fr [] w (W2.putObj (W0.heap.size + 1) (.loop { rec with state := .exhausted })) := putObj_fr F2 (.inr (by omega)) _
  have hB3 : Blk (W2.putObj (W0.heap.size + 1) (.loop { rec with state := .exhausted })) w.heap.size 25 #[.slice none 0 0] := (World.putObj_heap_other (show w.heap.size ≠ W0.heap.size + 1 by omega)).trans hB1
  have hK3 : (W2.putObj (W0.heap.size + 1) (.loop { rec with state := .exhausted })).heap[W0.heap.size]? = some (.deferred (some [])) := (World.putObj_heap_other (by omega)).trans hK1
  refine ⟨none, W2.putObj (W0.heap.size + 1) (.loop { rec with state := .exhausted }), by rw [hend, hpe], ?_⟩
  clear hend
  generalize W2.putObj (W0.heap.size + 1) (.loop { rec with state := .exhausted }) = W3 at *
  have hc3 := hB3.cell 0
  have hf3 := hB3.frozen 0
  clear hrec
  dsimp only
  gi_wp2
  have hKs : (W3.setCell ⟨w.heap.size, 0, none⟩ (.slice none 0 0)).heap[W0.heap.size]? = some (.deferred (some [])) := (Below.heap_setCell W3 _ _ _ (show W0.heap.size ≠ w.heap.size by omega)).trans hK3
  refine ⟨by simp, .inl ⟨_, _, rfl, run_takeDeferred hKs, ?_⟩⟩
  have hB4 : Blk ((W3.setCell ⟨w.heap.size, 0, none⟩ (.slice none 0 0)).putObj W0.heap.size (.deferred none)) w.heap.size 25 #[.slice none 0 0] := by
    have := hB3.set_ 0 (.slice none 0 0)
    exact (World.putObj_heap_other (show w.heap.size ≠ W0.heap.size by omega)).trans this
  have F4 : Fr [] w ((W3.setCell ⟨w.heap.size, 0, none⟩ (.slice none 0 0)).putObj W0.heap.size (.deferred none)) := putObj_fr (F3.setCell (.inr (by simp)) _) (.inr (by omega)) _
  generalize (W3.setCell ⟨w.heap.size, 0, none⟩ (.slice none 0 0)).putObj W0.heap.size (.deferred none) = W4 at *
  have hc4 := hB4.cell 0
  refine ⟨_, ?_, rfl, F4⟩
  simp [results, Try.results10, go_sem, hc4]

theorem sameRecords_own (a : List Rec) (b : List WRec) (A B : Option Addr) (n ca cb : Nat) (w : World) (ha : OwnR w (.slice A n ca) a) (hb : AtL WRec.cells 2 w B b) (la : n ≤ 100000) (lb : b.length ≤ 100000)
    (kb : ∀ u ∈ b, ChgsAt w u.A u.r.cs ∧ u.r.cs.length ≤ 8) :
    Calls Try.prog 17 #[.slice A n ca, .slice B b.length cb] w fun e w' => e = .returned (.bool (Gm.sameR a (b.map (·.r)))) ∧ Fr [] w w' := by
  obtain ⟨us, h1, rfl, rfl, h4⟩ := ha.at1
  exact sameRecords_any us b A B ca cb w h1 hb la lb h4 kb

set_option maxRecDepth 100000 in
set_option maxHeartbeats 4000000 in
theorem sane_any (w : World) : Calls Try.prog 4 #[] w fun e w' => e = .returned (.bool true) ∧ Fr [] w w' := by
  go_enter Try.func4, Try.ntmps4
  go_wp2_with fail
  refine (gnew_any 3 _ (by decide) (by decide)).mono ?_
  rintro e w0 ⟨rfl, h0, F0⟩
  obtain ⟨b, m, hb, hm, hbm⟩ : ∃ b m, b = w.heap.size + 1 ∧ m = w.heap.size ∧ Hid (∀ i ∈ [b, m], i ∈ ([] : List Nat) ∨ w.heap.size ≤ i) := ⟨_, _, rfl, rfl, Lib.hid (by simp)⟩
  rw [← hb, ← hm] at h0
  rw [← hb]
  clear hb hm
  rw [show Gm.new 3 = ⟨3, 3, []⟩ from rfl] at h0
  go_wp2_with fail
  refine (gnew_bad (-1) _ (by decide)).mono ?_
  rintro e w' ⟨rfl, rfl⟩
  go_wp2_with fail
  refine (gnew_bad 10001 _ (by decide)).mono ?_
  rintro e w' ⟨rfl, rfl⟩
  go_wp2_with fail
  refine (record_any 6 _).mono ?_
  rintro e w1 ⟨rfl, hc, f⟩
  have h1 := h0.fr0 f
  have F1 : Fr [] w w1 := F0.trans f
  clear f h0 F0
  go_wp2_with fail
  refine (recv_any b m ⟨3, 3, []⟩ 6 _ _ h1 hc).mono ?_
  rintro e w2 ⟨rfl, h2, f⟩
  clear hc
  rw [show Gm.took ⟨3, 3, []⟩ (recOf 6) = true from by kernel_rfl]
  rw [show Gm.receive ⟨3, 3, []⟩ (recOf 6) = ⟨3, 6, [(6, recOf 6)]⟩ from by kernel_rfl] at h2
  have F2 : Fr [] w w2 := F1.trans' f (by exact hbm.out)
  clear f h1 F1
  go_wp2_with fail
  refine (record_any 4 _).mono ?_
  rintro e w3 ⟨rfl, hc, f⟩
  have h3 := h2.fr0 f
  have F3 : Fr [] w w3 := F2.trans f
  clear f h2 F2
  go_wp2_with fail
  refine (recv_any b m ⟨3, 6, [(6, recOf 6)]⟩ 4 _ _ h3 hc).mono ?_
  rintro e w4 ⟨rfl, h4, f⟩
  clear hc
  rw [show Gm.took ⟨3, 6, [(6, recOf 6)]⟩ (recOf 4) = true from by kernel_rfl]
  rw [show Gm.receive ⟨3, 6, [(6, recOf 6)]⟩ (recOf 4) = ⟨3, 6, [(4, recOf 4), (6, recOf 6)]⟩ from by kernel_rfl] at h4
  have F4 : Fr [] w w4 := F3.trans' f (by exact hbm.out)
  clear f h3 F3
  go_wp2_with fail
  refine (record_any 6 _).mono ?_
  rintro e w5 ⟨rfl, hc, f⟩
  have h5 := h4.fr0 f
  have F5 : Fr [] w w5 := F4.trans f
  clear f h4 F4
  go_wp2_with fail
  refine (recv_any b m ⟨3, 6, [(4, recOf 4), (6, recOf 6)]⟩ 6 _ _ h5 hc).mono ?_
  rintro e w6 ⟨rfl, h6, f⟩
  clear hc
  rw [show Gm.took ⟨3, 6, [(4, recOf 4), (6, recOf 6)]⟩ (recOf 6) = false from by kernel_rfl]
  rw [show Gm.receive ⟨3, 6, [(4, recOf 4), (6, recOf 6)]⟩ (recOf 6) = ⟨3, 6, [(4, recOf 4), (6, recOf 6)]⟩ from by kernel_rfl] at h6
  have F6 : Fr [] w w6 := F5.trans' f (by exact hbm.out)
  clear f h5 F5
  go_wp2_with fail
  refine (record_any 3 _).mono ?_
  rintro e w7 ⟨rfl, hc, f⟩
  have h7 := h6.fr0 f
  have F7 : Fr [] w w7 := F6.trans f
  clear f h6 F6
  go_wp2_with fail
  refine (recv_any b m ⟨3, 6, [(4, recOf 4), (6, recOf 6)]⟩ 3 _ _ h7 hc).mono ?_
  rintro e w8 ⟨rfl, h8, f⟩
  clear hc
  rw [show Gm.took ⟨3, 6, [(4, recOf 4), (6, recOf 6)]⟩ (recOf 3) = false from by kernel_rfl]
  rw [show Gm.receive ⟨3, 6, [(4, recOf 4), (6, recOf 6)]⟩ (recOf 3) = ⟨3, 6, [(4, recOf 4), (6, recOf 6)]⟩ from by kernel_rfl] at h8
  have F8 : Fr [] w w8 := F7.trans' f (by exact hbm.out)
  clear f h7 F7
  go_wp2_with fail
  refine (missing_any b m ⟨3, 6, [(4, recOf 4), (6, recOf 6)]⟩ _ h8).mono ?_
  rintro e w9 ⟨vM, ⟨rfl, hM⟩, f⟩
  rw [show Gm.missing (⟨3, 6, [(4, recOf 4), (6, recOf 6)]⟩ : Gm.Rcv).L (⟨3, 6, [(4, recOf 4), (6, recOf 6)]⟩ : Gm.Rcv).pos ((⟨3, 6, [(4, recOf 4), (6, recOf 6)]⟩ : Gm.Rcv).high - (⟨3, 6, [(4, recOf 4), (6, recOf 6)]⟩ : Gm.Rcv).pos).toNat = [(5, 5)] from by kernel_rfl] at hM
  have h9 := h8.fr0 f
  have F9 : Fr [] w w9 := F8.trans f
  clear f h8 F8
  obtain ⟨AM, cM, eM⟩ := hM.val
  subst eM
  go_wp2_with fail
  refine (highest_any b m ⟨3, 6, [(4, recOf 4), (6, recOf 6)]⟩ _ h9).mono ?_
  rintro e w' ⟨rfl, rfl⟩
  go_wp2_with fail
  refine (take_any b m ⟨3, 6, [(4, recOf 4), (6, recOf 6)]⟩ _ h9).mono ?_
  rintro e w10 ⟨vL, ⟨rfl, hL⟩, h10, f⟩
  rw [show Gm.take (⟨3, 6, [(4, recOf 4), (6, recOf 6)]⟩ : Gm.Rcv).L.length ⟨3, 6, [(4, recOf 4), (6, recOf 6)]⟩ = ([recOf 4], ⟨4, 6, [(6, recOf 6)]⟩) from by kernel_rfl] at hL h10
  dsimp only at hL h10
  replace hM := hM.keep h9 (by decide) f
  have F10 : Fr [] w w10 := F9.trans' f (by exact hbm.out)
  clear f h9 F9
  obtain ⟨uL, oL, rL, kL⟩ := hL
  obtain ⟨AL, cL, eL⟩ := oL.val
  subst eL
  have lL : uL.length = 1 := by have := congrArg List.length rL; simpa using this
  rw [lL] at oL ⊢
  have hL : OwnR w10 (.slice AL 1 cL) [recOf 4] := ⟨uL, oL, rL, kL⟩
  clear oL rL kL lL
  go_wp2_with fail
  refine (announce_any b m ⟨4, 6, [(6, recOf 6)]⟩ 8 _ h10).mono ?_
  rintro e w11 ⟨rfl, h11, f⟩
  rw [show Gm.announce ⟨4, 6, [(6, recOf 6)]⟩ 8 = ⟨4, 8, [(6, recOf 6)]⟩ from by kernel_rfl] at h11
  replace hM := hM.keep h10 (by decide) f
  replace hL := hL.keep h10 f
  have F11 : Fr [] w w11 := F10.trans' f (by exact hbm.out)
  clear f h10 F10
  go_wp2_with fail
  refine (missing_any b m ⟨4, 8, [(6, recOf 6)]⟩ _ h11).mono ?_
  rintro e w12 ⟨vN, ⟨rfl, hN⟩, f⟩
  rw [show Gm.missing (⟨4, 8, [(6, recOf 6)]⟩ : Gm.Rcv).L (⟨4, 8, [(6, recOf 6)]⟩ : Gm.Rcv).pos ((⟨4, 8, [(6, recOf 6)]⟩ : Gm.Rcv).high - (⟨4, 8, [(6, recOf 6)]⟩ : Gm.Rcv).pos).toNat = [(5, 5), (7, 8)] from by kernel_rfl] at hN
  have h12 := h11.fr0 f
  replace hM := hM.keep0 f
  replace hL := hL.keep0 f
  have F12 : Fr [] w w12 := F11.trans f
  clear f h11 F11
  obtain ⟨AN, cN, eN⟩ := hN.val
  subst eN
  go_wp2_with fail
  refine (record_any 5 _).mono ?_
  rintro e w13 ⟨rfl, hc, f⟩
  have h13 := h12.fr0 f
  replace hM := hM.keep0 f
  replace hL := hL.keep0 f
  replace hN := hN.keep0 f
  have F13 : Fr [] w w13 := F12.trans f
  clear f h12 F12
  go_wp2_with fail
  refine (recv_any b m ⟨4, 8, [(6, recOf 6)]⟩ 5 _ _ h13 hc).mono ?_
  rintro e w14 ⟨rfl, h14, f⟩
  clear hc
  rw [show Gm.took ⟨4, 8, [(6, recOf 6)]⟩ (recOf 5) = true from by kernel_rfl]
  rw [show Gm.receive ⟨4, 8, [(6, recOf 6)]⟩ (recOf 5) = ⟨4, 8, [(5, recOf 5), (6, recOf 6)]⟩ from by kernel_rfl] at h14
  replace hM := hM.keep h13 (by decide) f
  replace hL := hL.keep h13 f
  replace hN := hN.keep h13 (by decide) f
  have F14 : Fr [] w w14 := F13.trans' f (by exact hbm.out)
  clear f h13 F13
  go_wp2_with fail
  refine (take_any b m ⟨4, 8, [(5, recOf 5), (6, recOf 6)]⟩ _ h14).mono ?_
  rintro e w15 ⟨vK, ⟨rfl, hK⟩, h15, f⟩
  rw [show Gm.take (⟨4, 8, [(5, recOf 5), (6, recOf 6)]⟩ : Gm.Rcv).L.length ⟨4, 8, [(5, recOf 5), (6, recOf 6)]⟩ = ([recOf 5, recOf 6], ⟨6, 8, []⟩) from by kernel_rfl] at hK h15
  dsimp only at hK h15
  replace hM := hM.keep h14 (by decide) f
  replace hL := hL.keep h14 f
  replace hN := hN.keep h14 (by decide) f
  have F15 : Fr [] w w15 := F14.trans' f (by exact hbm.out)
  clear f h14 F14
  obtain ⟨uK, oK, rK, kK⟩ := hK
  obtain ⟨AK, cK, eK⟩ := oK.val
  subst eK
  have lK : uK.length = 2 := by have := congrArg List.length rK; simpa using this
  rw [lK] at oK ⊢
  have hK : OwnR w15 (.slice AK 2 cK) [recOf 5, recOf 6] := ⟨uK, oK, rK, kK⟩
  clear oK rK kK lK
  go_wp2_with fail
  refine (announce_nil 5 _).mono ?_
  rintro e w' ⟨rfl, rfl⟩
  go_wp2_with fail
  refine (greset_nil 5 _).mono ?_
  rintro e w' ⟨rfl, rfl⟩
  go_wp2_with fail
  refine (record_any 1 _).mono ?_
  rintro e w16 ⟨rfl, hc, f⟩
  have h16 := h15.fr0 f
  replace hM := hM.keep0 f
  replace hL := hL.keep0 f
  replace hN := hN.keep0 f
  replace hK := hK.keep0 f
  have F16 : Fr [] w w16 := F15.trans f
  clear f h15 F15
  clear hc
  go_wp2_with fail
  refine (recv_nil 1 _ _).mono ?_
  rintro e w17 ⟨rfl, f⟩
  have h17 := h16.fr0 f
  replace hM := hM.keep0 f
  replace hL := hL.keep0 f
  replace hN := hN.keep0 f
  replace hK := hK.keep0 f
  have F17 : Fr [] w w17 := F16.trans f
  clear f h16 F16
  go_wp2_with fail
  refine (position_nil _).mono ?_
  rintro e w' ⟨rfl, rfl⟩
  go_wp2_with fail
  refine (highest_nil _).mono ?_
  rintro e w' ⟨rfl, rfl⟩
  go_wp2_with fail
  refine (take_nil _).mono ?_
  rintro e w18 ⟨rfl, f⟩
  have h18 := h17.fr0 f
  replace hM := hM.keep0 f
  replace hL := hL.keep0 f
  replace hN := hN.keep0 f
  replace hK := hK.keep0 f
  have F18 : Fr [] w w18 := F17.trans f
  clear f h17 F17
  go_wp2_with fail
  refine (missing_nil _).mono ?_
  rintro e w' ⟨rfl, rfl⟩
  go_wp2_with fail
  have f : Fr [] w18 (w18.alloc (.cells #[.int .i64 5, .int .i64 5] 53)) := (Fr.refl _ _).alloc _
  have hb := Blk.new w18 53 #[.int .i64 5, .int .i64 5]
  have h19 := h18.fr0 f
  replace hM := hM.keep0 f
  replace hL := hL.keep0 f
  replace hN := hN.keep0 f
  replace hK := hK.keep0 f
  have F19 : Fr [] w _ := F18.trans f
  clear f h18 F18
  generalize w18.alloc (.cells #[.int .i64 5, .int .i64 5] 53) = w19 at *
  refine (sameSpans_any [(5, 5)] [(5, 5)] AM _ cM 1 _ (hM.at1 encS_len).1 (AtL.of_blk encS_len hb rfl) (by decide) (by decide)).mono ?_
  rintro e w20 ⟨rfl, f⟩
  clear hb
  rw [show Gm.sameS [(5, 5)] [(5, 5)] = true from by kernel_rfl]
  have h20 := h19.fr0 f
  replace hM := hM.keep0 f
  replace hL := hL.keep0 f
  replace hN := hN.keep0 f
  replace hK := hK.keep0 f
  have F20 : Fr [] w w20 := F19.trans f
  clear f h19 F19
  go_wp2_with fail
  have f : Fr [] w20 (w20.alloc (.cells #[.int .i64 5, .int .i64 5, .int .i64 7, .int .i64 8] 53)) := (Fr.refl _ _).alloc _
  have hb := Blk.new w20 53 #[.int .i64 5, .int .i64 5, .int .i64 7, .int .i64 8]
  have h21 := h20.fr0 f
  replace hL := hL.keep0 f
  replace hN := hN.keep0 f
  replace hK := hK.keep0 f
  have F21 : Fr [] w _ := F20.trans f
  clear f h20 F20
  generalize w20.alloc (.cells #[.int .i64 5, .int .i64 5, .int .i64 7, .int .i64 8] 53) = w21 at *
  refine (sameSpans_any [(5, 5), (7, 8)] [(5, 5), (7, 8)] AN _ cN 2 _ (hN.at1 encS_len).1 (AtL.of_blk encS_len hb rfl) (by decide) (by decide)).mono ?_
  rintro e w22 ⟨rfl, f⟩
  clear hb
  rw [show Gm.sameS [(5, 5), (7, 8)] [(5, 5), (7, 8)] = true from by kernel_rfl]
  have h22 := h21.fr0 f
  replace hL := hL.keep0 f
  replace hN := hN.keep0 f
  replace hK := hK.keep0 f
  have F22 : Fr [] w w22 := F21.trans f
  clear f h21 F21
  go_wp2_with fail
  refine (record_any 4 _).mono ?_
  rintro e w23 ⟨rfl, hc4, f⟩
  have h23 := h22.fr0 f
  replace hL := hL.keep0 f
  replace hK := hK.keep0 f
  generalize w22.heap.size + 1 = g4 at *
  have F23 : Fr [] w w23 := F22.trans f
  clear f h22 F22
  go_wp2_with fail
  have f : Fr [] w23 (w23.alloc (.cells #[.int .i64 4, .slice (some ⟨g4, 0, none⟩) 1 1] 34)) := (Fr.refl _ _).alloc _
  have hb := Blk.new w23 34 #[.int .i64 4, .slice (some ⟨g4, 0, none⟩) 1 1]
  replace hc4 := hc4.fr f NoC.nil
  have h24 := h23.fr0 f
  replace hL := hL.keep0 f
  replace hK := hK.keep0 f
  have F24 : Fr [] w _ := F23.trans f
  clear f h23 F23
  generalize w23.alloc (.cells #[.int .i64 4, .slice (some ⟨g4, 0, none⟩) 1 1] 34) = w24 at *
  refine (sameRecords_own [recOf 4] [⟨recOf 4, some ⟨g4, 0, none⟩, 1⟩] AL _ 1 cL 1 _ hL (AtL.of_blk WRec.len hb rfl) (by decide) (by simp) (by
    intro u hu
    simp only [List.mem_cons, List.not_mem_nil, or_false] at hu
    subst hu
    exact ⟨hc4.1, by simp [recOf]⟩)).mono ?_
  rintro e w25 ⟨rfl, f⟩
  clear hb hc4
  rw [show Gm.sameR [recOf 4] (([⟨recOf 4, some ⟨g4, 0, none⟩, 1⟩] : List WRec).map (·.r)) = true from by simp [Gm.sameR]]
  have h25 := h24.fr0 f
  replace hL := hL.keep0 f
  replace hK := hK.keep0 f
  have F25 : Fr [] w w25 := F24.trans f
  clear f h24 F24
  go_wp2_with fail
  refine (record_any 5 _).mono ?_
  rintro e w26 ⟨rfl, hc5, f⟩
  have h26 := h25.fr0 f
  replace hK := hK.keep0 f
  generalize w25.heap.size + 1 = g5 at *
  have F26 : Fr [] w w26 := F25.trans f
  clear f h25 F25
  go_wp2_with fail
  refine (record_any 6 _).mono ?_
  rintro e w27 ⟨rfl, hc6, f⟩
  have h27 := h26.fr0 f
  replace hK := hK.keep0 f
  replace hc5 := hc5.fr f NoC.nil
  generalize w26.heap.size + 1 = g6 at *
  have F27 : Fr [] w w27 := F26.trans f
  clear f h26 F26
  go_wp2_with fail
  have f : Fr [] w27 (w27.alloc (.cells #[.int .i64 5, .slice (some ⟨g5, 0, none⟩) 1 1, .int .i64 6, .slice (some ⟨g6, 0, none⟩) 1 1] 34)) := (Fr.refl _ _).alloc _
  have hb := Blk.new w27 34 #[.int .i64 5, .slice (some ⟨g5, 0, none⟩) 1 1, .int .i64 6, .slice (some ⟨g6, 0, none⟩) 1 1]
  replace hc5 := hc5.fr f NoC.nil
  replace hc6 := hc6.fr f NoC.nil
  have h28 := h27.fr0 f
  replace hK := hK.keep0 f
  have F28 : Fr [] w _ := F27.trans f
  clear f h27 F27
  generalize w27.alloc (.cells #[.int .i64 5, .slice (some ⟨g5, 0, none⟩) 1 1, .int .i64 6, .slice (some ⟨g6, 0, none⟩) 1 1] 34) = w28 at *
  refine (sameRecords_own [recOf 5, recOf 6] [⟨recOf 5, some ⟨g5, 0, none⟩, 1⟩, ⟨recOf 6, some ⟨g6, 0, none⟩, 1⟩] AK _ 2 cK 2 _ hK (AtL.of_blk WRec.len hb rfl) (by decide) (by simp) (by
    intro u hu
    simp only [List.mem_cons, List.not_mem_nil, or_false] at hu
    rcases hu with rfl | rfl
    · exact ⟨hc5.1, by simp [recOf]⟩
    · exact ⟨hc6.1, by simp [recOf]⟩
    )).mono ?_
  rintro e w29 ⟨rfl, f⟩
  clear hb hc5 hc6
  rw [show Gm.sameR [recOf 5, recOf 6] (([⟨recOf 5, some ⟨g5, 0, none⟩, 1⟩, ⟨recOf 6, some ⟨g6, 0, none⟩, 1⟩] : List WRec).map (·.r)) = true from by simp [Gm.sameR]]
  have h29 := h28.fr0 f
  replace hK := hK.keep0 f
  have F29 : Fr [] w w29 := F28.trans f
  clear f h28 F28
  go_wp2_with fail
  refine (position_any b m ⟨6, 8, []⟩ _ h29).mono ?_
  rintro e w' ⟨rfl, rfl⟩
  go_wp2_with fail
  go_ret
  exact ⟨rfl, F29⟩
end Go.Proofs.Ytfbhdmppddledaa
namespace Go.Proofs.Ytfbhdmppddledaa

/-- What holds between two deliveries: 'out' has been taken; what waits are records of the log. -/
structure Gc (l : List Rec) (c : Gm.Rcv) (out : List Rec) : Prop where
  p0 : 0 ≤ c.pos
  pN : c.pos ≤ l.length
  out : out = l.take c.pos.toNat
  has : ∀ q r, mget c.L q = some r → ∃ i, ∃ h : i < l.length, q = (i : Int) + 1 ∧ r = l[i] ∧ c.pos < q
  high : c.high ≤ l.length
theorem Gc.new (l : List Rec) : Gc l (Gm.new 0) [] := ⟨by simp [Gm.new], by simp [Gm.new], rfl, fun q r h => by simp [Gm.new, mget] at h, by simp [Gm.new]⟩
/-- What is sure of a delivery: nothing that waits is lost, and the record waits or was taken. -/
theorem Gc.receive {l : List Rec} {c : Gm.Rcv} {out : List Rec} (h : Gc l c out) (hl : Lg.Ok l) (hn : l.length ≤ 40) {i : Nat} (hi : i < l.length) :
    Gc l (Gm.receive c l[i]) out ∧ (Gm.receive c l[i]).pos = c.pos ∧ (c.pos < (i : Int) + 1 → mget (Gm.receive c l[i]).L ((i : Int) + 1) = some l[i]) ∧ ∀ q r, mget c.L q = some r → mget (Gm.receive c l[i]).L q = some r := by
  have hp := hl.at_ hi
  have hv := hl.valid hi
  have h0 := h.p0
  by_cases hs : c.pos < (i : Int) + 1
  · have hsee : Gm.sees c l[i] = true := by
      unfold Gm.sees
      rw [hv, hp, decide_eq_true hs]
      rfl
    have hrec : Gm.receive c l[i] = Gm.kept ⟨c.pos, Gm.mx c.high l[i].p, c.L⟩ l[i] := by
      unfold Gm.receive
      rw [if_pos hsee]
    have hhi : Gm.mx c.high l[i].p ≤ l.length := by
      rw [hp]
      exact Gm.mx_le h.high (by omega)
    have hkk : Gm.keeps ⟨c.pos, Gm.mx c.high l[i].p, c.L⟩ l[i] = Gm.keeps c l[i] := rfl
    cases hg : mget c.L ((i : Int) + 1) with
    | some r =>
      have hk : Gm.keeps c l[i] = false := by
        unfold Gm.keeps
        rw [hp, hg]
        rfl
      rw [hrec, Gm.kept_no (by rw [hkk, hk])]
      refine ⟨⟨h0, h.pN, h.out, h.has, hhi⟩, rfl, fun _ => ?_, fun q r hq => hq⟩
      obtain ⟨j, hj, e1, e2, _⟩ := h.has _ _ hg
      obtain rfl : i = j := by omega
      rw [← e2]
      exact hg
    | none =>
      have hk : Gm.keeps c l[i] = true := by
        unfold Gm.keeps
        rw [hp, hg]
        have : decide ((i : Int) + 1 - c.pos ≤ 256) = true := decide_eq_true (by omega)
        rw [this]
        rfl
      rw [hrec, Gm.kept_yes (by rw [hkk, hk])]
      refine ⟨⟨h0, h.pN, h.out, fun q r hq => ?_, hhi⟩, rfl, fun _ => ?_, fun q r hq => ?_⟩
      · have hq : mget (mput c.L l[i].p l[i]) q = some r := hq
        by_cases e : q = l[i].p
        · subst e
          rw [mget_put_same] at hq
          exact ⟨i, hi, hp, (Option.some.inj hq).symm, by show c.pos < _; rw [hp]; exact hs⟩
        · rw [mget_put_other e] at hq
          exact h.has q r hq
      · show mget (mput c.L l[i].p l[i]) ((i : Int) + 1) = _
        rw [← hp, mget_put_same]
      · show mget (mput c.L l[i].p l[i]) q = _
        have e : q ≠ l[i].p := by
          intro e
          rw [e, hp, hg] at hq
          cases hq
        rw [mget_put_other e]
        exact hq
  · have hsee : Gm.sees c l[i] = false := by
      unfold Gm.sees
      rw [hv, hp, decide_eq_false hs]
      rfl
    have hrec : Gm.receive c l[i] = c := by
      unfold Gm.receive
      rw [if_neg (by rw [hsee]; decide)]
    rw [hrec]
    exact ⟨h, rfl, fun h1 => absurd h1 hs, fun q r hq => hq⟩
theorem Gc.take {l : List Rec} (hl : Lg.Ok l) : ∀ (n : Nat) (c : Gm.Rcv) (out : List Rec), Gc l c out → Gm.Ok c → c.L.length ≤ n →
    Gc l (Gm.take n c).2 (out ++ (Gm.take n c).1) ∧ c.pos ≤ (Gm.take n c).2.pos ∧ mget (Gm.take n c).2.L ((Gm.take n c).2.pos + 1) = none ∧ (∀ q r, mget c.L q = some r → (Gm.take n c).2.pos < q → mget (Gm.take n c).2.L q = some r) ∧ (Gm.take n c).2.high = c.high
  | 0, c, out, h, _, hn => by
    have hnil : c.L = [] := List.eq_nil_of_length_eq_zero (by omega)
    refine ⟨by simpa [Gm.take] using h, Int.le_refl _, by simp [Gm.take, hnil, mget], fun q r hq _ => hq, rfl⟩
  | n + 1, c, out, h, hok, hn => by
    cases hg : mget c.L (c.pos + 1) with
    | none =>
      rw [Gm.take_none hg]
      exact ⟨by simpa using h, Int.le_refl _, hg, fun q r hq _ => hq, rfl⟩
    | some r =>
      obtain ⟨e1, e2, e3⟩ := hok.next hg
      obtain ⟨i, hi, hq, hr, _⟩ := h.has _ _ hg
      have hp0 := h.p0
      have hin : i = c.pos.toNat := by omega
      have h1 : Gc l ⟨r.p, c.high, mdel c.L r.p⟩ (out ++ [r]) := by
        refine ⟨by show 0 ≤ r.p; omega, by show r.p ≤ _; omega, ?_, fun q r' hq' => ?_, h.high⟩
        · show out ++ [r] = l.take r.p.toNat
          rw [show r.p.toNat = i + 1 by omega, List.take_succ_eq_append_getElem hi, h.out, hr, ← hin]
        · have hq' : mget (mdel c.L r.p) q = some r' := hq'
          by_cases e : q = r.p
          · rw [e, mget_del_same] at hq'
            cases hq'
          · rw [mget_del_other e] at hq'
            obtain ⟨j, hj, g1, g2, g3⟩ := h.has q r' hq'
            exact ⟨j, hj, g1, g2, by show r.p < q; omega⟩
      obtain ⟨k1, k2, k3, k4, k5⟩ := Gc.take hl n _ _ h1 e2 (by show (mdel c.L r.p).length ≤ n; omega)
      rw [Gm.take_some hg]
      dsimp only at k1 k2 k3 k4 k5 ⊢
      refine ⟨by simpa using k1, by omega, k3, fun q r' hq' hlt => k4 q r' ?_ hlt, k5⟩
      rw [mget_del_other (show q ≠ r.p by omega)]
      exact hq'
/-- All have come: all are taken. -/
theorem Gc.all {l : List Rec} (hl : Lg.Ok l) {c : Gm.Rcv} {out : List Rec} (h : Gc l c out) (hok : Gm.Ok c) (hall : ∀ i (hi : i < l.length), c.pos < (i : Int) + 1 → mget c.L ((i : Int) + 1) = some l[i]) {n : Nat} (hn : c.L.length ≤ n) :
    (Gm.take n c).2.pos = l.length ∧ out ++ (Gm.take n c).1 = l ∧ (Gm.take n c).2.high = l.length := by
  obtain ⟨k1, k2, k3, k4, k5⟩ := Gc.take hl n c out h hok hn
  have hpos : (Gm.take n c).2.pos = l.length := by
    have h1 := k1.pN
    have h0 := k1.p0
    rcases Int.lt_or_eq_of_le h1 with h2 | h2
    · exfalso
      obtain ⟨i, hi⟩ : ∃ i : Nat, (Gm.take n c).2.pos = (i : Int) := ⟨(Gm.take n c).2.pos.toNat, by omega⟩
      have hil : i < l.length := by omega
      have h3 := hall i hil (by omega)
      have h4 := k4 _ _ h3 (by omega)
      rw [← hi, k3] at h4
      cases h4
    · exact h2
  refine ⟨hpos, ?_, ?_⟩
  · have h1 := k1.out
    rw [hpos] at h1
    rw [h1]
    simp
  · rw [k5]
    have h1 := h.high
    rcases Nat.eq_zero_or_pos l.length with h0 | h0
    · have := hok.ph
      have := hok.p0
      omega
    · by_cases hp : c.pos < l.length
      · have h3 := hall (l.length - 1) (by omega) (by omega)
        have h4 := (mget_iff hok.nd).1 h3
        have h5 := (hok.key _ h4).2.2.1
        dsimp only at h5
        omega
      · have := hok.ph
        omega
theorem gapless (L : List (Int × Rec)) (p : Int) : Gm.missing L p (p - p).toNat = [] := by
  rw [show p - p = 0 by omega]
  rfl
end Go.Proofs.Ytfbhdmppddledaa
namespace Go.Proofs.Ytfbhdmppddledaa
open Go.RowKit

theorem RecsAt.keep0 {w w' : World} {A : Option Addr} {l : List Rec} (h : RecsAt w A l) (hf : Fr [] w w') : RecsAt w' A l := by
  obtain ⟨us, h1, h2, h3⟩ := h
  exact ⟨us, h1.fr hf (by simp), h2, fun u hu => ⟨(h3 u hu).1.fr hf NoC.nil, (h3 u hu).2⟩⟩
theorem OwnR.keepS {w w' : World} {v : Value} {out : List Rec} {b m : Nat} {s : Sm.Sta} (h : OwnR w v out) (hs : StaAt w b m s) (hf : Fr [b, m] w w') : OwnR w' v out := by
  obtain ⟨us, h1, _⟩ := id h
  exact h.fr hf (fun g hg => by
    have e1 := h1.ne hs.blk (by decide) hg
    have e2 := h1.ne_map hs.map hg
    simp [e1, e2]) (NoC.cons (noC_blk hs.blk (by decide)) (NoC.cons (noC_map hs.map) NoC.nil))
theorem OwnR.val {w : World} {v : Value} {out : List Rec} (h : OwnR w v out) : ∃ A cap, v = .slice A out.length cap := by
  obtain ⟨us, h1, rfl, _⟩ := h
  obtain ⟨A, cap, hv⟩ := h1.val
  exact ⟨A, cap, by rw [hv, List.length_map]⟩
theorem receive_n (b m cap : Nat) (c : Gm.Rcv) (r : Rec) (A : Option Addr) (n : Nat) (p : Int) (w : World) (h : RcvAt w b m c) (hc : HoldsC w A r.cs) (hlen : r.cs.length ≤ 8) (hn : n = r.cs.length) (hp : p = r.p) :
    Calls Try.prog 8 #[.pointer (some ⟨b, 0, none⟩), .agg #[.int .i64 p, .slice A n cap]] w fun e w' =>
      e = .returned (.bool (Gm.took c r)) ∧ RcvAt w' b m (Gm.receive c r) ∧ Fr [b, m] w w' := by
  subst hn
  subst hp
  exact receive_any b m cap c r A w h hc (Nat.le_trans hlen (by decide))
/-- Between two deliveries. -/
structure GcAt (w2 wr : World) (bx mx bs ms : Nat) (l : List Rec) (c : Gm.Rcv) (out : List Rec) (v : Value) : Prop where
  rcv : RcvAt wr bx mx c
  sta : StaAt wr bs ms Sm.new
  row : OwnR wr v out
  gc : Gc l c out
  fr : Fr [] w2 wr
  own : ∀ g, v.ownBlock = some g → w2.heap.size ≤ g
  ne : bs ∉ [bx, mx] ∧ ms ∉ [bx, mx]
  new : w2.heap.size ≤ bx ∧ w2.heap.size ≤ mx
theorem GcAt.len {w2 wr : World} {bx mx bs ms : Nat} {l : List Rec} {c : Gm.Rcv} {out : List Rec} {v : Value} (h : GcAt w2 wr bx mx bs ms l c out v) : out.length ≤ l.length := by
  rw [h.gc.out, List.length_take]
  omega
/-- A delivery. -/
theorem GcAt.receive {w2 wr : World} {bx mx bs ms : Nat} {l : List Rec} {c : Gm.Rcv} {out : List Rec} {v : Value} (h : GcAt w2 wr bx mx bs ms l c out v) (hl : Lg.Ok l) (hn : l.length ≤ 40) {i : Nat} (hi : i < l.length) (A : Option Addr) (n cap : Nat) (p : Int) (hc : HoldsC wr A l[i].cs) (hlen : l[i].cs.length ≤ 8) (hnn : n = l[i].cs.length) (hp : p = l[i].p) :
    Calls Try.prog 8 #[.pointer (some ⟨bx, 0, none⟩), .agg #[.int .i64 p, .slice A n cap]] wr fun e w' => ∃ b, e = .returned (.bool b) ∧ GcAt w2 w' bx mx bs ms l (Gm.receive c l[i]) out v := by
  refine (receive_n bx mx cap c l[i] A n p wr h.rcv hc hlen hnn hp).mono ?_
  rintro e w' ⟨he, hr, hf⟩
  obtain ⟨g1, _⟩ := h.gc.receive hl hn hi
  exact ⟨_, he, hr, h.sta.fr hf h.ne.1 h.ne.2, h.row.keep h.rcv hf, g1, h.fr.trans' hf (fun x hx => .inr (by
    simp only [List.mem_cons, List.not_mem_nil, or_false] at hx
    have := h.new
    rcases hx with rfl | rfl <;> omega)), h.own, h.ne, h.new⟩
/-- What is ready is taken: a row beside the one that has been taken before. -/
structure GcTk (w2 wr : World) (bx mx bs ms : Nat) (l : List Rec) (c : Gm.Rcv) (out : List Rec) (v : Value) (v2 : Value) (got : List Rec) : Prop where
  rcv : RcvAt wr bx mx c
  sta : StaAt wr bs ms Sm.new
  row : OwnR wr v out
  gots : OwnR wr v2 got
  gc : Gc l c (out ++ got)
  fr : Fr [] w2 wr
  own : ∀ g, v.ownBlock = some g → w2.heap.size ≤ g
  ne : bs ∉ [bx, mx] ∧ ms ∉ [bx, mx]
  new : w2.heap.size ≤ bx ∧ w2.heap.size ≤ mx
theorem GcAt.take {w2 wr : World} {bx mx bs ms : Nat} {l : List Rec} {c : Gm.Rcv} {out : List Rec} {v : Value} (h : GcAt w2 wr bx mx bs ms l c out v) (hl : Lg.Ok l) :
    Calls Try.prog 10 #[.pointer (some ⟨bx, 0, none⟩)] wr fun e w' => ∃ A2 c2 got c', (e = .returned (.slice A2 got.length c2) ∧ GcTk w2 w' bx mx bs ms l c' out v (.slice A2 got.length c2) got) ∧ c' = (Gm.take c.L.length c).2 ∧ got = (Gm.take c.L.length c).1 := by
  refine (take_any bx mx c wr h.rcv).mono ?_
  rintro e w' ⟨v2, ⟨he, hv⟩, hr, hf⟩
  obtain ⟨A2, c2, rfl⟩ := hv.val
  obtain ⟨g1, _⟩ := Gc.take hl c.L.length c out h.gc h.rcv.ok (Nat.le_refl _)
  exact ⟨A2, c2, _, _, ⟨he, hr, h.sta.fr hf h.ne.1 h.ne.2, h.row.keep h.rcv hf, hv, g1, h.fr.trans' hf (fun x hx => .inr (by
    simp only [List.mem_cons, List.not_mem_nil, or_false] at hx
    have := h.new
    rcases hx with rfl | rfl <;> omega)), h.own, h.ne, h.new⟩, rfl, rfl⟩
/-- .. and joined. -/
theorem GcTk.joined {w2 wr w' : World} {bx mx bs ms : Nat} {l : List Rec} {c : Gm.Rcv} {out got : List Rec} {v v2 v' : Value} {us us2 : List WRec} (h : GcTk w2 wr bx mx bs ms l c out v v2 got) (hu : us.map (·.r) = out) (hu2 : us2.map (·.r) = got)
    (ho : OwnL 34 2 WRec.cells wr v us) (h1 : ∀ u ∈ us, HoldsC wr u.A u.r.cs ∧ u.r.cs.length ≤ 8) (h2 : ∀ u ∈ us2, HoldsC wr u.A u.r.cs ∧ u.r.cs.length ≤ 8)
    (ho' : OwnL 34 2 WRec.cells w' v' (us ++ us2)) (hg : wr.grownBy w' v.ownBlock) (hat : v'.ownBlock = v.ownBlock ∨ v'.ownBlock = some wr.heap.size) : GcAt w2 w' bx mx bs ms l c (out ++ got) v' := by
  have hf : Fr v.ownBlock.toList wr w' := (Fr.refl _ _).grown hg (fun g hg => .inl (Option.mem_toList.2 hg))
  have hn : NoC wr v.ownBlock.toList := ho.noC (by decide)
  refine ⟨h.rcv.past_row ho (by decide) (by decide) hf, h.sta.fr hf (fun hm => ho.ne h.sta.blk (by decide) (Option.mem_toList.1 hm) rfl) (fun hm => ho.ne_map h.sta.map (Option.mem_toList.1 hm) rfl), ⟨us ++ us2, ho', by rw [List.map_append, hu, hu2], fun u hu => ?_⟩, h.gc, h.fr.trans' hf (fun x hx => .inr (h.own x (Option.mem_toList.1 hx))), fun g hg => ?_, h.ne, h.new⟩
  · rcases List.mem_append.1 hu with hu | hu
    · exact ⟨(h1 u hu).1.fr hf hn, (h1 u hu).2⟩
    · exact ⟨(h2 u hu).1.fr hf hn, (h2 u hu).2⟩
  · rcases hat with e | e
    · exact h.own g (e ▸ hg)
    · rw [hg] at e
      injection e with e
      have := h.fr.size
      omega
theorem gpick_nat (c : Int) (n : Nat) (w : World) (hc : okI c) (h3 : 1 ≤ n) (h4 : n ≤ 1000000000) :
    Calls Try.prog 9 #[.int .i64 c, .int .i64 n] w fun e w' => ∃ k : Nat, (e = .returned (.int .i64 k) ∧ k < n) ∧ w = w' := by
  obtain ⟨h1, h2⟩ := okI_bounds hc
  refine (pick_any c n w h1 h2 (by omega) (by omega)).mono fun _ _ ⟨he, hw⟩ => ?_
  have p1 := pickI_nonneg c (n := n) (by omega)
  have p2 := pickI_lt c (n := n) (by omega)
  exact ⟨(pickI c n).toNat, ⟨by rw [he, Int.toNat_of_nonneg p1], by omega⟩, hw⟩
/-- The append as a step. -/
theorem GcTk.wp {w2 wr : World} {bx mx bs ms : Nat} {l : List Rec} {c : Gm.Rcv} {out got : List Rec} {v : Value} {A2 : Option Addr} {n2 c2 : Nat} {ops : Array Oper} {rest : List Oper} {o : Oper} {a : Act} {Q : Exit → Act → World → Prop} (hgd : o.guard = none) (s x : Operand)
    (ho : o.op = .call { callee := .builtin .append, args := #[s, x], argTypes := #[25, 25] }) (h : GcTk w2 wr bx mx bs ms l c out v (.slice A2 n2 c2) got) (hs : a.eval s = v) (hx : a.eval x = .slice A2 n2 c2) (hl : l.length ≤ 40)
    (K : ∀ v' w', GcAt w2 w' bx mx bs ms l c (out ++ got) v' → wpList Try.prog ops Q rest (a.put o.dst v') w') : wpList Try.prog ops Q (o :: rest) a wr := by
  obtain ⟨us, h1, hu, h2⟩ := h.row
  obtain ⟨us2, h3, hu2, h4⟩ := h.gots
  obtain ⟨i0, z, TR⟩ := etR
  obtain ⟨h5, h6⟩ := h3.at1 WRec.len
  have hlen : us.length + us2.length ≤ 40 := by
    have e := congrArg List.length h.gc.out
    rw [List.length_append, ← hu, ← hu2, List.length_map, List.length_map, List.length_take] at e
    omega
  refine wpList_appendL hgd s x ho TR WRec.len WRec.one hs h1 _ _ _ _ us2 hx h6 (by rw [h6]; exact h3.reads rfl) (Nat.le_trans hlen (by decide)) (Nat.le_trans (Nat.mul_le_mul_right 32 hlen) (by decide)) ?_
  intro v' w' hown hg hat
  exact K v' w' (h.joined hu hu2 h1 h2 h4 hown hg hat)
/-- What waits from place j on. -/
def Gw (l : List Rec) (c : Gm.Rcv) (j : Nat) : Prop := ∀ i (hi : i < l.length), j ≤ i → c.pos < (i : Int) + 1 → mget c.L ((i : Int) + 1) = some l[i]
theorem Gw.none (l : List Rec) (c : Gm.Rcv) : Gw l c l.length := fun i hi h => absurd hi (by omega)
theorem Gw.receive {l : List Rec} {c : Gm.Rcv} {out : List Rec} {j : Nat} (h : Gw l c (j + 1)) (hg : Gc l c out) (hl : Lg.Ok l) (hn : l.length ≤ 40) (hj : j < l.length) : Gw l (Gm.receive c l[j]) j := by
  obtain ⟨-, h2, h3, h4⟩ := hg.receive hl hn hj
  intro i hi hji hp
  rw [h2] at hp
  rcases Nat.eq_or_lt_of_le hji with e | e
  · subst e
    exact h3 hp
  · exact h4 _ _ (h i hi e hp)
theorem missing_none (b m : Nat) (c : Gm.Rcv) (w : World) (h : RcvAt w b m c) (he : c.high = c.pos) : Calls Try.prog 18 #[.pointer (some ⟨b, 0, none⟩)] w fun e w' => ∃ A cap, e = .returned (.slice A 0 cap) ∧ Fr [] w w' := by
  refine (missing_any b m c w h).mono ?_
  rintro e w' ⟨v, ⟨he', hv⟩, hf⟩
  rw [he, gapless] at hv
  obtain ⟨A, cap, rfl⟩ := hv.val
  exact ⟨A, cap, he', hf⟩
theorem sameRecs_ok (l : List Rec) (A B : Option Addr) (n m ca cb : Nat) (w : World) (ha : OwnR w (.slice A n ca) l) (hb : RecsAt w B l) (hl : l.length ≤ 40) (hm : m = l.length) :
    Calls Try.prog 17 #[.slice A n ca, .slice B m cb] w fun e w' => e = .returned (.bool true) ∧ Fr [] w w' := by
  obtain ⟨us, h1, h2, h3⟩ := hb
  have hn : n = l.length := ha.recs.2
  have hul : us.length = l.length := by rw [← h2, List.length_map]
  obtain rfl : m = us.length := by omega
  refine (sameRecords_own l us A B n ca cb w ha h1 (by omega) (by omega) (fun u hu => ⟨(h3 u hu).1.1, (h3 u hu).2⟩)).mono ?_
  rintro e w' ⟨he, hf⟩
  rw [h2] at he
  exact ⟨by rw [he]; simp [Gm.sameR], hf⟩
/-- Rows of two states that are the same. -/
theorem GcAt.fin {w2 wr : World} {bx mx bs ms : Nat} {l : List Rec} {c : Gm.Rcv} {out : List Rec} {v : Value} (h : GcAt w2 wr bx mx bs ms l c out v) {w' : World} {s : Sm.Sta} (hs : StaAt w' bs ms s) (hf : Fr [bs, ms] wr w') (hn : mx ≤ bs ∧ mx ≤ ms) : RcvAt w' bx mx c ∧ OwnR w' v out ∧ Fr [] w2 w' := by
  have hne := h.ne
  simp only [List.mem_cons, List.not_mem_nil, or_false, not_or] at hne
  refine ⟨h.rcv.fr hf (by simp only [List.mem_cons, List.not_mem_nil, or_false]; omega) (by simp only [List.mem_cons, List.not_mem_nil, or_false]; omega) (NoC.cons (noC_blk h.sta.blk (by decide)) (NoC.cons (noC_map h.sta.map) NoC.nil)), h.row.keepS h.sta hf, h.fr.trans' hf (fun x hx => .inr (by
    simp only [List.mem_cons, List.not_mem_nil, or_false] at hx
    have := h.new
    rcases hx with rfl | rfl <;> omega))⟩
theorem RowsOwn.sl {w : World} {v : Value} {L : List RowV} (h : RowsOwn w v L) : ∃ A cap, v = .slice A L.length cap ∧ RowsAt w A L := by
  obtain ⟨A, cap, hv, ha⟩ := h.at_ RowV.cells_len
  exact ⟨A, cap, hv, ha⟩
theorem RowsAt.fr0 {w w' : World} {A : Option Addr} {L : List RowV} (h : RowsAt w A L) (hf : Fr [] w w') : RowsAt w' A L := h.fr hf (by simp)
theorem Picked.len {s : Sm.Sta} {c : Int} {p : RowV → Bool} {R : List RowV} (h : Picked s c p R) (ho : Sm.Ok s) : R.length ≤ 2000 := by
  rw [h.perm.length_eq]
  refine Nat.le_trans (List.length_filter_le _ _) ?_
  rw [List.length_map]
  exact ho.len

end Go.Proofs.Ytfbhdmppddledaa
namespace Go.Proofs.Ytfbhdmppddledaa
open Go.RowKit Go.WideShapes Go.ChangeShapes

set_option maxRecDepth 100000 in
set_option maxHeartbeats 8000000 in
theorem gcomp_walk (A : Option Addr) (n cap : Nat) (B : Option Addr) (no capo : Nat) (xs : List Int) (W : World) (hn : n ≤ cap) (hcap : cap ≤ maxLen) (hx : n = 0 ∨ ∃ bx ox, A = some ⟨bx, ox, none⟩ ∧ SixAt W bx ox n)
    (hno : xs.length = no) (hmaxo : no ≤ maxLen) (hxo : no = 0 ∨ ∃ b off, B = some ⟨b, off, none⟩ ∧ IntsAt W b off xs) :
    Calls Try.prog 3 #[.slice A n cap, .slice B no capo] W fun e w' => e = .returned (.bool true) ∧ Below W.heap.size W w' := by
  have HX := Lib.hid hx
  have HXO := Lib.hid hxo
  have HNO := Lib.hid hno
  obtain ⟨m, HM⟩ : ∃ m, Hid (m = min n 40) := ⟨_, Lib.hid rfl⟩
  have hmin : (min (n : Int) 40).toNat = m := by rw [HM.out]; omega
  have hm40 : m ≤ 40 := by rw [HM.out]; omega
  have hmn : m ≤ n := by rw [HM.out]; omega
  unfold maxLen at hcap hmaxo
  clear hx hxo hno
  go_enter Try.func3, Try.ntmps3
  go_wp2_with fail
  refine (sane_any _).mono ?_
  rintro e w1 ⟨rfl, f1⟩
  have F1 := Lib.hid f1
  clear f1
  go_wp2_with fail
  refine (log_any A m cap w1 (by omega) (by
    rcases HX.out with h0 | ⟨bx, ox, h1, h2⟩
    · exact .inl (by omega)
    · exact .inr ⟨bx, ox, h1, (h2.fr0 F1.out).le hmn⟩)).mono ?_
  rintro e w2 ⟨vl, l, rfl, hor, hok, hll, f2, hvo⟩
  obtain ⟨A2, cap2, rfl⟩ := hor.val
  obtain ⟨hat, -⟩ := hor.recs
  have hc2 : l.length ≤ cap2 := hor.cap
  have hl40 : l.length ≤ 40 := by omega
  have HAT := Lib.hid hat
  have HOR := Lib.hid hor
  have HOK := Lib.hid hok
  have F2 := Lib.hid (F1.out.trans f2)
  clear hor hat hok f2 hvo hmin hll
  go_wp2_with fail
  refine (gnew_any 0 _ (by decide) (by decide)).mono ?_
  rintro e w3 ⟨rfl, hr3, f3⟩
  have HR3 := Lib.hid hr3
  have F3 := Lib.hid f3
  clear hr3 f3
  go_wp2_with fail
  refine (snew_any _).mono ?_
  rintro e w4 ⟨rfl, hs4, f4⟩
  have HBS : Hid (w2.heap.size ≤ w3.heap.size + 1 ∧ w2.heap.size ≤ w3.heap.size) := Lib.hid (by have := F3.out.size; omega)
  have R0 : Hid (GcAt w2 w4 (w2.heap.size + 1) w2.heap.size (w3.heap.size + 1) w3.heap.size l (Gm.new 0) [] (.slice none 0 0)) := Lib.hid (by
    have l3 := HR3.out.lt
    exact ⟨HR3.out.fr0 f4, hs4, OwnR.nil _, Gc.new l, F3.out.trans f4, by simp [Value.ownBlock], ⟨by simp only [List.mem_cons, List.not_mem_nil, or_false]; omega, by simp only [List.mem_cons, List.not_mem_nil, or_false]; omega⟩, by omega, Nat.le_refl _⟩)
  clear hs4 f4 HR3 F3
  generalize w2.heap.size + 1 = bx at *
  generalize w2.heap.size = mx at *
  generalize w3.heap.size + 1 = bs at *
  generalize w3.heap.size = ms at *
  go_upto_block 0 with (fail)
  go_cut [9] (fun v wc => ∃ (c : Gm.Rcv) (out : List Rec) (Av : Option Addr) (nv cv : Nat), v = .slice Av nv cv ∧ Hid (GcAt w2 wc bx mx bs ms l c out (.slice Av nv cv)))
  case first =>
    go_wp2_with fail
    go_loopw [9, 10] (fun v i wr => ∃ (k : Nat) (c : Gm.Rcv) (out : List Rec) (Av : Option Addr) (nv cv : Nat), k ≤ no ∧ k ≤ 80 ∧ i = .int .i64 k ∧ v = .slice Av nv cv ∧ Hid (GcAt w2 wr bx mx bs ms l c out (.slice Av nv cv))) (fun _ i _ => no - (intOf i).toNat)
    case atStart => exact ⟨0, _, _, none, 0, 0, Nat.zero_le _, Nat.zero_le _, rfl, rfl, R0⟩
    case round =>
      clear R0
      obtain ⟨k, c, out, Av, nv, cv, hk, hk80, rfl, rfl, HG⟩ := hrel
      by_cases hlt : k < no ∧ k < 80 ∧ 0 < l.length
      · obtain ⟨hl1, hl2, hl3⟩ := hlt
        obtain ⟨bo, oo, rfl, hz⟩ := HXO.out.resolve_left (by omega)
        have hkx : k < xs.length := by rw [HNO.out]; exact hl1
        have HC := Lib.hid (fun w' (f : Fr [] w2 w') => (hz.fr (F2.out.trans f)).cell k hkx)
        have hwf := hz.wf _ (List.getElem_mem hkx)
        generalize xs[k] = y at HC hwf
        have HW := Lib.hid hwf
        have c0 := HC.out wr HG.out.fr
        clear hz hwf hkx
        go_wp2_with fail
        refine (gpick_nat y l.length _ HW.out (by omega) (by omega)).mono ?_
        rintro e w' ⟨q, ⟨rfl, hq⟩, rfl⟩
        obtain ⟨bb, off, Ak, ck, hA, -, hc0, hc1, hhc, hl8⟩ := (HAT.out.keep0 HG.out.fr).open_ hq
        subst hA
        obtain ⟨p, HP⟩ : ∃ p, Hid (p = l[q].p) := ⟨_, Lib.hid rfl⟩
        obtain ⟨n1, HN1⟩ : ∃ n1, Hid (n1 = l[q].cs.length) := ⟨_, Lib.hid rfl⟩
        rw [← HP.out] at hc0
        rw [← HN1.out] at hc1
        have HH := Lib.hid (And.intro hhc hl8)
        clear hhc hl8
        go_wp2_with fail
        refine (HG.out.receive HOK.out hl40 hq Ak n1 ck p HH.out.1 HH.out.2 HN1.out HP.out).mono ?_
        rintro e w5 ⟨bo', rfl, hg5⟩
        have HG5 := Lib.hid hg5
        have c05 := HC.out w5 hg5.fr
        clear hg5 hc0 hc1 c0 HH HG
        generalize Gm.receive c l[q] = c' at HG5
        go_wp2_with fail
        refine (gpick_nat y 3 _ HW.out (by decide) (by decide)).mono ?_
        rintro e w' ⟨q3, ⟨rfl, hq3⟩, rfl⟩
        by_cases h30 : q3 = 0
        · subst h30
          go_wp2_with fail
          refine (HG5.out.take HOK.out).mono ?_
          rintro e w6 ⟨A6, c6, got, c7, ⟨rfl, ht⟩, -⟩
          obtain ⟨n6, HN6⟩ : ∃ n6, Hid (n6 = got.length) := ⟨_, Lib.hid rfl⟩
          rw [← HN6.out] at ht ⊢
          have HT := Lib.hid ht
          clear ht HG5
          go_wp2_with (at_builtin; refine GcTk.wp rfl _ _ rfl HT.out rfl rfl hl40 ?_; intro v7 w7 hg7; have HG7 := Lib.hid hg7; obtain ⟨A7, n7, cv7, hv7⟩ : ∃ A n cv, v7 = .slice A n cv := (match hg7.row.val with | ⟨_, _, hv⟩ => ⟨_, _, _, hv⟩); subst hv7; clear hg7)
          go_roundw
          case rel => exact ⟨k + 1, c7, _, A7, n7, cv7, by omega, by omega, by go_num, rfl, HG7⟩
          case measure => simp [intOf]; omega
        · have h30' : ((q3 : Int) == 0) = false := by simp; omega
          go_wp2_with fail
          go_roundw
          case rel => exact ⟨k + 1, c', out, Av, nv, cv, by omega, by omega, by go_num, rfl, HG5⟩
          case measure => simp [intOf]; omega
      · have RR : ∃ (c : Gm.Rcv) (out : List Rec) (A' : Option Addr) (n' c' : Nat), Value.slice Av nv cv = .slice A' n' c' ∧ Hid (GcAt w2 wr bx mx bs ms l c out (.slice A' n' c')) := ⟨c, out, Av, nv, cv, rfl, HG⟩
        go_wp2_with fail
        all_goals
          go_meet
          case rel => exact RR
  case rest =>
    clear R0
    obtain ⟨c, out, Av, nv, cv, rfl, HG⟩ := hcut
    go_wp2_with fail
    go_loopw [11] (fun i wr => ∃ (j : Nat) (c : Gm.Rcv), j ≤ l.length ∧ i = .int .i64 ((j : Int) - 1) ∧ Hid (GcAt w2 wr bx mx bs ms l c out (.slice Av nv cv)) ∧ Hid (Gw l c j)) (fun i _ => (intOf i + 1).toNat)
    case atStart => exact ⟨l.length, c, Nat.le_refl _, by go_num, HG, Lib.hid (Gw.none l c)⟩
    case round =>
      clear HG
      obtain ⟨j, c, hj, rfl, HG, HW⟩ := hrel
      rcases Nat.eq_zero_or_pos j with h0 | h0
      · subst h0
        rw [show ((0 : Nat) : Int) - 1 = -1 from rfl]
        go_wp2_with fail
        refine (HG.out.take HOK.out).mono ?_
        rintro e w6 ⟨A6, c6, got, c7, ⟨rfl, ht⟩, hc7, hgot⟩
        have hall := Gc.all HOK.out HG.out.gc HG.out.rcv.ok (fun i hi => HW.out i hi (Nat.zero_le _)) (Nat.le_refl _)
        rw [← hc7, ← hgot] at hall
        have HALL := Lib.hid hall
        obtain ⟨n6, HN6⟩ : ∃ n6, Hid (n6 = got.length) := ⟨_, Lib.hid rfl⟩
        rw [← HN6.out] at ht ⊢
        have HT := Lib.hid ht
        clear ht HG HW hall hc7 hgot
        go_wp2_with (at_builtin; refine GcTk.wp rfl _ _ rfl HT.out rfl rfl hl40 ?_; intro v7 w7 hg7; rw [HALL.out.2.1] at hg7; have HG7 := Lib.hid hg7; obtain ⟨A7, cv7, hv7⟩ := hg7.row.val; subst hv7; clear hg7)
        clear HT
        go_loopw [12] (fun i wr => ∃ k : Nat, k ≤ l.length ∧ i = .int .i64 k ∧ Hid (StaAt wr bs ms (Lg.run (l.take k))) ∧ Hid (Fr [bs, ms] w7 wr)) (fun i _ => l.length - (intOf i).toNat)
        case atStart => exact ⟨0, Nat.zero_le _, rfl, Lib.hid HG7.out.sta, Lib.hid (Fr.refl _ _)⟩
        case round =>
          obtain ⟨k, hk, rfl, HS, HF⟩ := hrel
          obtain ⟨g1, g2, g3⟩ := HG7.out.fin HS.out HF.out HBS.out
          have G1 := Lib.hid g1
          have G2 := Lib.hid g2
          have G3 := Lib.hid g3
          clear g1 g2 g3
          by_cases hlt : k < l.length
          · obtain ⟨bb, off, Ak, ck, hA, -, hc0, hc1, hhc, hl8⟩ := G2.out.recs.1.open_ hlt
            subst hA
            obtain ⟨p, HP⟩ : ∃ p, Hid (p = l[k].p) := ⟨_, Lib.hid rfl⟩
            obtain ⟨n1, HN1⟩ : ∃ n1, Hid (n1 = l[k].cs.length) := ⟨_, Lib.hid rfl⟩
            rw [← HP.out] at hc0
            rw [← HN1.out] at hc1
            have HH := Lib.hid (And.intro hhc hl8)
            clear hhc hl8
            go_wp2_with fail
            refine (sapply_n bs ms _ l[k] Ak n1 ck p _ HS.out HH.out.1 HH.out.2 HN1.out HP.out).mono ?_
            rintro e w8 ⟨rfl, hs8, f8⟩
            have hcode : Sm.code (Lg.run (l.take k)) l[k] = 0 := by
              unfold Sm.code
              rw [if_pos (HOK.out.fits k hlt)]
            rw [hcode]
            rw [← Lg.run_succ l hlt] at hs8
            have HS8 := Lib.hid hs8
            have HF8 := Lib.hid (HF.out.trans f8)
            clear hcode hs8 f8 HS HF hc0 hc1
            go_wp2_with fail
            go_roundw
            case rel => exact ⟨k + 1, by omega, by go_num, HS8, HF8⟩
            case measure => simp [intOf]; omega
          · obtain rfl : k = l.length := by omega
            rw [Lg.run_all] at HS
            go_wp2_with fail
            refine (sat_ok A2 cap2 l l.length _ (HAT.out.keep0 G3.out) (by omega) (Nat.le_refl _) hc2 (fun i h _ => HOK.out.fits i h)).mono ?_
            rintro e w9 ⟨bt, mt, rfl, ht9, f9, -, -⟩
            rw [Lg.run_all] at ht9
            have HT9 := Lib.hid ht9
            have F9 := Lib.hid f9
            have HS9 := Lib.hid (HS.out.fr0 f9)
            have hpl : (Lg.run l).pos = l.length := by have h := HOK.out.pos l.length (Nat.le_refl _); rwa [Lg.run_all] at h
            have hPo := sposition_any bs ms _ w9 HS9.out
            rw [hpl] at hPo
            have HPO := Lib.hid hPo
            have HL1 := Lib.hid (slen_any bs ms _ w9 HS9.out)
            have HL2 := Lib.hid (slen_any bt mt _ w9 HT9.out)
            obtain ⟨M, HM⟩ : ∃ M, Hid (M = (Lg.run l).M.length) := ⟨_, Lib.hid rfl⟩
            rw [← HM.out] at HL1 HL2
            clear ht9 f9 hPo hpl HS
            go_wp2_with (first | (go_at_call 13; refine HPO.out.mono ?_; rintro e w10 ⟨rfl, rfl⟩) | (go_at_call 14; first | (with_reducible refine HL1.out.mono ?_; rintro e w10 ⟨rfl, rfl⟩) | (with_reducible refine HL2.out.mono ?_; rintro e w10 ⟨rfl, rfl⟩)))
            go_loopw [15] (fun i wr => ∃ k : Nat, i = .int .i64 k ∧ k ≤ 3 ∧ Hid (Fr [] w9 wr)) (fun i _ => 3 - (intOf i).toNat)
            case atStart => exact ⟨0, rfl, by omega, Lib.hid (Fr.refl [] w9)⟩
            case round =>
              clear HPO HL1 HL2
              obtain ⟨k, rfl, hk, F⟩ := hrel
              by_cases hlt : k < 3
              · have hR := Lib.hid (srows_any bs ms _ k wr (HS9.out.fr0 F.out))
                have hR' := Lib.hid (fun W (f : Fr [] wr W) => srows_any bt mt _ k W (HT9.out.fr0 (F.out.trans f)))
                go_wp2_with (first | (go_at_call 16; first | (with_reducible refine hR.out.mono ?_; rintro e w1 ⟨v1, R1, rfl, hv1, hp1, f1, -⟩; obtain ⟨A1, c1, hv, ha1⟩ := hv1.sl; subst hv; have HA1 := Lib.hid ha1; have HP1 := Lib.hid hp1; have F1 := Lib.hid f1; clear hv1 ha1 hp1 f1 hR) | (with_reducible refine (hR'.out _ F1.out).mono ?_; rintro e w2 ⟨v2, R2, rfl, hv2, hp2, f2, -⟩; obtain ⟨A2, c2, hv, ha2⟩ := hv2.sl; subst hv; have HA2 := Lib.hid ha2; have HP2 := Lib.hid hp2; have F2' := Lib.hid f2; clear hv2 ha2 hp2 f2 hR')) | (go_at_call 15; refine (sameRows_any R1 R2 _ _ _ _ _ (HA1.out.fr0 F2'.out) HA2.out (Nat.le_trans (HP1.out.len (Lg.run_ok l)) (by decide)) (Nat.le_trans (HP2.out.len (Lg.run_ok l)) (by decide))).mono ?_; rintro e w3 ⟨rfl, f3⟩; have heq : R1 = R2 := HP1.out.uniq HP2.out (Lg.run_ok l) inTab_t; rw [decide_eq_true heq]; have F3 := Lib.hid (((F.out.trans F1.out).trans F2'.out).trans f3); clear heq f3))
                go_roundw
                case rel => exact ⟨k + 1, by go_num, by omega, F3⟩
                case measure => simp [intOf]; omega
              · have hk3 : k = 3 := by omega
                subst hk3
                have FW := Lib.hid (F9.out.trans F.out)
                have HPX := Lib.hid (fun w' (h : RcvAt w' bx mx c7) => position_any bx mx c7 w' h)
                rw [HALL.out.1] at HPX
                clear HS9 HT9 F
                go_wp2_with (first | (go_at_call 17; refine (sameRecs_ok l A7 A2 _ _ cv7 cap2 _ (G2.out.keep0 FW.out) (HAT.out.keep0 (G3.out.trans FW.out)) hl40 rfl).mono ?_; rintro e w11 ⟨rfl, f11⟩; have F11 := Lib.hid (FW.out.trans f11); clear f11) | (go_at_call 18; refine (missing_none bx mx c7 _ (G1.out.fr0 F11.out) (by rw [HALL.out.1, HALL.out.2.2])).mono ?_; rintro e w12 ⟨A12, cap12, rfl, f12⟩; have F12 := Lib.hid (F11.out.trans f12); clear f12) | (go_at_call 19; refine (HPX.out _ (G1.out.fr0 F12.out)).mono ?_; rintro e w13 ⟨rfl, rfl⟩))
                go_ret
                exact ⟨rfl, ((F2.out.trans G3.out).trans F12.out).below⟩
      · obtain ⟨j', rfl⟩ : ∃ j', j = j' + 1 := ⟨j - 1, by omega⟩
        rw [show ((j' + 1 : Nat) : Int) - 1 = (j' : Int) by omega]
        have hq : j' < l.length := by omega
        obtain ⟨bb, off, Ak, ck, hA, -, hc0, hc1, hhc, hl8⟩ := (HAT.out.keep0 HG.out.fr).open_ hq
        subst hA
        obtain ⟨p, HP⟩ : ∃ p, Hid (p = l[j'].p) := ⟨_, Lib.hid rfl⟩
        obtain ⟨n1, HN1⟩ : ∃ n1, Hid (n1 = l[j'].cs.length) := ⟨_, Lib.hid rfl⟩
        rw [← HP.out] at hc0
        rw [← HN1.out] at hc1
        have HH := Lib.hid (And.intro hhc hl8)
        clear hhc hl8
        go_wp2_with fail
        refine (HG.out.receive HOK.out hl40 hq Ak n1 ck p HH.out.1 HH.out.2 HN1.out HP.out).mono ?_
        rintro e w5 ⟨bo', rfl, hg5⟩
        have HG5 := Lib.hid hg5
        have HW5 := Lib.hid (HW.out.receive HG.out.gc HOK.out hl40 hq)
        clear hg5 hc0 hc1 HH HG HW
        generalize Gm.receive c l[j'] = c' at HG5 HW5
        go_wp2_with fail
        go_roundw
        case rel => exact ⟨j', c', by omega, by go_num, HG5, HW5⟩
        case measure => simp [intOf]
end Go.Proofs.Ytfbhdmppddledaa
namespace Go.Proofs.Ytfbhdmppddledaa
open Go.RowKit Go.WideShapes Go.ChangeShapes

set_option maxRecDepth 100000 in
theorem gcomp_law : LawWalk 3 Try.f3 := by
  intro H enc W base args ds p hval0 hA0 hlt hsz
  have hval : ∀ (j : Nat) t v, Try.f3.params[j]? = some t → args[j]? = some v → Value.okWide Try.prog W .any base t v := hval0
  have hA : DataW.TrodAll enc Try.prog W 0 (fun _ => true) true Try.f3.params.toList args.toList ds p := hA0
  clear hA0 hval0 hsz
  rw [Try.params3] at hA hval
  obtain ⟨v0, vs0, d0, ds0, p0, q0, hargs, rfl, rfl, h0, r0⟩ := trodAll_cons hA
  obtain ⟨v1, vs1, d1, ds1, p1, q1, rfl, rfl, rfl, h1, r1⟩ := trodAll_cons r0
  obtain ⟨rfl, rfl, rfl⟩ := trodAll_nil r1
  obtain rfl : args = #[v0, v1] := by cases args; simp_all
  obtain ⟨A0, n0, cap0, rfl, hn0, hmax0, hx0⟩ := open_sixes (hval 0 _ v0 rfl rfl) h0
  obtain ⟨A1, n1, cap1, xs1, rfl, hn1, hmax1, hx1⟩ := open_intsAt (hval 1 _ v1 rfl rfl) h1
  exact gcomp_walk A0 n0 cap0 A1 n1 cap1 xs1 W hn0 hmax0 hx0 hn1 hmax1 hx1

set_option maxRecDepth 100000 in
theorem gcomp_lifted (os : Os) (started : os.Started) (H : Type) (enc : TypeId × Value → H) :
    ReturnsInHanded {} Try.checked os 3 .any (Rows.gapCompleteSpec.pre6 enc Try.prog Try.f3 Rows.gapCompleteRow.domain false) (Rows.gapCompleteSpec.post enc Try.prog Try.f3 false true false false) :=
  law_lifted (s := Rows.gapCompleteSpec) (conds := Rows.gapCompleteRow.domain) Try.func3 (by kernel_rfl) rfl rfl
    (by
      rw [Try.params3]
      intro t ht
      simp only [List.mem_cons, List.not_mem_nil, or_false] at ht
      rcases ht with rfl | rfl
      all_goals exact ⟨by kernel_rfl, of_decide_eq_true (by kernel_rfl)⟩)
    (fun H ds h => by
      match ds, h with
      | [d0, d1], _ => exact ⟨rfl, rfl, rfl⟩) gcomp_law os started H enc
    (ChangeSpec.witness6 (enc := enc) (C := Try.checked) false ⟨#[], #[.slice none 0 0, .slice none 0 0], []⟩ 8 (by kernel_rfl) (by kernel_rfl) (by kernel_rfl) (by kernel_rfl))

theorem gcomp_holds : Rows.GapCompleteSaid :=
  OpenClaim.holds_of_wide 3 Try.f3 rfl rfl rfl rfl rfl rfl rfl ⟨rfl, rfl, rfl, rfl, rfl⟩ rfl rfl rfl rfl rfl (by kernel_rfl) Try.func3 (by kernel_rfl)
    (of_decide_eq_true (by kernel_rfl)) (by unfold Func.isWrapper; rw [if_neg (of_decide_eq_false (by kernel_rfl))]; exact ⟨rfl, rfl⟩)
    (fun os started H enc _ => gcomp_lifted os started H enc)
#print axioms gcomp_holds

end Go.Proofs.Ytfbhdmppddledaa

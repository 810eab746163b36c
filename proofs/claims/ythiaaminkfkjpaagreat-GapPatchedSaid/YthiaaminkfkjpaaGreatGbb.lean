/-
  'Receive'.
-/
import Derived.Test.YthiaaminkfkjpaaGreatGam
import Derived.Test.YthiaaminkfkjpaaGreatGay
import Derived.WalkSpells
import Derived.StillTailTactics
import Derived.Deep.RegionLaw
namespace Go.Proofs.YthiaaminkfkjpaaGreat
open Go.RowKit

theorem tyIR : MT Tryz.prog 72 3 44 (Value.int .i64) (Lit.int .i64) WRec.val okI (.agg #[.int .i64 0, .slice none 0 0]) where
  keyed := Maps.int_keyed Tryz.underlying3
  ht := Tryz.underlying72
  key := fun x hx => Maps.keyOf_int_mk Tryz.underlying3 hx
  inj := fun x y h => by injection h
  zero := fun w => by kernel_rfl

def rcvCells (c : Gm.Rcv) (m : Nat) : Array Value := #[.int .i64 c.pos, .int .i64 c.high, .map (some m)]
def shed (M : List (Int × WRec)) : List (Int × Rec) := M.map fun e => (e.1, e.2.r)
/-- At block b lies the receiver c, whose map lies at block m. -/
structure RcvAt (w : World) (b m : Nat) (c : Gm.Rcv) : Prop where
  blk : Blk w b 74 (rcvCells c m)
  map : ∃ M : List (Int × WRec), VMap Tryz.prog 3 (Lit.int .i64) WRec.val w m M ∧ shed M = c.L ∧ ∀ e ∈ M, HoldsC w e.2.A e.2.r.cs ∧ e.2.r.cs.length ≤ 8
  ok : Gm.Ok c
theorem RcvAt.ne {w : World} {b m : Nat} {c : Gm.Rcv} (h : RcvAt w b m c) : m ≠ b := by
  obtain ⟨M, hm, _⟩ := h.map
  exact hm.ne h.blk
theorem RcvAt.noC {w : World} {b m : Nat} {c : Gm.Rcv} (h : RcvAt w b m c) : NoC w [b, m] := by
  obtain ⟨M, hm, _⟩ := h.map
  exact NoC.cons (noC_blk h.blk (by decide)) (NoC.cons (noC_map hm) NoC.nil)
theorem RcvAt.lt {w : World} {b m : Nat} {c : Gm.Rcv} (h : RcvAt w b m c) : b < w.heap.size ∧ m < w.heap.size := by
  obtain ⟨M, hm, _⟩ := h.map
  exact ⟨h.blk.lt, hm.lt⟩
theorem RcvAt.fr {w w' : World} {b m : Nat} {c : Gm.Rcv} {S : List Nat} (h : RcvAt w b m c) (hf : Fr S w w') (hb : b ∉ S) (hm : m ∉ S) (hs : NoC w S) : RcvAt w' b m c := by
  obtain ⟨M, h1, h2, h3⟩ := h.map
  exact ⟨h.blk.fr hf hb, ⟨M, h1.fr hf hm, h2, fun e he => ⟨(h3 e he).1.fr hf hs, (h3 e he).2⟩⟩, h.ok⟩
theorem RcvAt.fr0 {w w' : World} {b m : Nat} {c : Gm.Rcv} (h : RcvAt w b m c) (hf : Fr [] w w') : RcvAt w' b m c := h.fr hf (by simp) (by simp) NoC.nil

theorem mget_shed {M : List (Int × WRec)} {x : Int} : mget (shed M) x = (mget M x).map (·.r) := by
  induction M with
  | nil => rfl
  | cons e M ih =>
    by_cases h : e.1 = x
    · simp [shed, mget, h]
    · have h1 : mget (e :: M) x = mget M x := by unfold mget; rw [List.find?_cons_of_neg (by simpa using h)]
      have h2 : mget (shed (e :: M)) x = mget (shed M) x := by
        show mget ((e.1, e.2.r) :: shed M) x = _
        unfold mget
        rw [List.find?_cons_of_neg (by simpa using h)]
      rw [h1, h2, ih]
theorem mdel_shed {M : List (Int × WRec)} {x : Int} : mdel (shed M) x = shed (mdel M x) := by
  unfold mdel shed
  rw [List.filter_map]
  rfl
theorem mput_shed {M : List (Int × WRec)} {x : Int} {u : WRec} : mput (shed M) x u.r = shed (mput M x u) := by
  unfold mput
  rw [mdel_shed]
  rfl

theorem gnew_bad (p : Int) (w : World) (hp : ¬ (0 ≤ p ∧ p ≤ 10000)) : Calls Tryz.prog 7 #[.int .i64 p] w fun e w' => e = .returned (.pointer none) ∧ w = w' := by
  by_cases h : p < 0
  · go_enter Tryz.func7, Tryz.ntmps7
    go_wp2
    go_ret
    exact ⟨rfl, rfl⟩
  · have h1 : 10000 < p := by omega
    go_enter Tryz.func7, Tryz.ntmps7
    go_wp2
    go_ret
    exact ⟨rfl, rfl⟩
theorem gok_new {p : Int} (h0 : 0 ≤ p) (h1 : p ≤ 10000) : Gm.Ok (Gm.new p) := ⟨h0, Int.le_refl _, h1, by simp [Gm.new], nd_nil⟩
theorem gnew_any (p : Int) (w : World) (h0 : 0 ≤ p) (h1 : p ≤ 10000) : Calls Tryz.prog 7 #[.int .i64 p] w fun e w' => e = .returned (.pointer (some ⟨w.heap.size + 1, 0, none⟩)) ∧ RcvAt w' (w.heap.size + 1) w.heap.size (Gm.new p) ∧ Fr [] w w' := by
  have hmm := @run_makeMap Tryz.prog
  go_enter Tryz.func7, Tryz.ntmps7
  go_wp2
  go_ret
  refine ⟨by simp, ⟨?_, ⟨[], (VMap.made _ _ w).alloc _, rfl, by simp⟩, gok_new h0 h1⟩, ((Fr.refl _ _).alloc _).alloc _⟩
  have := Blk.new (w.alloc (.map #[] 0)) 74 (rcvCells (Gm.new p) w.heap.size)
  simpa [rcvCells, Gm.new] using this

theorem position_nil (w : World) : Calls Tryz.prog 16 #[.pointer none] w fun e w' => e = .returned (.int .i64 0) ∧ w = w' := by
  go_enter Tryz.func16, Tryz.ntmps16
  go_wp2
  go_ret
  exact ⟨rfl, rfl⟩
theorem position_any (b m : Nat) (c : Gm.Rcv) (w : World) (h : RcvAt w b m c) : Calls Tryz.prog 16 #[.pointer (some ⟨b, 0, none⟩)] w fun e w' => e = .returned (.int .i64 c.pos) ∧ w = w' := by
  have h1 : w.cell? ⟨b, 0, none⟩ = some (.int .i64 c.pos) := h.blk.cell 0
  go_enter Tryz.func16, Tryz.ntmps16
  go_wp2
  go_ret
  exact ⟨rfl, rfl⟩
theorem Gm.mx_le {a b n : Int} (h1 : a ≤ n) (h2 : b ≤ n) : Gm.mx a b ≤ n := by unfold Gm.mx; split <;> omega
theorem Gm.le_mx (a b : Int) : a ≤ Gm.mx a b := by unfold Gm.mx; split <;> omega
theorem Gm.le_mx2 (a b : Int) : b ≤ Gm.mx a b := by unfold Gm.mx; split <;> omega
theorem Gm.Ok.announce {c : Gm.Rcv} (h : Gm.Ok c) (p : Int) : Gm.Ok (Gm.announce c p) := by
  unfold Gm.announce
  split
  · have h1 := Gm.le_mx c.high p
    refine ⟨h.p0, by have := h.ph; show c.pos ≤ Gm.mx c.high p; omega, Gm.mx_le h.hi ‹_›, fun e he => ?_, h.nd⟩
    obtain ⟨k1, k2, k3, k4⟩ := h.key e he
    exact ⟨k1, k2, by show e.1 ≤ Gm.mx c.high p; omega, k4⟩
  · exact h
theorem rcv_setHigh {w : World} {b m : Nat} {c : Gm.Rcv} (h : RcvAt w b m c) (x : Int) (hok : Gm.Ok { c with high := x }) : RcvAt (w.setCell ⟨b, 1, none⟩ (.int .i64 x)) b m { c with high := x } := by
  obtain ⟨M, h1, h2, h3⟩ := h.map
  have hf : Fr [b] w (w.setCell ⟨b, 1, none⟩ (.int .i64 x)) := (Fr.refl _ _).setCell (.inl (by simp)) _
  refine ⟨?_, ⟨M, h1.setCell h.ne _, h2, fun e he => ⟨(h3 e he).1.fr hf (NoC.cons (noC_blk h.blk (by decide)) NoC.nil), (h3 e he).2⟩⟩, hok⟩
  have := h.blk.set_ 1 (.int .i64 x)
  simpa [rcvCells] using this
end Go.Proofs.YthiaaminkfkjpaaGreat
namespace Go.Proofs.YthiaaminkfkjpaaGreat
open Go.RowKit

/-- A block that holds just these changes. -/
theorem holds_of_blk {w : World} {g : Nat} {arr : Array Value} {cs : List Chg} {A : Option Addr} (hA : A = some ⟨g, 0, none⟩) (hB : Blk w g 65 arr) (h : cs.flatMap Chg.cells = arr.toList) : HoldsC w A cs := by
  subst hA
  refine ⟨fun hl => ⟨g, 0, rfl, hB.lt, fun i hi j hj => ?_⟩, fun hl ad e => ?_⟩
  · have e1 := flat_get Chg.len cs i hi j hj
    rw [← e1, h, Nat.zero_add, hB.cell]
    simp
  · cases e
    exact ⟨_, _, hB⟩

def recOf (p : Int) : Rec := ⟨p, [⟨0, p, false, 0, 0, 0, true, 0, 0, 0⟩]⟩
set_option maxRecDepth 100000 in
/-- 'record'. -/
theorem record_any (p : Int) (w : World) : Calls Tryz.prog 17 #[.int .i64 p] w fun e w' =>
    e = .returned (.agg #[.int .i64 p, .slice (some ⟨w.heap.size + 1, 0, none⟩) 1 1]) ∧ HoldsC w' (some ⟨w.heap.size + 1, 0, none⟩) (recOf p).cs ∧ Fr [] w w' := by
  go_enter Tryz.func17, Tryz.ntmps17
  go_wp2_with fail
  refine bodyPost_ret (v := .agg #[.int .i64 p, .slice (some ⟨w.heap.size + 1, 0, none⟩) 1 1]) (by simp [results, Tryz.results17, go_sem]) rfl ⟨rfl, ?_, ?_⟩
  · have hB := Blk.new (w.alloc (.cells #[.int .i64 p, .slice (some ⟨w.heap.size + 1, 0, none⟩) 1 1] 44)) 65 (Chg.cells ⟨0, p, false, 0, 0, 0, true, 0, 0, 0⟩).toArray
    rw [World.size_alloc] at hB
    exact holds_of_blk (cs := (recOf p).cs) rfl hB (by simp [recOf])
  · exact ((Fr.refl _ _).alloc _).alloc _

theorem etC : ∃ i z, ET Tryz.prog 42 65 10 80 i z := by
  have h : (Tryz.prog.info? 65).map (fun i => (i.zero, i.size, i.bytes)) = some (some (.agg #[.int .i64 0, .int .i64 0, .bool false, .int .i64 0, .int .i64 0, .int .i64 0, .bool false, .int .i64 0, .int .i64 0, .int .i64 0]), 10, 80) := by kernel_rfl
  obtain ⟨i0, hi, hz0, hz1, hz2⟩ := info_parts h
  exact ⟨i0, _, Tryz.underlying42, hi, hz0, hz1, hz2, rfl, by decide⟩

theorem reads_of_chgs {w : World} {A : Option Addr} {cs : List Chg} (h : ChgsAt w A cs) : Reads w w.heap.size 10 A cs.length (cs.flatMap Chg.cells) := by
  refine ⟨flat_len Chg.len cs, fun hl => ?_⟩
  obtain ⟨b, off, e, hb, hc⟩ := h hl
  refine ⟨_, e, hb, fun q u hu => ?_⟩
  have hq : q < cs.length * 10 := by
    rw [← flat_len Chg.len cs]
    exact (List.getElem?_eq_some_iff.1 hu).1
  have h1 := hc (q / 10) (by omega) (q % 10) (by omega)
  have h2 := flat_get Chg.len cs (q / 10) (by omega) (q % 10) (by omega)
  rw [show q / 10 * 10 + q % 10 = q by omega] at h2
  have hadd : (⟨b, off, none⟩ : Addr).add q = ⟨b, off + q, none⟩ := by unfold Addr.add; split <;> simp_all
  rw [hadd, show off + q = off + q / 10 * 10 + q % 10 by omega, h1, ← h2, hu]
theorem holds_of_own {w : World} {v : Value} {cs : List Chg} (h : OwnL 65 10 Chg.cells w v cs) : ∃ A cap, v = .slice A cs.length cap ∧ HoldsC w A cs := by
  rcases Nat.eq_zero_or_pos cs.length with h0 | h0
  · obtain ⟨A, cap, hv⟩ := h.val
    exact ⟨A, cap, hv, fun hl => absurd hl (by omega), fun hl => absurd hl (by omega)⟩
  · have h' := h
    obtain ⟨g, cap, hv, hc, hm, hlt, hcell, _⟩ := h.form Chg.len h0
    refine ⟨_, cap, hv, fun _ => ⟨g, 0, rfl, hlt, fun i hi j hj => ?_⟩, fun _ ad e => ?_⟩
    · rw [Nat.zero_add]; exact hcell i hi j hj
    · cases e
      rcases h'.2 with ⟨e1, _⟩ | ⟨g', cap', cur, e1, _, hg, _⟩
      · rw [hv] at e1; cases e1
      · rw [hv] at e1
        cases e1
        exact ⟨cur, _, hg⟩

set_option maxRecDepth 100000 in
/-- 'slices.Clone'. -/
theorem clone_any (b off cap : Nat) (cs : List Chg) (w : World) (hx : ChgsAt w (some ⟨b, off, none⟩) cs) (h1 : 1 ≤ cs.length) (h8 : cs.length ≤ 1000) :
    Calls Tryz.prog 33 #[.slice (some ⟨b, off, none⟩) cs.length cap] w fun e w' => ∃ A' cap', (e = .returned (.slice A' cs.length cap') ∧ HoldsC w' A' cs) ∧ Fr [] w w' := by
  obtain ⟨i0, z, T⟩ := etC
  have hr := reads_of_chgs hx
  have hlt : b < w.heap.size := by
    obtain ⟨_, _, e, hb, _⟩ := hx (by omega)
    cases e
    exact hb
  have hown : OwnL 65 10 Chg.cells (w.alloc (.cells #[] 65)) (.slice (some ⟨w.heap.size, 0, none⟩) 0 0) [] :=
    ⟨by simp, .inr ⟨w.heap.size, 0, #[], rfl, Nat.zero_le _, heap_alloc_new w _, Nat.le_refl _, by simp [maxLen], by simp, by simp⟩⟩
  have hr1 := hr.alloc (Nat.le_refl _) (.cells #[] 65)
  have hf0 : Fr [] w (w.alloc (.cells #[] 65)) := (Fr.refl _ _).alloc _
  have hnil := Lib.run_eql_slice_nil (P := Tryz.prog)
  go_enter Tryz.func33, Tryz.ntmps33
  go_wp2_with (at_builtin; refine wpList_appendL rfl _ _ rfl T Chg.len Chg.one rfl hown w.heap.size _ _ _ cs rfl rfl hr1 (by simp only [maxLen, List.length_nil]; omega) (by simp only [List.length_nil]; omega) ?_; intro v' w1 hown1 hg1 hat1; rw [List.nil_append] at hown1; obtain ⟨A', cap', hv', hh⟩ := holds_of_own hown1; subst hv')
  go_ret
  refine ⟨A', cap', ⟨rfl, hh⟩, ?_⟩
  exact hf0.grown hg1 (fun g e => by cases e; exact .inr (Nat.le_refl _))
end Go.Proofs.YthiaaminkfkjpaaGreat
namespace Go.Proofs.YthiaaminkfkjpaaGreat
open Go.RowKit

theorem Rw.valid_facts {r : Rec} (h : Rw.valid r = true) : 1 ≤ r.p ∧ r.p ≤ 10000 ∧ 1 ≤ r.cs.length ∧ r.cs.length ≤ 8 := by
  simp only [Rw.valid, Rw.inI, Bool.and_eq_true, decide_eq_true_eq] at h
  omega
theorem nd_shed {M : List (Int × WRec)} : Nd (shed M) ↔ Nd M := by
  unfold Nd shed
  rw [List.pairwise_map]
theorem Gm.Ok.keep {c : Gm.Rcv} (h : Gm.Ok c) {r : Rec} (h1 : c.pos < r.p) (h2 : r.p ≤ c.high) (h3 : r.p - c.pos ≤ 256) : Gm.Ok ⟨c.pos, c.high, mput c.L r.p r⟩ := by
  refine ⟨h.p0, h.ph, h.hi, fun e he => ?_, h.nd.put _ _⟩
  rcases mem_mput.1 he with rfl | ⟨he, _⟩
  · exact ⟨rfl, h1, h2, h3⟩
  · exact h.key e he
theorem length_le_of_nodup : ∀ (n : Nat) (l : List Int) (a : Int), l.Nodup → (∀ x ∈ l, a < x ∧ x ≤ a + n) → l.length ≤ n := by
  intro n
  induction n with
  | zero =>
    intro l a _ h
    cases l with
    | nil => simp
    | cons x l => have := h x (by simp); omega
  | succ n ih =>
    intro l a hn h
    have h1 := ih (l.filter fun x => decide (x ≠ a + n + 1)) a (hn.filter _) (fun x hx => by
      obtain ⟨hx, hne⟩ := List.mem_filter.1 hx
      have := h x hx
      simp at hne
      omega)
    have h2 : l.length ≤ (l.filter fun x => decide (x ≠ a + n + 1)).length + 1 := by
      clear ih h h1
      induction l with
      | nil => simp
      | cons x l ih =>
        obtain ⟨hx, hn⟩ := List.nodup_cons.1 hn
        by_cases e : x = a + n + 1
        · rw [List.filter_cons_of_neg (by simpa using e), List.filter_eq_self.2]
          · simp
          · intro y hy
            simp
            intro e2
            exact hx (by rw [e, ← e2]; exact hy)
        · rw [List.filter_cons_of_pos (by simpa using e)]
          have := ih hn
          simp only [List.length_cons]
          omega
    omega
theorem Gm.Ok.len {c : Gm.Rcv} (h : Gm.Ok c) : c.L.length ≤ 256 := by
  have h1 : (c.L.map (·.1)).Nodup := by
    unfold List.Nodup
    rw [List.pairwise_map]
    exact h.nd
  have h3 := length_le_of_nodup 256 _ c.pos h1 (fun x hx => by
    obtain ⟨e, he, rfl⟩ := List.mem_map.1 hx
    obtain ⟨_, k2, _, k4⟩ := h.key e he
    omega)
  simpa using h3

theorem Gm.kept_no {c : Gm.Rcv} {r : Rec} (h : Gm.keeps c r = false) : Gm.kept c r = c := by
  unfold Gm.kept
  rw [h]
  rfl
theorem Gm.kept_yes {c : Gm.Rcv} {r : Rec} (h : Gm.keeps c r = true) : Gm.kept c r = ⟨c.pos, c.high, mput c.L r.p r⟩ := by
  unfold Gm.kept
  rw [if_pos h]
set_option maxRecDepth 100000 in
/-- The closure of 'Receive'. -/
theorem keep_any (b m bx br cap : Nat) (c : Gm.Rcv) (r : Rec) (A : Option Addr) (w : World) (h : RcvAt w b m c) (hx : w.cell? ⟨bx, 0, none⟩ = some (.pointer (some ⟨b, 0, none⟩)))
    (hr : Blk w br 44 #[.int .i64 r.p, .slice A r.cs.length cap]) (hc : ChgsAt w A r.cs) (hbx : bx ≠ br) (hv : Rw.valid r = true) (h1 : c.pos < r.p) (h2' : r.p ≤ c.high) :
    Calls Tryz.prog 32 #[.pointer (some ⟨bx, 0, none⟩), .pointer (some ⟨br, 0, none⟩)] w fun e w' =>
      e = .returned (.bool (Gm.keeps c r)) ∧ RcvAt w' b m (Gm.kept c r) ∧ Fr [b, m, br] w w' := by
  obtain ⟨v1, v2, v3, v4⟩ := Rw.valid_facts hv
  obtain ⟨M, hm, hs, hM⟩ := h.map
  have hpos0 := h.ok.p0
  have hok : okI r.p := okI_mk (by omega) (by omega)
  have hbr := hr.lt
  obtain ⟨hlb, hlm⟩ := h.lt
  have hlx := World.block_lt_of_cell? w _ hx
  have b2 : w.cell? ⟨b, 2, none⟩ = some (.map (some m)) := h.blk.cell 2
  have b0 : w.cell? ⟨b, 0, none⟩ = some (.int .i64 c.pos) := h.blk.cell 0
  have r0 := hr.cell 0
  have r1 := hr.cell 1
  have hkeep : Hid (Gm.keeps c r = ((mget M r.p).isNone && decide (r.p - c.pos ≤ 256))) := Lib.hid (by
    unfold Gm.keeps
    rw [← hs, mget_shed]
    simp)
  cases hg : mget M r.p with
  | some u =>
    have hlook : (Instr.lookup 72 (.map (some m)) (.int .i64 r.p) true).run Tryz.prog w.drew = .ok (.tuple #[u.val, .bool true]) w.drew := by
      have h1 := VMap.look tyIR hm.drew r.p hok true
      rw [h1, hg]
      rfl
    have hlook2 : ∀ o, (Instr.lookup 72 (.map (some m)) (.int .i64 r.p) true).run Tryz.prog (w.alloc o).drew = .ok (.tuple #[u.val, .bool true]) (w.alloc o).drew := by
      intro o
      have h1 := VMap.look tyIR (hm.alloc o).drew r.p hok true
      rw [h1, hg]
      rfl
    have HK : Hid (Gm.keeps c r = false) := Lib.hid (by rw [hkeep.out, hg]; rfl)
    clear hg
    go_enter Tryz.func32, Tryz.ntmps32
    go_wp2_with fail
    go_region
    go_wp2_with fail
    go_quiet (fail)
    go_wp2_with fail
    go_ret
    refine ⟨by rw [HK.out]; rfl, ?_, (((Fr.refl _ _).alloc _).drew).drewN _⟩
    rw [Gm.kept_no HK.out]
    exact h.fr0 ((((Fr.refl _ _).alloc _).drew).drewN _)
  | none =>
    have hlook : (Instr.lookup 72 (.map (some m)) (.int .i64 r.p) true).run Tryz.prog w.drew = .ok (.tuple #[.agg #[.int .i64 0, .slice none 0 0], .bool false]) w.drew := by
      have h1 := VMap.look tyIR hm.drew r.p hok true
      rw [h1, hg]
      rfl
    have hlook2 : ∀ o, (Instr.lookup 72 (.map (some m)) (.int .i64 r.p) true).run Tryz.prog (w.alloc o).drew = .ok (.tuple #[.agg #[.int .i64 0, .slice none 0 0], .bool false]) (w.alloc o).drew := by
      intro o
      have h1 := VMap.look tyIR (hm.alloc o).drew r.p hok true
      rw [h1, hg]
      rfl
    by_cases hfar : r.p - c.pos ≤ 256
    · have HK : Hid (Gm.keeps c r = true) := Lib.hid (by rw [hkeep.out, hg]; simp [hfar])
      clear hg
      have hd : ¬ 256 < r.p - c.pos := by omega
      go_enter Tryz.func32, Tryz.ntmps32
      go_wp2_with fail
      go_region
      go_wp2_with fail
      go_quiet (fail)
      go_wp2_with fail
      have F0 : Fr [] w ((w.alloc (.cells #[.int .i64 0, .slice none 0 0] 44)).drewN (1 + nq)) := ((Fr.refl _ _).alloc _).drewN _
      generalize (w.alloc (.cells #[.int .i64 0, .slice none 0 0] 44)).drewN (1 + nq) = W at F0 ⊢
      obtain ⟨b', off, hA, hb', hcc⟩ := hc v3
      subst hA
      refine (clone_any b' off cap r.cs W (hc.fr F0 (by simp)) v3 (by omega)).mono ?_
      rintro e w1 ⟨A1, cap1, ⟨rfl, hh1⟩, f1⟩
      have F1 : Fr [] w w1 := F0.trans f1
      have hr1 := hr.fr F1 (by simp)
      have hh := h.fr0 F1
      clear F0 f1 hlook hlook2 r0 r1 b0 b2
      have b2 : w1.cell? ⟨b, 2, none⟩ = some (.map (some m)) := hh.blk.cell 2
      have x0 : w1.cell? ⟨bx, 0, none⟩ = some (.pointer (some ⟨b, 0, none⟩)) := (F1.cell hlx (by simp)).trans hx
      have r1 := hr1.cell 1
      have z1 := hr1.frozen 1
      have hbbr : b ≠ br := h.blk.ne hr (by decide)
      have hmbr : m ≠ br := hm.ne hr
      have hr2 := hr1.set_ 1 (.slice A1 r.cs.length cap1)
      go_wp2_with fail
      have f2 : Fr [br] w1 (w1.setCell ⟨br, 1, none⟩ (.slice A1 r.cs.length cap1)) := (Fr.refl _ _).setCell (.inl (by simp)) _
      have n2 : NoC w1 [br] := NoC.cons (noC_blk hr1 (by decide)) NoC.nil
      have h2 := hh.fr f2 (by simpa using hbbr) (by simpa using hmbr) n2
      have hh2 := hh1.fr f2 n2
      have F2 : Fr [b, m, br] w (w1.setCell ⟨br, 1, none⟩ (.slice A1 r.cs.length cap1)) := (F1.mono (by simp)).trans (f2.mono (by simp))
      have x2 : (w1.setCell ⟨br, 1, none⟩ (.slice A1 r.cs.length cap1)).cell? ⟨bx, 0, none⟩ = some (.pointer (some ⟨b, 0, none⟩)) := (f2.cell (p := ⟨bx, 0, none⟩) (Nat.lt_of_lt_of_le hlx F1.size) (by simpa using hbx)).trans x0
      clear f2 n2 x0 hh hh1 F1 hr1 r1 z1 b2
      generalize w1.setCell ⟨br, 1, none⟩ (.slice A1 r.cs.length cap1) = W2 at *
      have b2 : W2.cell? ⟨b, 2, none⟩ = some (.map (some m)) := h2.blk.cell 2
      have r0 : W2.cell? ⟨br, 0, none⟩ = some (.int .i64 r.p) := hr2.cell 0
      have r1 : W2.cell? ⟨br, 1, none⟩ = some (.slice A1 r.cs.length cap1) := hr2.cell 1
      go_still_tail 7, (by kernel_rfl)
      have h3 : RcvAt W2.drew b m c := h2.fr0 (Fr.refl [] _).drew
      have hh3 : HoldsC W2.drew A1 r.cs := hh2.fr (Fr.refl [] _).drew NoC.nil
      have F3 : Fr [b, m, br] w W2.drew := F2.drew
      change wpList _ _ _ _ _ W2.drew
      generalize W2.drew = W3 at h3 hh3 F3 ⊢
      obtain ⟨M3, hm3, hs3, hM3⟩ := h3.map
      have hlen : M3.length < maxLen := by
        have h4 := h3.ok.len
        rw [← hs3] at h4
        simp [shed] at h4
        simp only [maxLen]
        omega
      have HS := Lib.hid hs3
      clear hs3 h2 hh2 F2 x2 b2 r0 r1 hr2
      go_wp2_with (at_mapUpdate; refine wpList_vstore _ rfl _ _ _ rfl tyIR m _ rfl hm3 r.p ⟨r, A1, cap1⟩ rfl rfl hok hlen ?_; intro w6 hm6 ht6)
      go_ret
      have f6 : Fr [m] W3 w6 := turned_fr ht6 (by simp)
      have n6 : NoC W3 [m] := NoC.cons (noC_map hm3) NoC.nil
      refine ⟨by rw [HK.out]; rfl, ?_, F3.trans (f6.mono (by simp))⟩
      rw [Gm.kept_yes HK.out]
      refine ⟨h3.blk.fr f6 (by simpa using fun e => h3.ne e.symm), ⟨_, hm6, ?_, fun e he => ?_⟩, h3.ok.keep h1 h2' hfar⟩
      · rw [← mput_shed (u := ⟨r, A1, cap1⟩), HS.out]
      · rcases mem_mput.1 he with rfl | ⟨he, _⟩
        · exact ⟨hh3.fr f6 n6, v4⟩
        · exact ⟨(hM3 e he).1.fr f6 n6, (hM3 e he).2⟩
    · have HK : Hid (Gm.keeps c r = false) := Lib.hid (by rw [hkeep.out, hg]; simp [hfar])
      clear hg
      have hd : 256 < r.p - c.pos := by omega
      go_enter Tryz.func32, Tryz.ntmps32
      go_wp2_with fail
      go_region
      go_wp2_with fail
      go_quiet (fail)
      go_wp2_with fail
      go_ret
      refine ⟨by rw [HK.out]; rfl, ?_, (((Fr.refl _ _).alloc _).drew).drewN _⟩
      rw [Gm.kept_no HK.out]
      exact h.fr0 ((((Fr.refl _ _).alloc _).drew).drewN _)
end Go.Proofs.YthiaaminkfkjpaaGreat
namespace Go.Proofs.YthiaaminkfkjpaaGreat
open Go.RowKit

set_option maxRecDepth 100000 in
theorem receive_nil (r : Rec) (A : Option Addr) (cap : Nat) (w : World) :
    Calls Tryz.prog 10 #[.pointer none, .agg #[.int .i64 r.p, .slice A r.cs.length cap]] w fun e w' => e = .returned (.bool false) ∧ Fr [] w w' := by
  go_enter Tryz.func10, Tryz.ntmps10
  go_wp2_with fail
  go_quiet (fail)
  go_wp2_with fail
  go_ret
  exact ⟨rfl, (((Fr.refl _ _).alloc _).alloc _).drewN _⟩

set_option maxRecDepth 100000 in
set_option maxHeartbeats 2000000 in
theorem receive_any (b m cap : Nat) (c : Gm.Rcv) (r : Rec) (A : Option Addr) (w : World) (h : RcvAt w b m c) (hc : HoldsC w A r.cs) (hlen : r.cs.length ≤ maxLen) :
    Calls Tryz.prog 10 #[.pointer (some ⟨b, 0, none⟩), .agg #[.int .i64 r.p, .slice A r.cs.length cap]] w fun e w' =>
      e = .returned (.bool (Gm.took c r)) ∧ RcvAt w' b m (Gm.receive c r) ∧ Fr [b, m] w w' := by
  have HT : Hid (Gm.took c r = (Rw.valid r && decide (c.pos < r.p) && Gm.keeps c r)) := Lib.hid rfl
  have b0 : w.cell? ⟨b, 0, none⟩ = some (.int .i64 c.pos) := h.blk.cell 0
  obtain ⟨hlb, hlm⟩ := h.lt
  go_enter Tryz.func10, Tryz.ntmps10
  go_wp2_with fail
  have F0 : Fr [] w ((w.alloc (.cells #[.pointer (some ⟨b, 0, none⟩)] 31)).alloc (.cells #[.int .i64 r.p, .slice A r.cs.length cap] 44)) := ((Fr.refl _ _).alloc _).alloc _
  have hx0 := (Blk.new w 31 #[.pointer (some ⟨b, 0, none⟩)]).alloc (.cells #[.int .i64 r.p, .slice A r.cs.length cap] 44)
  have hr0 := Blk.new (w.alloc (.cells #[.pointer (some ⟨b, 0, none⟩)] 31)) 44 #[.int .i64 r.p, .slice A r.cs.length cap]
  rw [World.size_alloc] at hr0
  generalize ((w.alloc (.cells #[.pointer (some ⟨b, 0, none⟩)] 31)).alloc (.cells #[.int .i64 r.p, .slice A r.cs.length cap] 44)) = W0 at *
  have h0 := h.fr0 F0
  have hc0 := hc.fr F0 NoC.nil
  have hcd : HoldsC W0.drew A r.cs := hc0.fr (Fr.refl [] _).drew NoC.nil
  have b0 : W0.cell? ⟨b, 0, none⟩ = some (.int .i64 c.pos) := h0.blk.cell 0
  have x0 := hx0.cell 0
  have r0 := hr0.cell 0
  have r1 := hr0.cell 1
  obtain ⟨hlb0, hlm0⟩ := h0.lt
  have hl1 := hx0.lt
  have hl2 := hr0.lt
  cases hv : Rw.valid r
  · have HV := Lib.hid hv
    clear hv
    first
      | (go_region_with (first
            | (go_at_call 31; refine (validRecord_any r A cap _ hcd.1 hlen).mono ?_; rintro e w1 ⟨he, f1⟩; rw [HV.out] at he; subst he; obtain ⟨hcc, hff⟩ := f1.rules)))
      | fail "with"
    all_goals
      go_wp2_with fail
      go_ret
      have HN : Hid (Gm.receive c r = c) := Lib.hid (by unfold Gm.receive Gm.sees; rw [HV.out]; rfl)
      rw [HN.out, HT.out, HV.out]
      have F1 : Fr [] w w1 := (F0.drew).trans f1
      exact ⟨rfl, h.fr0 F1, F1.mono (by simp)⟩
  have HV := Lib.hid hv
  by_cases hp : r.p ≤ c.pos
  · have HS : Hid (Gm.sees c r = false) := Lib.hid (by unfold Gm.sees; rw [HV.out]; simp; omega)
    clear hv
    go_region_held3 (fun w' => w'.cell? ⟨w.heap.size, 0, none⟩ = some (.pointer (some ⟨b, 0, none⟩)) ∧ w'.cell? ⟨w.heap.size + 1, 0, none⟩ = some (.int .i64 r.p) ∧ w'.cell? ⟨w.heap.size + 1, 1, none⟩ = some (.slice A r.cs.length cap) ∧ w'.cell? ⟨b, 0, none⟩ = some (.int .i64 c.pos))
      (first | go_keep | exact ⟨(hcc _ _ hl1).trans x0, (hcc _ _ hl2).trans r0, (hcc _ _ hl2).trans r1, (hcc _ _ hlb0).trans b0⟩)
      (first
        | (go_at_call 31; refine (validRecord_any r A cap _ hcd.1 hlen).mono ?_; rintro e w1 ⟨he, f1⟩; rw [HV.out] at he; subst he; obtain ⟨hcc, hff⟩ := f1.rules))
    go_wp2_with fail
    go_ret
    have HN : Hid (Gm.receive c r = c) := Lib.hid (by unfold Gm.receive; rw [HS.out]; rfl)
    have HT2 : Hid (Gm.took c r = false) := Lib.hid (by unfold Gm.took; rw [HS.out]; rfl)
    rw [HN.out, HT2.out]
    have F1 : Fr [] w w1 := (F0.drew).trans f1
    exact ⟨rfl, h.fr0 F1, F1.mono (by simp)⟩
  have HS : Hid (Gm.sees c r = true) := Lib.hid (by unfold Gm.sees; rw [HV.out]; simp; omega)
  have hvf := Rw.valid_facts hv
  clear hv
  go_region_held3 (fun w' => w'.cell? ⟨w.heap.size, 0, none⟩ = some (.pointer (some ⟨b, 0, none⟩)) ∧ w'.cell? ⟨w.heap.size + 1, 0, none⟩ = some (.int .i64 r.p) ∧ w'.cell? ⟨w.heap.size + 1, 1, none⟩ = some (.slice A r.cs.length cap) ∧ w'.cell? ⟨b, 0, none⟩ = some (.int .i64 c.pos))
    (first | go_keep | exact ⟨(hcc _ _ hl1).trans x0, (hcc _ _ hl2).trans r0, (hcc _ _ hl2).trans r1, (hcc _ _ hlb0).trans b0⟩)
    (first
      | (go_at_call 31; refine (validRecord_any r A cap _ hcd.1 hlen).mono ?_; rintro e w1 ⟨he, f1⟩; rw [HV.out] at he; subst he; obtain ⟨hcc, hff⟩ := f1.rules))
  have f01 : Fr [] W0 w1 := ((Fr.refl [] _).drew).trans f1
  have F1 : Fr [] w w1 := F0.trans f01
  have h1 := h0.fr0 f01
  have hc1 := hc0.fr f01 NoC.nil
  have hx1 := hx0.fr f01 (by simp)
  have hr1 := hr0.fr f01 (by simp)
  clear f1 f01 hcc hff x0 r0 r1 b0 hcd h0 hc0 hx0 hr0 F0
  obtain ⟨H, hHif, hHmx⟩ : ∃ H, (if c.high < r.p then r.p else c.high) = H ∧ max c.high r.p = H := ⟨_, rfl, by split <;> omega⟩
  have HH : Hid (Gm.mx c.high r.p = H) := hHif
  have x0 : w1.cell? ⟨w.heap.size, 0, none⟩ = some (.pointer (some ⟨b, 0, none⟩)) := hx1.cell 0
  have r0 : w1.cell? ⟨w.heap.size + 1, 0, none⟩ = some (.int .i64 r.p) := hr1.cell 0
  have b1 : w1.cell? ⟨b, 1, none⟩ = some (.int .i64 c.high) := h1.blk.cell 1
  have z1 := h1.blk.frozen 1
  go_wp2_with fail
  go_still_tail 10, (by kernel_rfl)
  clear hHif hHmx
  have F2 : Fr [b, m] w w1.drew := (F1.drew).mono (by simp)
  have h2 := h1.fr0 (Fr.refl [] _).drew
  have hc2 := hc1.fr (Fr.refl [] _).drew NoC.nil
  have hx2 := hx1.drew
  have hr2 := hr1.drew
  have hk1 : H ≤ 10000 := by have := HH.out; rw [← this]; exact Gm.mx_le h.ok.hi (by omega)
  have hk2 : c.high ≤ H := by have := HH.out; rw [← this]; exact Gm.le_mx _ _
  have hk3 : r.p ≤ H := by have := HH.out; rw [← this]; exact Gm.le_mx2 _ _
  have hok : Gm.Ok { c with high := H } := ⟨h.ok.p0, Int.le_trans h.ok.ph hk2, hk1, fun e he => ⟨(h.ok.key e he).1, (h.ok.key e he).2.1, Int.le_trans (h.ok.key e he).2.2.1 hk2, (h.ok.key e he).2.2.2⟩, h.ok.nd⟩
  have h3 := rcv_setHigh h2 H hok
  have f3 : Fr [b] w1.drew (w1.drew.setCell ⟨b, 1, none⟩ (.int .i64 H)) := (Fr.refl _ _).setCell (.inl (by simp)) _
  have n3 : NoC w1.drew [b] := NoC.cons (noC_blk h2.blk (by decide)) NoC.nil
  have hc3 := hc2.fr f3 n3
  have hx3 := hx2.fr f3 (by simp; omega)
  have hr3 := hr2.fr f3 (by simp; omega)
  have F3 : Fr [b, m] w (w1.drew.setCell ⟨b, 1, none⟩ (.int .i64 H)) := F2.trans (f3.mono (by simp))
  change wpList _ _ _ _ _ w1.drew
  have b1' : w1.drew.cell? ⟨b, 1, none⟩ = some (.int .i64 c.high) := b1
  have z1' : w1.drew.frozen? ⟨b, 1, none⟩ = false := z1
  clear f3 n3 h2 hc2 hx2 hr2 F2 h1 hc1 hx1 hr1 F1 x0 r0 b1 z1
  generalize w1.drew = W2 at *
  go_wp2_with fail
  refine (keep_any b m w.heap.size (w.heap.size + 1) cap { c with high := H } r A _ h3 (hx3.cell 0) hr3 hc3.1 (by omega) HV.out hp hk3).mono ?_
  rintro e w5 ⟨rfl, h5, f5⟩
  have HN : Hid (Gm.receive c r = Gm.kept { c with high := H } r) := Lib.hid (by unfold Gm.receive; rw [HS.out, HH.out]; rfl)
  have HT2 : Hid (Gm.took c r = Gm.keeps { c with high := H } r) := Lib.hid (by unfold Gm.took; rw [HS.out]; rfl)
  have F5 : Fr [b, m] w w5 := F3.trans' f5 (by simp)
  go_wp2_with fail
  go_ret
  rw [HN.out, HT2.out]
  exact ⟨rfl, h5, F5⟩
end Go.Proofs.YthiaaminkfkjpaaGreat

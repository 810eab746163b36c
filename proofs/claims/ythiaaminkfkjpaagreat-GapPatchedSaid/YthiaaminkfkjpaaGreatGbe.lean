/-
  'append' onto a row of the call's own, inside a fence; a turned object.
-/
import Derived.Test.YthiaaminkfkjpaaGreatGao
import Derived.Test.YthiaaminkfkjpaaGreatGam
import Derived.Test.YthiaaminkfkjpaaGreatGaf
import Derived.Test.YthiaaminkfkjpaaGreatGai
import Derived.Test.YthiaaminkfkjpaaGreatGae
import Derived.Test.YthiaaminkfkjpaaGreatGak
import Derived.Test.YthiaaminkfkjpaaGreatGbb
import Derived.RangeFuncRecord
import Derived.RangeFuncSeq
import Derived.RangeFuncLeaves
import Derived.TacticsIn
import Derived.BigFrameIn
import Derived.OwnWalkIn
import Derived.ControlIn
import Derived.Deep.DeepCutAuto
import Derived.Test.YthiaaminkfkjpaaGreatGab
import Derived.Shelf.Abstract
namespace Go.Proofs.YthiaaminkfkjpaaGreat
open Go.RowKit

/-- Records at an address. -/
def RecsAt (w : World) (A : Option Addr) (l : List Rec) : Prop := ∃ us : List WRec, AtL WRec.cells 2 w A us ∧ us.map (·.r) = l ∧ ∀ u ∈ us, HoldsC w u.A u.r.cs ∧ u.r.cs.length ≤ 8
theorem OwnR.recs {w : World} {A : Option Addr} {n cap : Nat} {out : List Rec} (h : OwnR w (.slice A n cap) out) : RecsAt w A out ∧ n = out.length := by
  obtain ⟨us, h1, h2, h3⟩ := h
  obtain ⟨h4, h5⟩ := h1.at1 WRec.len
  exact ⟨⟨us, h4, h2, h3⟩, by rw [← h2, List.length_map]; exact h5⟩
/-- None of the blocks in S holds records. -/
def NoR (w : World) (S : List Nat) : Prop := ∀ s ∈ S, ∀ arr fz, w.heap[s]? ≠ some (.cells arr 44 fz)

/-- At the head of each round of 'At'. -/
structure AtRel (w0 w : World) (A : Option Addr) (l : List Rec) (k : Nat) (wr : World) (b m : Nat) : Prop where
  st : StaAt wr b m (Lg.run (l.take k))
  fr : Fr [] w wr
  hb : w.heap.size ≤ b
  hm : w.heap.size ≤ m

end Go.Proofs.YthiaaminkfkjpaaGreat
namespace Go.Proofs.YthiaaminkfkjpaaGreat
namespace Lg

theorem run_ok (l : List Rec) : Sm.Ok (run l) := by
  have key : ∀ (l : List Rec) (s : Sm.Sta), Sm.Ok s → Sm.Ok (l.foldl Sm.apply s) := by
    intro l
    induction l with
    | nil => exact fun s h => h
    | cons r l ih => exact fun s h => ih _ (h.applied r)
  exact key l _ Sm.ok_new
theorem run_succ (l : List Rec) {i : Nat} (hi : i < l.length) : run (l.take (i + 1)) = Sm.apply (run (l.take i)) l[i] := by
  rw [List.take_succ_eq_append_getElem hi, run_snoc]
theorem fits_pos {s : Sm.Sta} {r : Rec} (h : Sm.fits s r = true) : r.p = s.pos + 1 ∧ Sm.apply s r = ⟨r.cs.foldl Sm.put1 s.M, r.p⟩ := by
  refine ⟨?_, by unfold Sm.apply; rw [if_pos h]⟩
  simp only [Sm.fits, Bool.and_eq_true, decide_eq_true_eq] at h
  exact h.1.2
theorem Ok.pos {l : List Rec} (h : Ok l) : ∀ i, i ≤ l.length → (run (l.take i)).pos = i
  | 0, _ => rfl
  | i + 1, hi => by
    have hf := h.fits i (by omega)
    obtain ⟨h1, h2⟩ := fits_pos hf
    rw [run_succ l (by omega), h2]
    dsimp only
    rw [h1, h.pos i (by omega)]
    omega
theorem Ok.at_ {l : List Rec} (h : Ok l) {i : Nat} (hi : i < l.length) : l[i].p = i + 1 := by
  rw [(fits_pos (h.fits i hi)).1, h.pos i (by omega)]
theorem Ok.valid {l : List Rec} (h : Ok l) {i : Nat} (hi : i < l.length) : Rw.valid l[i] = true := by
  have hf := h.fits i hi
  simp only [Sm.fits, Bool.and_eq_true, decide_eq_true_eq] at hf
  exact hf.1.1
theorem run_all (l : List Rec) : run (l.take l.length) = run l := by rw [List.take_length]
end Lg
theorem OwnR.cap {w : World} {A : Option Addr} {cap : Nat} {out : List Rec} (h : OwnR w (.slice A out.length cap) out) : out.length ≤ cap := by
  obtain ⟨us, h1, h2, _⟩ := h
  have hl : out.length = us.length := by rw [← h2, List.length_map]
  rw [hl] at h1 ⊢
  exact own_cap2 h1
theorem RecsAt.open_ {w : World} {A : Option Addr} {l : List Rec} (h : RecsAt w A l) {k : Nat} (hk : k < l.length) :
    ∃ bb off Ak ck, A = some ⟨bb, off, none⟩ ∧ bb < w.heap.size ∧ w.cell? ⟨bb, off + k * 2, none⟩ = some (.int .i64 l[k].p) ∧ w.cell? ⟨bb, off + k * 2 + 1, none⟩ = some (.slice Ak l[k].cs.length ck) ∧ HoldsC w Ak l[k].cs ∧ l[k].cs.length ≤ 8 := by
  obtain ⟨us, hat, hus, hhc⟩ := h
  subst hus
  have hku : k < us.length := by simpa using hk
  obtain ⟨bb, off, e, hbb, hc⟩ := hat (by omega)
  obtain ⟨h1, h2⟩ := hhc us[k] (List.getElem_mem hku)
  have e1 : (us.map (·.r))[k]'hk = us[k].r := by simp
  rw [e1]
  exact ⟨bb, off, us[k].A, us[k].cap, e, hbb, hc k hku 0 (by decide), hc k hku 1 (by decide), h1, h2⟩
theorem sapply_n (b m : Nat) (s : Sm.Sta) (r : Rec) (A : Option Addr) (n cap : Nat) (p : Int) (w : World) (h : StaAt w b m s) (hc : HoldsC w A r.cs) (hlen : r.cs.length ≤ 8) (hn : n = r.cs.length) (hp : p = r.p) :
    Calls Tryz.prog 13 #[.pointer (some ⟨b, 0, none⟩), .agg #[.int .i64 p, .slice A n cap]] w fun e w' => e = .returned (.int .i64 (Sm.code s r)) ∧ StaAt w' b m (Sm.apply s r) ∧ Fr [b, m] w w' := by
  subst hn
  subst hp
  exact sapply_any b m s r A cap w h hc (Nat.le_trans hlen (by decide))
end Go.Proofs.YthiaaminkfkjpaaGreat
namespace Go.Proofs.YthiaaminkfkjpaaGreat
open Go.RowKit

theorem Em.valid_base {q : Qry} (h : Em.base q = false) : Em.valid q = false := by
  unfold Em.valid
  rw [h]
  simp
end Go.Proofs.YthiaaminkfkjpaaGreat
namespace Go.Proofs.YthiaaminkfkjpaaGreat
open Go.RowKit

def mapSize (w : World) (m : Nat) : Nat := match w.heap[m]? with
  | some (.map es _) => es.size
  | _ => 0
theorem VMap.mapSize {K V : Type} {P : Program} {k : TypeId} {kl : K → Lit} {ev : V → Value} {w : World} {b : Nat} {M : List (K × V)} (h : VMap P k kl ev w b M) : mapSize w b = M.length := by
  obtain ⟨es, clock, hb, _, hp⟩ := h
  unfold Go.Proofs.YthiaaminkfkjpaaGreat.mapSize
  rw [hb]
  have := hp.length_eq
  simpa using this
theorem RcvAt.mapSize {w : World} {b m : Nat} {c : Gm.Rcv} (h : RcvAt w b m c) : mapSize w m = c.L.length := by
  obtain ⟨M, hm, hs, _⟩ := h.map
  rw [hm.mapSize, ← hs]
  simp [shed]

theorem OwnR.apart {w : World} {v : Value} {out : List Rec} (h : OwnR w v out) {b m : Nat} {c : Gm.Rcv} (hr : RcvAt w b m c) : ∀ g, v.ownBlock = some g → g ∉ [b, m] := by
  obtain ⟨us, h1, _⟩ := h
  obtain ⟨M, hm, _⟩ := hr.map
  intro g hg
  have e1 := h1.ne hr.blk (by decide) hg
  have e2 := h1.ne_map hm hg
  simp [e1, e2]

/-- Between two rounds of 'Take': out has been handed on. -/
structure TkAt (b m B l D bx : Nat) (rec : Loop) (w0 : World) (out : List Rec) (W : World) : Prop where
  res : ∃ v, Blk W B 26 #[v] ∧ OwnR W v out ∧ ∀ g, v.ownBlock = some g → w0.heap.size ≤ g
  L : W.heap[l]? = some (.loop rec)
  K : W.heap[D]? = some (.deferred (some []))
  x : Blk W bx 31 #[.pointer (some ⟨b, 0, none⟩)]
  fr : Fr [b, m] w0 W
theorem TkAt.step {b m B l D bx : Nat} {rec : Loop} {w0 : World} {out : List Rec} {W W' : World} {c : Gm.Rcv} (h : TkAt b m B l D bx rec w0 out W) (hr : RcvAt W b m c) (hf : Fr [b, m] W W') : TkAt b m B l D bx rec w0 out W' := by
  obtain ⟨v, h1, h2, h2'⟩ := h.res
  obtain ⟨M, hm, _⟩ := hr.map
  have hB : B ∉ [b, m] := by
    have e1 : b ≠ B := hr.blk.ne h1 (by decide)
    have e2 : m ≠ B := hm.ne h1
    simp [e1.symm, e2.symm]
  have hX : bx ∉ [b, m] := by
    have e1 : b ≠ bx := hr.blk.ne h.x (by decide)
    have e2 : m ≠ bx := hm.ne h.x
    simp [e1.symm, e2.symm]
  have hN : ∀ k o, W.heap[k]? = some o → (∀ cs t fz, o ≠ .cells cs t fz) → (∀ es cl, o ≠ .map es cl) → k ∉ [b, m] := by
    intro k o hk h3 h4 hmem
    simp only [List.mem_cons, List.not_mem_nil, or_false] at hmem
    rcases hmem with rfl | rfl
    · have := hr.blk
      unfold Blk at this
      rw [hk] at this
      exact h3 _ _ _ (Option.some.inj this)
    · obtain ⟨es, cl, he, _⟩ := hm
      rw [hk] at he
      exact h4 _ _ (Option.some.inj he)
  exact ⟨⟨v, h1.fr hf hB, h2.fr hf (h2.apart hr) hr.noC, h2'⟩, (hf.block _ (Array.getElem?_eq_some_iff.1 h.L).1 (hN _ _ h.L (by simp) (by simp))).trans h.L, (hf.block _ (Array.getElem?_eq_some_iff.1 h.K).1 (hN _ _ h.K (by simp) (by simp))).trans h.K, h.x.fr hf hX, h.fr.trans hf⟩

theorem Gm.Ok.next {c : Gm.Rcv} (h : Gm.Ok c) {r : Rec} (hg : mget c.L (c.pos + 1) = some r) : r.p = c.pos + 1 ∧ Gm.Ok ⟨r.p, c.high, mdel c.L r.p⟩ ∧ (mdel c.L r.p).length + 1 = c.L.length := by
  have hm := (mget_iff h.nd).1 hg
  obtain ⟨k1, k2, k3, k4⟩ := h.key _ hm
  have e : r.p = c.pos + 1 := k1.symm
  refine ⟨e, ⟨by have := h.p0; show 0 ≤ r.p; omega, by show r.p ≤ c.high; omega, h.hi, fun x hx => ?_, h.nd.del _⟩, ?_⟩
  · obtain ⟨hx, hne⟩ := mem_mdel.1 hx
    obtain ⟨j1, j2, j3, j4⟩ := h.key x hx
    exact ⟨j1, by show r.p < x.1; omega, j3, by show x.1 - r.p ≤ 256; omega⟩
  · have := length_mdel (x := c.pos + 1) h.nd
    rw [hg] at this
    rw [e]
    simpa using this

theorem Gm.take_none {c : Gm.Rcv} (h : mget c.L (c.pos + 1) = none) (k : Nat) : Gm.take k c = ([], c) := by
  cases k with
  | zero => rfl
  | succ k => unfold Gm.take; rw [h]
theorem Gm.take_some {c : Gm.Rcv} {r : Rec} (h : mget c.L (c.pos + 1) = some r) (k : Nat) : Gm.take (k + 1) c = (r :: (Gm.take k ⟨r.p, c.high, mdel c.L r.p⟩).1, (Gm.take k ⟨r.p, c.high, mdel c.L r.p⟩).2) := by
  rw [Gm.take, h]

set_option maxRecDepth 100000 in
/-- 'ready'. -/
theorem ready_any (p : Option Addr) (w : World) : Calls Tryz.prog 34 #[.pointer p] w fun e w' => e = .returned (.func (.func 61) #[] #[.pointer (some ⟨w.heap.size, 0, none⟩)]) ∧ w' = w.alloc (.cells #[.pointer p] 31) := by
  go_enter Tryz.func34, Tryz.ntmps34
  go_wp2
  go_ret
  exact ⟨rfl, rfl⟩

/-- What a round of the loop owes. -/
def RoundOk (b m B l D bx : Nat) (rec : Loop) (w0 : World) : Prop := ∀ (out : List Rec) (u : WRec) (W : World), TkAt b m B l D bx rec w0 out W → HoldsC W u.A u.r.cs → u.r.cs.length ≤ 8 → out.length ≤ 255 →
  YieldAt Fence.wide 3 Tryz.prog l #[u.val] W fun e W' => e = .returned (.bool true) ∧ TkAt b m B l D bx rec w0 (out ++ [u.r]) W' ∧ ∀ c, RcvAt W b m c → RcvAt W' b m c

/-- At the head of each round of the iterator. -/
def ReadyRel (b m B l D bx : Nat) (rec : Loop) (w0 : World) (c0 : Gm.Rcv) (wr : World) : Prop := ∃ out c k, TkAt b m B l D bx rec w0 out wr ∧ RcvAt wr b m c ∧ Gm.take c0.L.length c0 = (out ++ (Gm.take k c).1, (Gm.take k c).2) ∧ c.L.length ≤ k ∧ out.length + k = c0.L.length

set_option maxRecDepth 100000 in
theorem ready1_any (b m B l D bx : Nat) (rec : Loop) (w0 : World) (hY : RoundOk b m B l D bx rec w0) (c0 : Gm.Rcv) (W : World) (h : RcvAt W b m c0) (hT : TkAt b m B l D bx rec w0 [] W) :
    Calls Tryz.prog 61 #[.func (.yield l) #[] #[], .pointer (some ⟨bx, 0, none⟩)] W fun e W' => (∃ v, e = .returned v) ∧ TkAt b m B l D bx rec w0 (Gm.take c0.L.length c0).1 W' ∧ RcvAt W' b m (Gm.take c0.L.length c0).2 := by
  have R0 : ReadyRel b m B l D bx rec w0 c0 W := ⟨[], c0, c0.L.length, hT, h, rfl, Nat.le_refl _, by simp⟩
  have HY := Lib.hid hY
  have hlen0 := h.ok.len
  clear h hT hY
  go_enter Tryz.func61, Tryz.ntmps61
  go_wp2_with fail
  go_loopw [7] (fun _ wr => ReadyRel b m B l D bx rec w0 c0 wr) (fun _ wr => mapSize wr m)
  case atStart => exact R0
  case round =>
    clear R0
    obtain ⟨out, c, k, hT, hr, htk, hck, hok⟩ := hrel
    have HTK := Lib.hid htk
    clear htk
    have hxc : wr.cell? ⟨bx, 0, none⟩ = some (.pointer (some ⟨b, 0, none⟩)) := hT.x.cell 0
    have b0 : wr.cell? ⟨b, 0, none⟩ = some (.int .i64 c.pos) := hr.blk.cell 0
    have b2 : wr.cell? ⟨b, 2, none⟩ = some (.map (some m)) := hr.blk.cell 2
    have hlx := hT.x.lt
    obtain ⟨hlb, hlm⟩ := hr.lt
    have hp0 := hr.ok.p0
    have hph := hr.ok.ph
    have hpi := hr.ok.hi
    have HMS := Lib.hid hr.mapSize
    obtain ⟨M, hm, hs, hM⟩ := hr.map
    have hkey : okI (c.pos + 1) := okI_mk (by omega) (by omega)
    have hgs : mget c.L (c.pos + 1) = (mget M (c.pos + 1)).map (·.r) := by rw [← hs, mget_shed]
    cases hg : mget M (c.pos + 1) with
    | none =>
      rw [hg] at hgs
      have HG := Lib.hid hgs
      have hlook : (Instr.lookup 72 (.map (some m)) (.int .i64 (c.pos + 1)) true).run Tryz.prog wr.drew = .ok (.tuple #[.agg #[.int .i64 0, .slice none 0 0], .bool false]) wr.drew := by
        have h1 := VMap.look tyIR hm.drew (c.pos + 1) hkey true
        rw [h1, hg]
        rfl
      have hlook2 : ∀ o, (Instr.lookup 72 (.map (some m)) (.int .i64 (c.pos + 1)) true).run Tryz.prog (wr.alloc o).drew = .ok (.tuple #[.agg #[.int .i64 0, .slice none 0 0], .bool false]) (wr.alloc o).drew := by
        intro o
        have h1 := VMap.look tyIR (hm.alloc o).drew (c.pos + 1) hkey true
        rw [h1, hg]
        rfl
      clear hgs hg
      go_wp2_with fail
      go_region
      go_wp2_with fail
      refine bodyPost_ret (results_none rfl _ _ _) rfl ?_
      have F : Fr [b, m] wr ((wr.alloc (.cells #[.int .i64 0, .slice none 0 0] 44)).drew) := ((Fr.refl _ _).alloc _).drew
      have e1 := HTK.out
      rw [Gm.take_none HG.out k] at e1
      simp only [List.append_nil] at e1
      rw [e1]
      exact ⟨⟨_, rfl⟩, hT.step hr F, hr.fr0 (((Fr.refl _ _).alloc _).drew)⟩
    | some u =>
      rw [hg] at hgs
      have HG := Lib.hid hgs
      obtain ⟨n1, n2, n3⟩ := hr.ok.next hgs
      have hu := hM _ ((mget_iff (hm.nd tyIR)).1 hg)
      have hlook : (Instr.lookup 72 (.map (some m)) (.int .i64 (c.pos + 1)) true).run Tryz.prog wr.drew = .ok (.tuple #[.agg #[.int .i64 u.r.p, .slice u.A u.r.cs.length u.cap], .bool true]) wr.drew := by
        have h1 := VMap.look tyIR hm.drew (c.pos + 1) hkey true
        rw [h1, hg]
        rfl
      have hlook2 : ∀ o, (Instr.lookup 72 (.map (some m)) (.int .i64 (c.pos + 1)) true).run Tryz.prog (wr.alloc o).drew = .ok (.tuple #[.agg #[.int .i64 u.r.p, .slice u.A u.r.cs.length u.cap], .bool true]) (wr.alloc o).drew := by
        intro o
        have h1 := VMap.look tyIR (hm.alloc o).drew (c.pos + 1) hkey true
        rw [h1, hg]
        rfl
      have N1 := Lib.hid n1
      have N3 := Lib.hid n3
      clear hgs hg n1 n3
      go_wp2_with fail
      go_region
      go_wp2_with fail
      have f1 : Fr [] wr (wr.alloc (.cells #[.int .i64 u.r.p, .slice u.A u.r.cs.length u.cap] 44)).drew := ((Fr.refl _ _).alloc _).drew
      have hN : Blk (wr.alloc (.cells #[.int .i64 u.r.p, .slice u.A u.r.cs.length u.cap] 44)).drew wr.heap.size 44 #[.int .i64 u.r.p, .slice u.A u.r.cs.length u.cap] := (Blk.new _ _ _).drew
      have hT1 := hT.step hr (f1.mono (by simp))
      have hr1 := hr.fr0 f1
      have hu1 := hu.1.fr f1 NoC.nil
      clear hlook hlook2 f1 b0 b2 hxc hlx hT hm hM hs hr
      generalize (wr.alloc (.cells #[.int .i64 u.r.p, .slice u.A u.r.cs.length u.cap] 44)).drew = W1 at *
      have x1 : W1.cell? ⟨bx, 0, none⟩ = some (.pointer (some ⟨b, 0, none⟩)) := hT1.x.cell 0
      have b2 : W1.cell? ⟨b, 2, none⟩ = some (.map (some m)) := hr1.blk.cell 2
      have r0 : W1.cell? ⟨wr.heap.size, 0, none⟩ = some (.int .i64 u.r.p) := hN.cell 0
      go_still_tail 6, (by kernel_rfl)
      have f2 : Fr [] W1 W1.drew := (Fr.refl _ _).drew
      have hT2 := hT1.step hr1 (f2.mono (by simp))
      have hr2 := hr1.fr0 f2
      have hu2 := hu1.fr f2 NoC.nil
      have hN2 := hN.drew
      change wpList _ _ _ _ _ W1.drew
      clear f2 x1 b2 r0 hT1 hr1 hu1 hN
      generalize W1.drew = W2 at *
      have hkey2 : okI u.r.p := by rw [N1.out]; exact hkey
      obtain ⟨M2, hm2, hs2, hM2⟩ := hr2.map
      have hS2 := Lib.hid hs2
      clear hs2 hkey
      go_upto_region 5 with (at_delete; refine wpList_vdel _ rfl _ _ rfl tyIR m _ rfl hm2 u.r.p rfl hkey2 ?_; intro W3 hm3 ht3; have f3 : Fr [m] W2 W3 := turned_fr ht3 (by simp); have hmb : m ≠ b := hr2.ne; have hb3 := hr2.blk.fr f3 (by simpa using fun e => hmb e.symm); have hN3 := hN2.fr f3 (by simpa using fun e => (hm2.ne hN2) e.symm); have hT3 := hT2.step hr2 (f3.mono (by simp)); have x3 : W3.cell? ⟨bx, 0, none⟩ = some (.pointer (some ⟨b, 0, none⟩)) := hT3.x.cell 0; have y3 : W3.cell? ⟨b, 0, none⟩ = some (.int .i64 c.pos) := hb3.cell 0; have z3 := hb3.frozen 0; have r3 : W3.cell? ⟨wr.heap.size, 0, none⟩ = some (.int .i64 u.r.p) := hN3.cell 0; have r4 : W3.cell? ⟨wr.heap.size, 1, none⟩ = some (.slice u.A u.r.cs.length u.cap) := hN3.cell 1)
      have f4 : Fr [b] W3 (W3.setCell ⟨b, 0, none⟩ (.int .i64 u.r.p)) := (Fr.refl _ _).setCell (.inl (by simp)) _
      have hr4 : RcvAt (W3.setCell ⟨b, 0, none⟩ (.int .i64 u.r.p)) b m ⟨u.r.p, c.high, mdel c.L u.r.p⟩ := by
        have n3 : NoC W2 [m] := NoC.cons (noC_map hm2) NoC.nil
        have n4 : NoC W3 [b] := NoC.cons (noC_blk hb3 (by decide)) NoC.nil
        refine ⟨?_, ⟨_, hm3.setCell hmb _, ?_, fun e he => ?_⟩, n2⟩
        · have := hb3.set_ 0 (.int .i64 u.r.p)
          simpa [rcvCells] using this
        · rw [← mdel_shed, hS2.out]
        · have h5 := hM2 e (mem_mdel.1 he).1
          exact ⟨(h5.1.fr f3 n3).fr f4 n4, h5.2⟩
      have hu4 : HoldsC (W3.setCell ⟨b, 0, none⟩ (.int .i64 u.r.p)) u.A u.r.cs :=
        (hu2.fr f3 (NoC.cons (noC_map hm2) NoC.nil)).fr f4 (NoC.cons (noC_blk hb3 (by decide)) NoC.nil)
      have hT4 : TkAt b m B l D bx rec w0 out (W3.setCell ⟨b, 0, none⟩ (.int .i64 u.r.p)) := hT2.step hr2 ((f3.mono (by simp)).trans (f4.mono (by simp)))
      have hN4 := hN3.fr f4 (by simpa using fun e => (hb3.ne hN3 (by decide)) e.symm)
      have r3' : (W3.setCell ⟨b, 0, none⟩ (.int .i64 u.r.p)).cell? ⟨wr.heap.size, 0, none⟩ = some (.int .i64 u.r.p) := hN4.cell 0
      have r4' : (W3.setCell ⟨b, 0, none⟩ (.int .i64 u.r.p)).cell? ⟨wr.heap.size, 1, none⟩ = some (.slice u.A u.r.cs.length u.cap) := hN4.cell 1
      clear r3 r4 x3 y3 z3 hN4 hN3 hb3 hm3 ht3 f3 f4
      generalize W3.setCell ⟨b, 0, none⟩ (.int .i64 u.r.p) = W4 at *
      obtain ⟨k', rfl⟩ : ∃ k', k = k' + 1 := ⟨k - 1, by have := N3.out; omega⟩
      obtain ⟨fn, tmps, assign, body, hy, hR⟩ := HY.out out u W4 hT4 hu4 hu.2 (by omega)
      have hy' : (Instr.yield l #[.agg #[.int .i64 u.r.p, .slice u.A u.r.cs.length u.cap]]).run Tryz.prog W4 = .ok (.round l fn tmps assign body) W4 := hy
      clear hy
      refine (wpIn_wide (n := 4)).1 ?_
      gi_wp2
      refine hR.mono ?_
      rintro e W5 ⟨rfl, hT5, hk5⟩
      have hr5 := hk5 _ hr4
      have hms : mapSize W5 m < mapSize wr m := by
        rw [hr5.mapSize, HMS.out]
        have := N3.out
        show (mdel c.L u.r.p).length < c.L.length
        omega
      have RR : ReadyRel b m B l D bx rec w0 c0 W5 := by
        refine ⟨_, _, k', hT5, hr5, ?_, ?_, ?_⟩
        · rw [HTK.out, Gm.take_some HG.out]
          simp
        · have := N3.out
          show (mdel c.L u.r.p).length ≤ k'
          omega
        · simp
          omega
      gi_wp2
      go_wp2_with fail
      go_roundw
      case rel => exact RR
      case measure => exact hms
end Go.Proofs.YthiaaminkfkjpaaGreat
namespace Go.Proofs.YthiaaminkfkjpaaGreat
open Go.RowKit
attribute [local go_sem] Oper.semAt_some

section
variable {X : Type} {P : Program} {t e size bytes : Nat} {i0 : TypeInfo} {z : Value} {enc : X → List Value} {w : World} {v : Value} {L : List X}
/-- 'append' onto a row of the call's own, inside a fence. -/
theorem wpListIn_appendL {F : Fence} {n : Nat} {ops : Array Oper} {rest : List Oper} {o : Oper} {a : Act} {Q : Exit → Act → World → Prop} (hgd : o.guard = none) (s x : Operand)
    (ho : o.op = .call { callee := .builtin .append, args := #[s, x], argTypes := #[t, t] }) (T : ET P t e size bytes i0 z) (henc : ∀ x, (enc x).length = size) (h1 : ∀ x, ∀ u ∈ enc x, u.oneCell' = true)
    (hs : a.eval s = v) (hown : OwnL e size enc w v L) (B : Nat) (A : Option Addr) (m c : Nat) (N : List X) (hx : a.eval x = .slice A m c) (hm : m = N.length) (hr : Reads w B size A m (N.flatMap enc))
    (h63 : L.length + N.length ≤ maxLen) (hbytes : (L.length + N.length) * bytes ≤ 140737488355328)
    (h : ∀ v' w', OwnL e size enc w' v' (L ++ N) → w.grownBy w' v.ownBlock → (v'.ownBlock = v.ownBlock ∨ v'.ownBlock = some w.heap.size) → wpListIn F n P ops Q rest (a.put o.dst v') w') : wpListIn F n P ops Q (o :: rest) a w := by
  subst hm
  refine wpListIn_plain hgd fun K hK' => ?_
  obtain ⟨v', w', hrun, r1, r2, r3⟩ := run_append_any (P := P) w 0 t o.type e i0 z size bytes T.ht T.hi T.hz T.hs T.hb T.hzs T.pos v L.length (L.flatMap enc) hown B A N.length c (N.flatMap enc) hr (fun u hu => by
    obtain ⟨y, hy, hu'⟩ := List.mem_flatMap.1 hu
    exact h1 y u hu') h63 hbytes (Nat.zero_le _)
  have r1' : OwnL e size enc w' v' (L ++ N) := by
    unfold OwnL
    rw [List.length_append, List.flatMap_append]
    exact r1
  unfold Oper.wpIn
  refine ⟨?_, ?_⟩
  · simp [Oper.about, ho, resolve, Target.leads, Sem.run_pure]
  · rw [Oper.semAt_plain F _ _ (by rw [ho]; intro c hc'; cases hc')]
    simp [execOp, ho, resolve, invoke, builtin, hs, hx, hrun, Result.andThen]
    exact hK' _ _ (h v' w' r1' r2 r3)
end

theorem putObj_fr {S : List Nat} {a w : World} (h : Fr S a w) {r : Nat} (hr : r ∈ S ∨ a.heap.size ≤ r) (o : Obj) : Fr S a (w.putObj r o) :=
  h.trans' (S' := [r]) ⟨rfl, rfl, rfl, by simp, fun k _ hn => World.putObj_heap_other (by simpa using hn)⟩ (by simpa using hr)
end Go.Proofs.YthiaaminkfkjpaaGreat

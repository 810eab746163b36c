/-
  The ranges of a division of all values contain each row of a table exactly once, in ascending order; the range of all keys is all rows: at most 30 records that integers determine. Conditions: none.
-/
import Derived.Test.YtakfaffgfdbfmaaBase
import Derived.BigQuiet
import Derived.Test.YtakfaffgfdbfmaaStX
import Derived.Test.YtakfaffgfdbfmaaRfH
import Derived.Test.YtakfaffgfdbfmaaSwC
import Derived.Test.YtakfaffgfdbfmaaLgE
import Derived.Test.YtakfaffgfdbfmaaSwB
import Derived.Test.YtakfaffgfdbfmaaSwP
import Derived.Deep.DeepCutAuto
import Derived.Deep.RegionLaw
import Derived.Deep.RegionWith
import Derived.Deep.CutBlock
import Derived.StillTailTactics
import Derived.IntWalk
namespace Go.Proofs.Ytakfaffgfdbfmaa

/-- A world behind W: what is old there is as it was. -/
structure Later (W : World) where
  w : World
  fr : Fr [] W w
instance (W : World) : Nonempty (Later W) := ⟨⟨W, Fr.refl [] W⟩⟩
theorem Later.cell {W : World} (p : Later W) {b o : Nat} {v : Value} (hb : b < W.heap.size) (h : W.cell? ⟨b, o, none⟩ = some v) : p.w.cell? ⟨b, o, none⟩ = some v := (p.fr.rules.1 b o hb).trans h
theorem Later.calls {P : Program} {f : FuncId} {args : Array Value} {W : World} {v : Value} {p : Later W} (h : Calls P f args p.w fun e w' => e = .returned v ∧ Fr [] p.w w') :
    Calls P f args p.w fun e w'' => e = .returned v ∧ ∃ q : Later W, w'' = q.w :=
  h.mono fun _ w' hh => ⟨hh.1, ⟨w', p.fr.trans hh.2⟩, rfl⟩
theorem wp_region_later {P : Program} {id : Nat} {Q : Exit → Act → World → Prop} {a : Act} {w : World} {l : List Oper} (hm : P.follows .mixedOrders = true) (hB : Region.lexB .any l.toArray = true)
    (h : wpQuiet P l.toArray (fun w' => ∃ p : Later w, w' = p.w) (fun a' => ∀ w', (∃ p : Later w, w' = p.w) → Q .normal a' w') l a) : (Code.region id l.toArray true).wp P Q a w :=
  wp_region_quiet (C := fun w' => ∃ p : Later w, w' = p.w) hm hB ⟨⟨_, (Fr.refl [] w).drew⟩, rfl⟩ (by simpa using h)
end Go.Proofs.Ytakfaffgfdbfmaa
namespace Go.Proofs.Ytakfaffgfdbfmaa
namespace Rgs

theorem value_small {l : List Rec} (h : Lg.Ok l) {r : RowV} (hr : r ∈ (Lg.run l).M.map (·.2)) (c : Int) : -1000 ≤ r.value c ∧ r.value c ≤ 1000 := by
  obtain ⟨e, he, rfl⟩ := List.mem_map.1 hr
  have h1 := Cmt.small h l.length (Nat.le_refl _)
  have h2 := Lst.grid h l.length (Nat.le_refl _)
  rw [Lg.run_all] at h1 h2
  obtain ⟨a, b, d⟩ := h1 e he
  obtain ⟨_, _, k1, k2⟩ := h2 e he
  have hk := (Lg.run_ok l).key e he
  rw [hk] at k1 k2
  dsimp only at k1 k2
  unfold RowV.value
  repeat' split
  all_goals omega
theorem key_small {l : List Rec} (h : Lg.Ok l) {r : RowV} (hr : r ∈ (Lg.run l).M.map (·.2)) : 1 ≤ r.k ∧ r.k ≤ 9 := by
  obtain ⟨e, he, rfl⟩ := List.mem_map.1 hr
  have h2 := Lst.grid h l.length (Nat.le_refl _)
  rw [Lg.run_all] at h2
  obtain ⟨_, _, k1, k2⟩ := h2 e he
  rw [(Lg.run_ok l).key e he] at k1 k2
  exact ⟨k1, k2⟩
theorem filt_len {α : Type} (p q s : α → Bool) : ∀ L : List α, (∀ x ∈ L, s x = (p x || q x) ∧ (p x && q x) = false) → (L.filter p).length + (L.filter q).length = (L.filter s).length
  | [], _ => rfl
  | x :: L, h => by
    have ih := filt_len p q s L fun y hy => h y (by simp [hy])
    obtain ⟨h1, h2⟩ := h x (by simp)
    simp only [List.filter_cons, h1]
    cases hp : p x <;> cases hq : q x <;> simp [hp, hq] at h2 ⊢ <;> omega
theorem whole {l : List Rec} (h : Lg.Ok l) {t c cut : Int} {Ra Rb R : List RowV} (ha : Picked (Lg.run l) c (inRng t c (-1000000000) cut) Ra) (hb : Picked (Lg.run l) c (inRng t c (cut + 1) 1000000000) Rb) (hr : Picked (Lg.run l) 0 (inTab t) R) :
    (Ra ++ Rb).length = R.length := by
  rw [List.length_append, ha.perm.length_eq, hb.perm.length_eq, hr.perm.length_eq]
  refine filt_len _ _ _ _ fun r hm => ?_
  have hv := value_small h hm c
  unfold inRng inTab
  by_cases h1 : r.t = t <;> by_cases h2 : r.value c ≤ cut
  · simp [h1, h2]; omega
  · simp [h1, h2]; omega
  · simp [h1]
  · simp [h1]
theorem rows_nodup {s : Sm.Sta} (h : Sm.Ok s) : (s.M.map (·.2)).Nodup := by
  rw [List.Nodup, List.pairwise_map]
  refine List.Pairwise.imp_of_mem ?_ h.nd
  intro a b ha hb hne he
  exact hne (Subtype.ext (by rw [h.key a ha, h.key b hb, he]))
theorem strict {s : Sm.Sta} (ho : Sm.Ok s) {c t : Int} {p : RowV → Bool} (hp : ∀ r, p r = true → r.t = t) {R : List RowV} (h : Picked s c p R) : R.Pairwise (ahead2 c) := by
  have hn : R.Nodup := h.perm.nodup_iff.2 (List.Pairwise.filter _ (rows_nodup ho))
  have hk := keyApart_filter ho t hp
  refine List.Pairwise.imp_of_mem ?_ (List.Pairwise.and hn h.srt)
  intro a b ha hb hab
  by_cases h1 : ahead2 c a b
  · exact h1
  · exact absurd (hk a (h.perm.mem_iff.1 ha) b (h.perm.mem_iff.1 hb) (ahead2_total h1 hab.2).2) hab.1
theorem mem_of {s : Sm.Sta} {c : Int} {p : RowV → Bool} {R : List RowV} (h : Picked s c p R) {r : RowV} (hr : r ∈ R) : r ∈ s.M.map (·.2) ∧ p r = true := List.mem_filter.1 (h.perm.mem_iff.1 hr)
/-- What the law asks of the two ranges in a row. -/
structure Div (s : Sm.Sta) (t c cut : Int) (n : Nat) (L : List RowV) : Prop where
  side : ∀ i (hi : i < L.length), L[i].value c ≤ cut ↔ i < n
  next : ∀ i (hi : i + 1 < L.length), ahead2 c L[i] L[i + 1]
  got : ∀ i (hi : i < L.length), mget s.M (idOf t L[i].k) = some L[i] ∧ okI L[i].k
theorem div {l : List Rec} (h : Lg.Ok l) {t c cut : Int} {Ra Rb : List RowV} (ha : Picked (Lg.run l) c (inRng t c (-1000000000) cut) Ra) (hb : Picked (Lg.run l) c (inRng t c (cut + 1) 1000000000) Rb) :
    Div (Lg.run l) t c cut Ra.length (Ra ++ Rb) := by
  have ho := Lg.run_ok l
  have va : ∀ r ∈ Ra, r.value c ≤ cut := fun r hr => by
    have h1 := (mem_of ha hr).2
    simp only [inRng, Bool.and_eq_true, decide_eq_true_eq] at h1
    exact h1.2.2
  have vb : ∀ r ∈ Rb, cut < r.value c := fun r hr => by
    have h1 := (mem_of hb hr).2
    simp only [inRng, Bool.and_eq_true, decide_eq_true_eq] at h1
    omega
  refine ⟨fun i hi => ?_, fun i hi => ?_, fun i hi => ?_⟩
  · by_cases h1 : i < Ra.length
    · rw [List.getElem_append_left h1]
      exact ⟨fun _ => h1, fun _ => va _ (List.getElem_mem _)⟩
    · rw [List.getElem_append_right (by omega)]
      have h2 := vb _ (List.getElem_mem (show i - Ra.length < Rb.length by simp at hi; omega))
      exact ⟨fun h3 => by omega, fun h3 => absurd h3 h1⟩
  · have hP : (Ra ++ Rb).Pairwise (ahead2 c) := List.pairwise_append.2 ⟨strict ho (fun r => inRng_t r) ha, strict ho (fun r => inRng_t r) hb, fun x hx y hy => .inl (by have := va x hx; have := vb y hy; omega)⟩
    exact List.pairwise_iff_getElem.1 hP i (i + 1) (by omega) hi (by omega)
  · have hm : (Ra ++ Rb)[i] ∈ (Lg.run l).M.map (·.2) ∧ (Ra ++ Rb)[i].t = t := by
      rcases List.mem_append.1 (List.getElem_mem hi) with h1 | h1
      · exact ⟨(mem_of ha h1).1, inRng_t _ (mem_of ha h1).2⟩
      · exact ⟨(mem_of hb h1).1, inRng_t _ (mem_of hb h1).2⟩
    obtain ⟨hm, ht⟩ := hm
    generalize (Ra ++ Rb)[i] = r at hm ht
    obtain ⟨e, he, rfl⟩ := List.mem_map.1 hm
    have hk := ho.key e he
    have hkk : okI e.2.k := by have := e.1.2.2; rwa [hk] at this
    have htt : okI e.2.t := by have := e.1.2.1; rwa [hk] at this
    refine ⟨(mget_iff ho.nd).2 ?_, hkk⟩
    rw [← ht, show idOf e.2.t e.2.k = e.1 from Subtype.ext (by rw [idOf_val htt hkk, hk])]
    exact he
/-- All keys: all rows. -/
theorem all {l : List Rec} (h : Lg.Ok l) {t : Int} {R R' : List RowV} (hr : Picked (Lg.run l) 0 (inTab t) R) (hr' : Picked (Lg.run l) 0 (inRng t 0 1 1000000) R') : R' = R := by
  refine Picked.uniq (t := t) (c := 0) (p := inTab t) ⟨hr'.perm.trans (List.Perm.of_eq (List.filter_congr fun r hm => ?_)), hr'.srt⟩ hr (Lg.run_ok l) (fun r => inTab_t r)
  have hk := key_small h hm
  unfold inRng inTab
  rw [value_zero]
  by_cases h1 : r.t = t
  · simp [h1]; omega
  · simp [h1]
end Rgs
end Go.Proofs.Ytakfaffgfdbfmaa
namespace Go.Proofs.Ytakfaffgfdbfmaa
open Go.RowKit

theorem own_empty {X : Type} (e size : Nat) (enc : X → List Value) (w : World) : OwnL e size enc (w.alloc (.cells #[] e)) (.slice (some ⟨w.heap.size, 0, none⟩) 0 0) ([] : List X) :=
  ⟨by simp, .inr ⟨_, 0, #[], rfl, Nat.zero_le _, heap_alloc_new w _, Nat.le_refl _, Nat.zero_le _, by simp, by simp⟩⟩

theorem Reads.past_empty {w w' : World} {e size n : Nat} {A : Option Addr} {xs : List Value} (h : Reads w w.heap.size size A n xs) (hg : (w.alloc (.cells #[] e)).grownBy w' (Value.slice (some ⟨w.heap.size, 0, none⟩) 0 0).ownBlock) : Reads w' w.heap.size size A n xs :=
  (h.alloc (Nat.le_refl _) _).grown hg (by rw [World.size_alloc]; omega) (fun g hg => by simp [Value.ownBlock] at hg; omega)

set_option maxRecDepth 100000 in
set_option maxHeartbeats 8000000 in
theorem ranges_walk (A : Option Addr) (n cap : Nat) (table column at_ : Int) (w : World) (hn : n ≤ cap) (hcap : cap ≤ maxLen) (hx : n = 0 ∨ ∃ bx ox, A = some ⟨bx, ox, none⟩ ∧ SixAt w bx ox n) (hok1 : okI table) (hok2 : okI column) (hok3 : okI at_) :
    Calls Try.prog 8 #[.slice A n cap, .int .i64 table, .int .i64 column, .int .i64 at_] w fun e w' => e = .returned (.bool true) ∧ Below w.heap.size w w' := by
  have HX := Lib.hid hx
  have hk0 := okI_bounds hok1
  have hk1 := okI_bounds hok2
  have hk2 := okI_bounds hok3
  have HP0 := Lib.hid (fun W => pick_any table 4 W hk0.1 hk0.2 (by omega) (by omega))
  have HP1 := Lib.hid (fun W => pick_any column 4 W hk1.1 hk1.2 (by omega) (by omega))
  have HP2 := Lib.hid (fun W => pick_any at_ 60 W hk2.1 hk2.2 (by omega) (by omega))
  obtain ⟨t, htt, ht0⟩ : ∃ t, pickI table 4 = t ∧ 0 ≤ t ∧ t ≤ 3 := ⟨_, rfl, pickI_nonneg table (by omega), by have := pickI_lt table (n := 4) (by omega); omega⟩
  obtain ⟨c, hcc, hc0⟩ : ∃ t, pickI column 4 = t ∧ 0 ≤ t ∧ t ≤ 3 := ⟨_, rfl, pickI_nonneg column (by omega), by have := pickI_lt column (n := 4) (by omega); omega⟩
  obtain ⟨pk, hpk, hpk0⟩ : ∃ t, pickI at_ 60 = t ∧ 0 ≤ t ∧ t < 60 := ⟨_, rfl, pickI_nonneg at_ (by omega), pickI_lt at_ (n := 60) (by omega)⟩
  rw [htt] at HP0
  rw [hcc] at HP1
  rw [hpk] at HP2
  clear hx hok1 hok2 hok3 hk0 hk1 hk2 htt hcc hpk
  go_enter Try.func8, Try.ntmps8
  go_wp2_with fail
  refine (sane_any _).mono ?_
  rintro e w1 ⟨rfl, f1⟩
  have F1 := Lib.hid f1
  go_wp2_with fail
  refine (log4_any A n cap w1 hn hcap (by
    rcases HX.out with h0 | ⟨bx, ox, h1, h2⟩
    · exact .inl h0
    · exact .inr ⟨bx, ox, h1, h2.fr0 F1.out⟩)).mono ?_
  rintro e w2 ⟨vl, l, rfl, hor, hok, hll, f2, hvo⟩
  obtain ⟨A2, n2, cap2, hv⟩ : ∃ A n c, vl = .slice A n c := by
    obtain ⟨us, hus, _⟩ := hor
    obtain ⟨A2, cap2, hv⟩ := hus.val
    exact ⟨_, _, _, hv⟩
  subst hv
  obtain ⟨hat, hnl⟩ := hor.recs
  subst hnl
  have hc2 : l.length ≤ cap2 := hor.cap
  have HAT := Lib.hid hat
  have HOK := Lib.hid hok
  have F2 := Lib.hid (f1.trans f2)
  clear hor hat hok f1 f2 hvo
  go_wp2_with fail
  refine (sat_ok A2 cap2 l l.length w2 HAT.out (by omega) (Nat.le_refl _) hc2 (fun i h _ => HOK.out.fits i h)).mono ?_
  rintro e w3 ⟨b, m, rfl, hst, f3, hb, hm⟩
  rw [Lg.run_all] at hst
  have HST := Lib.hid hst
  have F3 := Lib.hid (F2.out.trans f3)
  clear hst f3 hb hm HAT F2 F1 HX
  have HSO : Hid (Sm.Ok (Lg.run l)) := Lib.hid (Lg.run_ok l)
  have HRA := Lib.hid (srange_any b m (Lg.run l) t c (-1000000000) (pk - 30) w3 HST.out hc0.1 (by omega))
  go_wp2_with fail
  refine (HP0.out _).mono ?_
  rintro e w' ⟨rfl, rfl⟩
  go_wp2_with fail
  refine (HP1.out _).mono ?_
  rintro e w' ⟨rfl, rfl⟩
  go_wp2_with fail
  refine (HP2.out _).mono ?_
  rintro e w' ⟨rfl, rfl⟩
  go_wp2_with fail
  refine HRA.out.mono ?_
  rintro e w4 ⟨va, Ra, rfl, hra, hpa, fa, hoa⟩
  have HRA4 := Lib.hid hra
  have HPA := Lib.hid hpa
  have FA := Lib.hid fa
  obtain ⟨A4, n4, cap4, hv4, hn4⟩ : ∃ A n c, va = .slice A n c ∧ n = Ra.length := by
    obtain ⟨A4, cap4, h4⟩ := hra.val
    exact ⟨_, _, _, h4, rfl⟩
  subst hv4
  have HN4 := Lib.hid hn4
  clear hn4
  have HRB := Lib.hid (srange_any b m (Lg.run l) t c (pk - 30 + 1) 1000000000 w4 (HST.out.fr0 fa) hc0.1 (by omega))
  have HLA := Lib.hid (hpa.len HSO.out)
  clear hra hpa fa hoa HRA
  go_wp2_with fail
  refine HRB.out.mono ?_
  rintro e w5 ⟨vb, Rb, rfl, hrb, hpb, fb, hob⟩
  have HRB5 := Lib.hid hrb
  have HPB := Lib.hid hpb
  have FB := Lib.hid fb
  obtain ⟨A5, n5, cap5, hv5, hn5⟩ : ∃ A n c, vb = .slice A n c ∧ n = Rb.length := by
    obtain ⟨A5, cap5, h5⟩ := hrb.val
    exact ⟨_, _, _, h5, rfl⟩
  subst hv5
  have HLB := Lib.hid (hpb.len HSO.out)
  clear hrb hpb fb hob HRB
  have HDV := Lib.hid (Rgs.div HOK.out HPA.out HPB.out)
  have HRA5 := Lib.hid (HRA4.out.keep0 FB.out)
  have HN5 := Lib.hid hn5
  clear hn5
  have hov6 := own_empty 50 5 RowV.cells w5
  have hra6 : Hid (Reads (w5.alloc (.cells #[] 50)) (w5.heap.size) 5 A4 n4 (Ra.flatMap RowV.cells)) := Lib.hid (by
    have h1 := (HRA5.out.reads rfl).alloc (Nat.le_refl _) (.cells #[] 50)
    rw [← HN4.out] at h1
    exact h1)
  have hrb5 : Hid (Reads w5 w5.heap.size 5 A5 n5 (Rb.flatMap RowV.cells)) := Lib.hid (by
    have h1 := HRB5.out.reads rfl
    rw [← HN5.out] at h1
    exact h1)
  have hl1 : Hid (([] : List RowV).length + Ra.length ≤ 4000) := Lib.hid (by have := HLA.out; simp only [List.length_nil]; omega)
  have hl2 : Hid (Ra.length + Rb.length ≤ 4000) := Lib.hid (by have := HLA.out; have := HLB.out; omega)
  have hmx : Hid ((4000 : Nat) ≤ maxLen) := Lib.hid (by decide)
  obtain ⟨i0, TR⟩ := etRow
  go_wp2_with (at_builtin; first
    | (refine wpList_appendL rfl _ _ rfl TR RowV.cells_len RowV.cells_one rfl hov6 _ _ _ _ Ra rfl HN4.out hra6.out (Nat.le_trans hl1.out hmx.out) (Nat.le_trans (Nat.mul_le_mul_right 40 hl1.out) (by decide)) ?_; intro v6 w6 hown6 (hg6 : World.grownBy _ w6 (Value.slice (some ⟨w5.heap.size, 0, none⟩) 0 0).ownBlock) (hat6 : v6.ownBlock = (Value.slice (some ⟨w5.heap.size, 0, none⟩) 0 0).ownBlock ∨ v6.ownBlock = some (w5.alloc (.cells #[] 50)).heap.size); rw [List.nil_append] at hown6; have HO6 := Lib.hid hown6; have HG6 := Lib.hid hg6; have HA6 := Lib.hid hat6; obtain ⟨A6, n6, c6, hv6⟩ : ∃ A n c, v6 = .slice A n c := (match hown6.val with | ⟨_, _, hv⟩ => ⟨_, _, _, hv⟩); subst hv6; clear hown6 hg6 hat6; have hrb6 : Hid (Reads w6 w5.heap.size 5 A5 n5 (Rb.flatMap RowV.cells)) := Lib.hid (hrb5.out.past_empty HG6.out))
    | (refine wpList_appendL rfl _ _ rfl TR RowV.cells_len RowV.cells_one rfl HO6.out _ _ _ _ Rb rfl HN5.out hrb6.out (Nat.le_trans hl2.out hmx.out) (Nat.le_trans (Nat.mul_le_mul_right 40 hl2.out) (by decide)) ?_; intro v7 w7 hown7 (hg7 : World.grownBy _ w7 (Value.slice A6 n6 c6).ownBlock) hat7; have HO7 := Lib.hid hown7; have HG7 := Lib.hid hg7; have HA7 := Lib.hid hat7; obtain ⟨A7, n7, c7, hv7⟩ : ∃ A n c, v7 = .slice A n c := (match hown7.val with | ⟨_, _, hv⟩ => ⟨_, _, _, hv⟩); subst hv7; clear hown7 hg7 hat7))
  obtain ⟨L, hL⟩ : ∃ L, Ra ++ Rb = L := ⟨_, rfl⟩
  have hn7 : n7 = L.length := by
    obtain ⟨A8, c8, h8⟩ := HO7.out.val
    injection h8 with h1 h2 h3
    rw [h2, hL]
  have HWL := Lib.hid (fun R (h : Picked (Lg.run l) 0 (inTab t) R) => Rgs.whole (R := R) HOK.out HPA.out HPB.out h)
  rw [hL] at HO7 HDV HWL
  have HFW : Hid (Fr [] w w7) := Lib.hid (by
    have h5 := (F3.out.trans FA.out).trans FB.out
    have hs := h5.size
    have h6 := (h5.alloc (.cells #[] 50)).grown HG6.out (fun g hg => .inr (by simp [Value.ownBlock] at hg; omega))
    refine h6.grown HG7.out (fun g hg => .inr ?_)
    rcases HA6.out with h7 | h7
    · rw [hg] at h7
      simp [Value.ownBlock] at h7
      omega
    · rw [hg] at h7
      injection h7 with h7
      rw [World.size_alloc] at h7
      omega)
  have HS7 : Hid (StaAt w7 b m (Lg.run l)) := Lib.hid (by
    have h5 := ((HST.out.fr0 FA.out).fr0 FB.out)
    have hl5 := h5.lt
    have h6 := (Fr.refl [] w5).alloc (.cells #[] 50)
    have h7 := h6.grown HG6.out (fun g hg => .inr (by simp [Value.ownBlock] at hg; omega))
    refine h5.fr0 (h7.grown HG7.out (fun g hg => .inr ?_))
    rcases HA6.out with h8 | h8
    · rw [hg] at h8
      simp [Value.ownBlock] at h8
      omega
    · rw [hg] at h8
      injection h8 with h8
      rw [World.size_alloc] at h8
      omega)
  have HL7 : Hid (L.length ≤ 4000) := Lib.hid (by rw [← hL, List.length_append]; exact hl2.out)
  have HN7 := Lib.hid hn7
  have hn74 : n4 ≤ 4000 := by rw [HN4.out]; have := HLA.out; omega
  rw [← HN4.out] at HDV
  clear hL hn7 HO6 HG6 HA6 HG7 HA7 hrb6 hrb5 hra6 hov6 HRA5 HRB5 HRA4 HST F3 FA FB TR hl1 hl2 HPA HPB HLA HLB HN4 HN5
  refine (srows_any b m (Lg.run l) t w7 HS7.out).mono ?_
  rintro e w8 ⟨vr, R, rfl, hr8, hpr, f8, ho8⟩
  have hlr := hpr.len HSO.out
  have hw8 := HWL.out R hpr
  obtain ⟨A8, cap8, hv8⟩ := hr8.val
  subst hv8
  have e8 : R.length = n7 := by rw [HN7.out, ← hw8]
  rw [e8] at hr8 ⊢
  have HE8 := Lib.hid e8
  clear e8
  have HR8 := Lib.hid hr8
  have HPR := Lib.hid hpr
  have HW8 := Lib.hid hw8
  have HO8 := Lib.hid (HO7.out.keep0 f8)
  have HS8 := Lib.hid (HS7.out.fr0 f8)
  have HF8 := Lib.hid (HFW.out.trans f8)
  have hn7 : n7 ≤ 4000 := by rw [HN7.out]; exact HL7.out
  clear hr8 hpr f8 ho8 hw8 hlr HO7 HS7 HFW HWL
  have R0 : Hid (Fr [] w8 w8) := Lib.hid (Fr.refl _ _)
  go_wp2_with fail
  go_loopw [20] (fun i wr => ∃ i0 : Nat, i = .int .i64 i0 ∧ i0 ≤ n7 ∧ Hid (Fr [] w8 wr)) (fun i _ => n7 - (intOf i).toNat)
  case atStart => exact ⟨0, rfl, Nat.zero_le _, R0⟩
  case round =>
    clear R0
    obtain ⟨i, rfl, hi, HR⟩ := hrel
    by_cases hlt : i < n7
    · have hiL : i < L.length := by rw [← HN7.out]; exact hlt
      have hrow := HO8.out.keep0 HR.out
      obtain ⟨g, cap9, hv, _, _, hgl, hcell, _⟩ := hrow.form RowV.cells_len (by omega)
      obtain ⟨rfl, rfl⟩ : A7 = some ⟨g, 0, none⟩ ∧ c7 = cap9 := by
        injection hv with h1 h2 h3
        exact ⟨h1, h3⟩
      clear hv hrow
      obtain ⟨x, hx⟩ : ∃ x, L[i] = x := ⟨_, rfl⟩
      have z0 : wr.cell? ⟨g, i * 5, none⟩ = some (.int .i64 x.t) := by rw [← hx]; exact hcell i hiL 0 (by decide)
      have z1 : wr.cell? ⟨g, i * 5 + 1, none⟩ = some (.int .i64 x.k) := by rw [← hx]; exact hcell i hiL 1 (by decide)
      have z2 : wr.cell? ⟨g, i * 5 + 2, none⟩ = some (.int .i64 x.x) := by rw [← hx]; exact hcell i hiL 2 (by decide)
      have z3 : wr.cell? ⟨g, i * 5 + 3, none⟩ = some (.int .i64 x.y) := by rw [← hx]; exact hcell i hiL 3 (by decide)
      have z4 : wr.cell? ⟨g, i * 5 + 4, none⟩ = some (.int .i64 x.z) := by rw [← hx]; exact hcell i hiL 4 (by decide)
      have HCELL := Lib.hid hcell
      have HXQ := Lib.hid hx
      have hside := HDV.out.side i hiL
      rw [hx] at hside
      obtain ⟨vx, hvx⟩ : ∃ v, x.value c = v := ⟨_, rfl⟩
      have HV := Lib.hid (value_any x c)
      rw [hvx] at HV hside
      have HVX := Lib.hid hvx
      have hsd : (!(decide (vx ≤ pk - 30) == decide (i < n4))) = false := by
        by_cases h1 : i < n4
        · rw [decide_eq_true (hside.2 h1), decide_eq_true h1]
          rfl
        · rw [decide_eq_false (fun h2 => h1 (hside.1 h2)), decide_eq_false h1]
          rfl
      clear hside hvx hcell hx
      go_wp2_with fail
      refine (HV.out wr).mono ?_
      rintro e w' ⟨rfl, rfl⟩
      have FW1 := (HR.out).alloc (.cells x.cells.toArray 50)
      have FWr := (Fr.refl [] wr).alloc (.cells x.cells.toArray 50)
      generalize (wr.alloc (.cells x.cells.toArray 50)) = W1 at *
      have HW1 := Lib.hid FW1
      have HCW := Lib.hid (fun (k j : Nat) (hk : k < L.length) (hj : j < 5) => ((FWr.rules.1 g (k * 5 + j) hgl).trans (HCELL.out k hk j hj)))
      have hgl1 : g < W1.heap.size := Nat.lt_of_lt_of_le hgl FWr.size
      clear z0 z1 z2 z3 z4 FW1 FWr
      go_upto_region 21 with fail
      go_cut [124] (fun s wc => s = .bool false ∧ Hid (Fr [] W1 wc))
      case first =>
        rcases Nat.eq_zero_or_pos i with h0 | h0
        · subst h0
          clear hgl hgl1
          go_quiet (fail)
          go_wp2_with fail
          go_meet
          exact ⟨rfl, Lib.hid ((Fr.refl _ _).drewN _)⟩
        · obtain ⟨q, hq⟩ : ∃ q, i = q + 1 := ⟨i - 1, by omega⟩
          have hqi : (i : Int) - 1 = (q : Int) := by omega
          have hqn : q < n7 := by omega
          have hq0 : (0 : Int) ≤ (q : Int) := by omega
          have hqi7 : (q : Int) < (n7 : Int) := by omega
          have hqw : IntKind.i64.wrap ((i : Int) - 1) = (q : Int) := by rw [hqi]; exact IntWalk.i64_in _ (by omega)
          have hqw2 : IntKind.i64.wrap (q : Int) = (q : Int) := IntWalk.i64_in _ (by omega)
          have hiq0 : (0 : Int) ≤ (i : Int) := by omega
          have hii7 : (i : Int) < (n7 : Int) := by omega
          have hiw2 : IntKind.i64.wrap (i : Int) = (i : Int) := IntWalk.i64_in _ (by omega)
          have hpos : decide ((0 : Int) < (i : Int)) = true := decide_eq_true (by omega)
          have hnx := HDV.out.next q (by omega)
          obtain ⟨y, hy⟩ : ∃ y, L[q] = y := ⟨_, rfl⟩
          have e0 : ∀ h : q + 1 < L.length, L[q + 1] = x := by
            subst hq
            exact fun _ => HXQ.out
          rw [hy, e0] at hnx
          have HVY := Lib.hid (fun W => value_any y c W)
          obtain ⟨vy, hvy⟩ : ∃ v, y.value c = v := ⟨_, rfl⟩
          unfold ahead2 at hnx
          rw [HVX.out, hvy] at hnx
          rw [hvy] at HVY
          have a0 : W1.cell? ⟨g, q * 5, none⟩ = some (.int .i64 y.t) := by rw [← hy]; exact HCW.out q 0 (by omega) (by decide)
          have a1 : W1.cell? ⟨g, q * 5 + 1, none⟩ = some (.int .i64 y.k) := by rw [← hy]; exact HCW.out q 1 (by omega) (by decide)
          have a2 : W1.cell? ⟨g, q * 5 + 2, none⟩ = some (.int .i64 y.x) := by rw [← hy]; exact HCW.out q 2 (by omega) (by decide)
          have a3 : W1.cell? ⟨g, q * 5 + 3, none⟩ = some (.int .i64 y.y) := by rw [← hy]; exact HCW.out q 3 (by omega) (by decide)
          have a4 : W1.cell? ⟨g, q * 5 + 4, none⟩ = some (.int .i64 y.z) := by rw [← hy]; exact HCW.out q 4 (by omega) (by decide)
          have b1 : W1.cell? ⟨g, i * 5 + 1, none⟩ = some (.int .i64 x.k) := by rw [← HXQ.out]; exact HCW.out i 1 hiL (by decide)
          have c0 : ∀ p : Later W1, p.w.cell? ⟨g, q * 5, none⟩ = some (.int .i64 y.t) := fun p => p.cell hgl1 a0
          have c1 : ∀ p : Later W1, p.w.cell? ⟨g, q * 5 + 1, none⟩ = some (.int .i64 y.k) := fun p => p.cell hgl1 a1
          have c2 : ∀ p : Later W1, p.w.cell? ⟨g, q * 5 + 2, none⟩ = some (.int .i64 y.x) := fun p => p.cell hgl1 a2
          have c3 : ∀ p : Later W1, p.w.cell? ⟨g, q * 5 + 3, none⟩ = some (.int .i64 y.y) := fun p => p.cell hgl1 a3
          have c4 : ∀ p : Later W1, p.w.cell? ⟨g, q * 5 + 4, none⟩ = some (.int .i64 y.z) := fun p => p.cell hgl1 a4
          have d1 : ∀ p : Later W1, p.w.cell? ⟨g, i * 5 + 1, none⟩ = some (.int .i64 x.k) := fun p => p.cell hgl1 b1
          have HVF := Lib.hid (fun W => (HVY.out W).mono (R' := fun e w' => e = .returned (.int .i64 vy) ∧ Fr [] W w') fun e w' h => ⟨h.1, by rw [h.2]; exact (Fr.refl _ _).alloc _⟩)
          clear HVY a0 a1 a2 a3 a4 b1
          clear hq e0 hy hvy hgl hgl1
          rcases hnx with hnx | ⟨h1, h2⟩
          · have n1 : decide (vx < vy) = false := decide_eq_false (by omega)
            have n2 : decide (vx = vy) = false := decide_eq_false (by omega)
            have n5 : (vx == vy) = false := by simpa using n2
            clear hnx
            refine wp_region_later (by kernel_rfl) (by kernel_rfl) ?_
            repeat (go_big_quiet_step (exact Later.calls (HVF.out _)))
            refine wpQuiet_nil ?_
            rintro w' ⟨⟨wq, fq⟩, rfl⟩
            go_wp2_with fail
            go_meet
            exact ⟨rfl, Lib.hid fq⟩
          · subst h1
            have n1 : decide (vy < vy) = false := decide_eq_false (by omega)
            have n3 : decide (x.k ≤ y.k) = false := decide_eq_false (by omega)
            clear h2
            refine wp_region_later (by kernel_rfl) (by kernel_rfl) ?_
            repeat (go_big_quiet_step (exact Later.calls (HVF.out _)))
            refine wpQuiet_nil ?_
            rintro w' ⟨⟨wq, fq⟩, rfl⟩
            go_wp2_with fail
            go_meet
            exact ⟨rfl, Lib.hid fq⟩
      case rest =>
        obtain ⟨rfl, HF2⟩ := hcut
        obtain ⟨hgt, hokk⟩ := HDV.out.got i hiL
        rw [HXQ.out] at hgt hokk
        have HFA := Lib.hid (HW1.out.trans HF2.out)
        have HGT := Lib.hid (sget_any b m (Lg.run l) t x.k wc (HS8.out.fr0 HFA.out) (okI_mk (by omega) (by omega)) hokk)
        rw [hgt] at HGT
        have y0 : wc.cell? ⟨g, i * 5, none⟩ = some (.int .i64 x.t) := (HF2.out.rules.1 g _ hgl1).trans (by rw [← HXQ.out]; exact HCW.out i 0 hiL (by decide))
        have y1 : wc.cell? ⟨g, i * 5 + 1, none⟩ = some (.int .i64 x.k) := (HF2.out.rules.1 g _ hgl1).trans (by rw [← HXQ.out]; exact HCW.out i 1 hiL (by decide))
        have y2 : wc.cell? ⟨g, i * 5 + 2, none⟩ = some (.int .i64 x.x) := (HF2.out.rules.1 g _ hgl1).trans (by rw [← HXQ.out]; exact HCW.out i 2 hiL (by decide))
        have y3 : wc.cell? ⟨g, i * 5 + 3, none⟩ = some (.int .i64 x.y) := (HF2.out.rules.1 g _ hgl1).trans (by rw [← HXQ.out]; exact HCW.out i 3 hiL (by decide))
        have y4 : wc.cell? ⟨g, i * 5 + 4, none⟩ = some (.int .i64 x.z) := (HF2.out.rules.1 g _ hgl1).trans (by rw [← HXQ.out]; exact HCW.out i 4 hiL (by decide))
        have hglc : g < wc.heap.size := Nat.lt_of_lt_of_le hgl1 HF2.out.size
        clear hgt hokk hgl hgl1
        unfold gotVal at HGT
        go_wp2_with fail
        refine HGT.out.mono ?_
        rintro e w6 ⟨rfl, f6⟩
        have u0 := (f6.rules.1 g _ hglc).trans y0
        have u1 := (f6.rules.1 g _ hglc).trans y1
        have u2 := (f6.rules.1 g _ hglc).trans y2
        have u3 := (f6.rules.1 g _ hglc).trans y3
        have u4 := (f6.rules.1 g _ hglc).trans y4
        have hgl6 : g < w6.heap.size := Nat.lt_of_lt_of_le hglc f6.size
        have HF6 := Lib.hid (HFA.out.trans f6)
        have hq := neq_row x x
        have hg := eqGuard_row
        rw [decide_eq_true (rfl : x = x)] at hq
        clear y0 y1 y2 y3 y4 hglc f6
        have hnb := Blk.new w6 50 #[.int .i64 x.t, .int .i64 x.k, .int .i64 x.x, .int .i64 x.y, .int .i64 x.z]
        have FW7 := (Fr.refl [] w6).alloc (.cells #[.int .i64 x.t, .int .i64 x.k, .int .i64 x.x, .int .i64 x.y, .int .i64 x.z] 50)
        have hnl := hnb.lt
        go_upto_region 24 with fail
        generalize (w6.alloc (.cells #[.int .i64 x.t, .int .i64 x.k, .int .i64 x.x, .int .i64 x.y, .int .i64 x.z] 50)) = W7 at *
        have hgl7 : g < W7.heap.size := Nat.lt_of_lt_of_le hgl6 FW7.size
        have b0 : ∀ p : Later W7, p.w.cell? ⟨w6.heap.size, 0, none⟩ = some (.int .i64 x.t) := fun p => p.cell hnl (hnb.cell 0)
        have b1 : ∀ p : Later W7, p.w.cell? ⟨w6.heap.size, 1, none⟩ = some (.int .i64 x.k) := fun p => p.cell hnl (hnb.cell 1)
        have b2 : ∀ p : Later W7, p.w.cell? ⟨w6.heap.size, 2, none⟩ = some (.int .i64 x.x) := fun p => p.cell hnl (hnb.cell 2)
        have b3 : ∀ p : Later W7, p.w.cell? ⟨w6.heap.size, 3, none⟩ = some (.int .i64 x.y) := fun p => p.cell hnl (hnb.cell 3)
        have b4 : ∀ p : Later W7, p.w.cell? ⟨w6.heap.size, 4, none⟩ = some (.int .i64 x.z) := fun p => p.cell hnl (hnb.cell 4)
        have e0 : ∀ p : Later W7, p.w.cell? ⟨g, i * 5, none⟩ = some (.int .i64 x.t) := fun p => p.cell hgl7 ((FW7.rules.1 g _ hgl6).trans u0)
        have e1 : ∀ p : Later W7, p.w.cell? ⟨g, i * 5 + 1, none⟩ = some (.int .i64 x.k) := fun p => p.cell hgl7 ((FW7.rules.1 g _ hgl6).trans u1)
        have e2 : ∀ p : Later W7, p.w.cell? ⟨g, i * 5 + 2, none⟩ = some (.int .i64 x.x) := fun p => p.cell hgl7 ((FW7.rules.1 g _ hgl6).trans u2)
        have e3 : ∀ p : Later W7, p.w.cell? ⟨g, i * 5 + 3, none⟩ = some (.int .i64 x.y) := fun p => p.cell hgl7 ((FW7.rules.1 g _ hgl6).trans u3)
        have e4 : ∀ p : Later W7, p.w.cell? ⟨g, i * 5 + 4, none⟩ = some (.int .i64 x.z) := fun p => p.cell hgl7 ((FW7.rules.1 g _ hgl6).trans u4)
        have HF7 := Lib.hid FW7
        clear hnb FW7 hnl hgl7 hgl6 u0 u1 u2 u3 u4
        refine wp_region_later (by kernel_rfl) (by kernel_rfl) ?_
        repeat (go_big_quiet_step (fail))
        refine wpQuiet_nil ?_
        rintro w' ⟨⟨wq, fq⟩, rfl⟩
        have HFQ := Lib.hid ((HF6.out.trans HF7.out).trans fq)
        clear fq b0 b1 b2 b3 b4 e0 e1 e2 e3 e4
        go_wp2_with fail
        go_roundw
        case rel => exact ⟨i + 1, by go_num, by omega, HFQ⟩
        case measure => simp [intOf]; omega
    · have hin : i = n7 := by omega
      subst hin
      have HRG := Lib.hid (srange_any b m (Lg.run l) t 0 1 1000000 wr (HS8.out.fr0 HR.out) (by decide) (by decide))
      go_wp2_with fail
      refine HRG.out.mono ?_
      rintro e w9 ⟨v9, R9, rfl, hr9, hp9, f9, ho9⟩
      obtain rfl : R9 = R := Rgs.all HOK.out HPR.out hp9
      obtain ⟨A9, cap9, hv9⟩ := hr9.val
      subst hv9
      have HSM := Lib.hid (sameRows_any R9 R9 A9 A8 cap9 cap8 w9 (hr9.at1 RowV.cells_len).1 ((HR8.out.keep0 (HR.out.trans f9)).at1 RowV.cells_len).1 (by have := hp9.len HSO.out; omega) (by have := hp9.len HSO.out; omega))
      rw [decide_eq_true (rfl : R9 = R9), HE8.out] at HSM
      rw [HE8.out]
      have HFZ := Lib.hid ((HF8.out.trans HR.out).trans f9)
      clear hr9 hp9 f9 ho9 HRG
      go_wp2_with fail
      refine HSM.out.mono ?_
      rintro e wz ⟨rfl, fz⟩
      go_wp2_with fail
      go_ret
      exact ⟨rfl, (HFZ.out.trans fz).below⟩
end Go.Proofs.Ytakfaffgfdbfmaa
namespace Go.Proofs.Ytakfaffgfdbfmaa
open Go.RowKit Go.WideShapes Go.ChangeShapes

set_option maxRecDepth 100000 in
theorem ranges_law : LawWalk 8 Try.f8 := by
  intro H enc W base args ds p hval0 hA0 hlt hsz
  have hval : ∀ (j : Nat) t v, Try.f8.params[j]? = some t → args[j]? = some v → Value.okWide Try.prog W .any base t v := hval0
  have hA : DataW.TrodAll enc Try.prog W 0 (fun _ => true) true Try.f8.params.toList args.toList ds p := hA0
  clear hA0 hval0 hsz
  rw [Try.params8] at hA hval
  obtain ⟨v0, vs0, d0, ds0, p0, q0, hargs, rfl, rfl, h0, r0⟩ := trodAll_cons hA
  obtain ⟨v1, vs1, d1, ds1, p1, q1, rfl, rfl, rfl, h1, r1⟩ := trodAll_cons r0
  obtain ⟨v2, vs2, d2, ds2, p2, q2, rfl, rfl, rfl, h2, r2⟩ := trodAll_cons r1
  obtain ⟨v3, vs3, d3, ds3, p3, q3, rfl, rfl, rfl, h3, r3⟩ := trodAll_cons r2
  obtain ⟨rfl, rfl, rfl⟩ := trodAll_nil r3
  obtain rfl : args = #[v0, v1, v2, v3] := by cases args; simp_all
  obtain ⟨A0, n0, cap0, rfl, hn0, hmax0, hx0⟩ := open_sixes (hval 0 _ v0 rfl rfl) h0
  obtain ⟨x1, rfl, rfl, rfl, wx1⟩ := open_int Try.underlying3 (hval 1 _ v1 rfl rfl) h1
  obtain ⟨x2, rfl, rfl, rfl, wx2⟩ := open_int Try.underlying3 (hval 2 _ v2 rfl rfl) h2
  obtain ⟨x3, rfl, rfl, rfl, wx3⟩ := open_int Try.underlying3 (hval 3 _ v3 rfl rfl) h3
  exact ranges_walk A0 n0 cap0 x1 x2 x3 W hn0 hmax0 hx0 wx1 wx2 wx3

set_option maxRecDepth 100000 in
theorem ranges_lifted (os : Os) (started : os.Started) (H : Type) (enc : TypeId × Value → H) :
    ReturnsInHanded {} Try.checked os 8 .any (Rows.storeRangesSpec.pre6 enc Try.prog Try.f8 Rows.storeRangesRow.domain false) (Rows.storeRangesSpec.post enc Try.prog Try.f8 false true false false) :=
  law_lifted (s := Rows.storeRangesSpec) (conds := Rows.storeRangesRow.domain) Try.func8 (by kernel_rfl) rfl rfl
    (by
      rw [Try.params8]
      intro t ht
      simp only [List.mem_cons, List.not_mem_nil, or_false] at ht
      rcases ht with rfl | rfl | rfl | rfl
      all_goals exact ⟨by kernel_rfl, of_decide_eq_true (by kernel_rfl)⟩)
    (fun H ds h => by
      match ds, h with
      | [d0, d1, d2, d3], _ => exact ⟨rfl, rfl, rfl⟩) ranges_law os started H enc
    (ChangeSpec.witness6 (enc := enc) (C := Try.checked) false ⟨#[], #[.slice none 0 0, .int .i64 0, .int .i64 0, .int .i64 0], []⟩ 8 (by kernel_rfl) (by kernel_rfl) (by kernel_rfl) (by kernel_rfl))

theorem ranges_holds : Rows.StoreRangesSaid :=
  OpenClaim.holds_of_wide 8 Try.f8 rfl rfl rfl rfl rfl rfl rfl ⟨rfl, rfl, rfl, rfl, rfl⟩ rfl rfl rfl rfl rfl (by kernel_rfl) Try.func8 (by kernel_rfl)
    (of_decide_eq_true (by kernel_rfl)) (by unfold Func.isWrapper; rw [if_neg (of_decide_eq_false (by kernel_rfl))]; exact ⟨rfl, rfl⟩)
    (fun os started H enc _ => ranges_lifted os started H enc)
#print axioms ranges_holds

end Go.Proofs.Ytakfaffgfdbfmaa

/-
  The reference's Log: a change is put into its place in the row of changes.
-/
import Derived.Test.YtciaallekkdnhaaGreatJk
import Derived.Test.YtciaallekkdnhaaGreatJl
import Derived.Deep.DeepCutAuto
import Derived.Test.YtciaallekkdnhaaGreatJc
import Derived.WideKeyEntry
import Derived.Test.YtciaallekkdnhaaGreatJi
import Derived.Test.YtciaallekkdnhaaGreatJh
import Derived.Test.YtciaallekkdnhaaGreatJb
import Derived.Deep.RegionLaw
import Derived.StillTailTactics
namespace Go.Proofs.YtciaallekkdnhaaGreat
open Go.RowKit

theorem cmpc_any (x : Mm.Iv) (v : Int) (W : World) : Calls Tryz.prog 114 #[x.val, .int .i64 v] W fun e w' => e = .returned (.int .i64 (cmpI x.low v)) ∧ Fr [] W w' := by
  have HCM := Lib.hid compare_any
  obtain ⟨l, h, r, i⟩ := x
  dsimp only [Mm.Iv.val]
  generalize hc : cmpI l v = c
  have HC := Lib.hid hc
  clear hc
  go_enter Tryz.func114, Tryz.ntmps114
  go_wp2_with (go_at_call 110; refine (HCM.out _ _ _).mono ?_; rintro e w' ⟨rfl, rfl⟩)
  go_ret
  rw [HC.out]
  exact ⟨rfl, (Fr.refl _ _).alloc _⟩
namespace Mm
/-- How many lows are less than v. -/
def less (v : Int) (L : List Iv) : Nat := (L.takeWhile fun x => decide (x.low < v)).length
theorem less_of (v : Int) : ∀ (L : List Iv) (k : Nat), k ≤ L.length → (∀ t (h : t < L.length), t < k → L[t].low < v) → (∀ (h : k < L.length), v ≤ L[k].low) → less v L = k
  | [], k, hk, _, _ => by simp at hk; simp [less, hk]
  | a :: r, 0, _, _, h2 => by
    have := h2 (by simp)
    simp only [List.getElem_cons_zero] at this
    unfold less
    rw [List.takeWhile_cons_of_neg (by simp; omega)]
    rfl
  | a :: r, k + 1, hk, h1, h2 => by
    have ha := h1 0 (by simp) (by omega)
    simp only [List.getElem_cons_zero] at ha
    unfold less
    rw [List.takeWhile_cons_of_pos (by simpa using ha), List.length_cons]
    have := less_of v r k (by simpa using hk) (fun t h ht => by
      have := h1 (t + 1) (by simpa using h) (by omega)
      simpa using this) (fun h => by
      have := h2 (by simpa using h)
      simpa using this)
    unfold less at this
    rw [this]
theorem ahead_less (v : Int) (L : List Iv) : ahead v L = L.take (less (v + 1) L) := by
  have e : ahead v L = L.takeWhile fun x => decide (x.low < v + 1) := by
    unfold ahead
    congr 1
    funext x
    by_cases h : x.low ≤ v
    · rw [decide_eq_true h, decide_eq_true (by omega)]
    · rw [decide_eq_false h, decide_eq_false (by omega)]
  rw [e]
  unfold less
  exact (List.prefix_iff_eq_take.1 (List.takeWhile_prefix _))
theorem less_le (v : Int) (L : List Iv) : less v L ≤ L.length := (List.takeWhile_sublist _).length_le
end Mm
set_option maxRecDepth 100000 in
set_option maxHeartbeats 4000000 in
theorem bsearch_any (A : Option Addr) (N cap : Nat) (L : List Mm.Iv) (v : Int) (w : World) (hN : N = L.length) (hlen : L.length ≤ 500) (hL : AtL Mm.Iv.cells 4 w A L) (hs : L.Pairwise fun x y => x.low ≤ y.low) :
    Calls Tryz.prog 113 #[.slice A N cap, .int .i64 v, .func (.func 114) #[] #[]] w fun e w' => ∃ f : Bool, e = .returned (.tuple #[.int .i64 (Mm.less v L), .bool f]) ∧ Fr [] w w' := by
  have HC := Lib.hid (fun (x : Mm.Iv) W => cmpc_any x v W)
  have HL := Lib.hid hL
  have HS : Hid (∀ i j (hi : i < L.length) (hj : j < L.length), i ≤ j → L[i].low ≤ L[j].low) := Lib.hid (fun i j hi hj hij => by
    rcases Nat.eq_or_lt_of_le hij with e | e
    · subst e
      exact Int.le_refl _
    · exact List.pairwise_iff_getElem.1 hs i j hi hj e)
  have HN := Lib.hid hN
  have hn500 : N ≤ 500 := by omega
  have HLE := Lib.hid (Mm.less_of v L)
  obtain ⟨K, HK⟩ : ∃ K, Hid (Mm.less v L = K) := ⟨_, Lib.hid rfl⟩
  rw [HK.out]
  rw [HK.out] at HLE
  clear hL hs hN hlen
  go_enter Tryz.func113, Tryz.ntmps113
  go_wp2_with fail
  go_loopw [9, 10] (fun s9 s10 wr => ∃ lo hi : Nat, s9 = .int .i64 lo ∧ s10 = .int .i64 hi ∧ lo ≤ hi ∧ hi ≤ N ∧ Hid (∀ t (h : t < L.length), t < lo → L[t].low < v) ∧ Hid (∀ t (h : t < L.length), hi ≤ t → v ≤ L[t].low) ∧ Hid (Fr [] w wr)) (fun s9 s10 _ => (intOf s10 - intOf s9).toNat)
  case atStart => exact ⟨0, N, rfl, rfl, Nat.zero_le _, Nat.le_refl _, Lib.hid (fun t h ht => absurd ht (by omega)), Lib.hid (fun t h ht => absurd h (by rw [← HN.out]; omega)), Lib.hid (Fr.refl _ _)⟩
  case round =>
    obtain ⟨lo, hi, rfl, rfl, hlh, hiN, H1, H2, HF⟩ := hrel
    by_cases hlt : lo < hi
    · have hml : (lo + hi) / 2 < L.length := by rw [← HN.out]; omega
      obtain ⟨b, off, hA, hbl, d0, d1, d2, d3⟩ := (HL.out.fr0 HF.out).iv hml
      subst hA
      obtain ⟨x, HX⟩ : ∃ x, Hid (L[(lo + hi) / 2] = x) := ⟨_, Lib.hid rfl⟩
      rw [HX.out] at d0 d1 d2 d3
      have hc := HC.out x wr
      obtain ⟨c, HCC⟩ : ∃ c, Hid (cmpI x.low v = c) := ⟨_, Lib.hid rfl⟩
      rw [HCC.out] at hc
      have HXL : Hid (∀ h : (lo + hi) / 2 < L.length, L[(lo + hi) / 2].low = x.low) := Lib.hid (fun h => by rw [HX.out])
      obtain ⟨xl, xh, xr, xi⟩ := x
      dsimp only [Mm.Iv.val] at d0 d1 d2 d3 hc
      have HCV := Lib.hid hc
      have HML := Lib.hid hml
      have HLV : Hid ((c < 0 → xl < v) ∧ (¬ c < 0 → v ≤ xl)) := Lib.hid (by
        have h := HCC.out
        dsimp only at h
        unfold cmpI at h
        split at h <;> (try split at h) <;> omega)
      clear hc HX HCC hml
      by_cases hneg : c < 0
      · have HNG := Lib.hid hneg
        go_wp2_with (first | (go_at_call 114; refine HCV.out.mono ?_; rintro e w3 ⟨rfl, f3⟩; have F3 := Lib.hid (HF.out.trans f3); clear f3) | (go_at_fn 114; refine HCV.out.mono ?_; rintro e w3 ⟨rfl, f3⟩; have F3 := Lib.hid (HF.out.trans f3); clear f3))
        go_roundw
        case rel => exact ⟨(lo + hi) / 2 + 1, hi, by go_num, rfl, by omega, hiN, Lib.hid (fun t h ht => by
          have a1 := HS.out t ((lo + hi) / 2) h HML.out (by omega)
          rw [HXL.out HML.out] at a1
          have := HLV.out.1 HNG.out
          omega), H2, F3⟩
        case measure => simp [intOf]; omega
      · have HNG := Lib.hid hneg
        have hneg' : decide (c < 0) = false := decide_eq_false hneg
        go_wp2_with (first | (go_at_call 114; refine HCV.out.mono ?_; rintro e w3 ⟨rfl, f3⟩; have F3 := Lib.hid (HF.out.trans f3); clear f3) | (go_at_fn 114; refine HCV.out.mono ?_; rintro e w3 ⟨rfl, f3⟩; have F3 := Lib.hid (HF.out.trans f3); clear f3))
        go_roundw
        case rel => exact ⟨lo, (lo + hi) / 2, rfl, by go_num, by omega, by omega, H1, Lib.hid (fun t h ht => by
          have a1 := HS.out ((lo + hi) / 2) t HML.out h ht
          rw [HXL.out HML.out] at a1
          have := HLV.out.2 HNG.out
          omega), F3⟩
        case measure => simp [intOf]; omega
    · obtain rfl : hi = lo := by omega
      have hK := HLE.out hi (by rw [← HN.out]; exact hiN) H1.out (fun h => H2.out hi h (Nat.le_refl _))
      subst hK
      by_cases hlt2 : K < N
      · have hml : K < L.length := by rw [← HN.out]; omega
        obtain ⟨b, off, hA, hbl, d0, d1, d2, d3⟩ := (HL.out.fr0 HF.out).iv hml
        subst hA
        have hc := HC.out L[K] wr
        obtain ⟨c, HCC⟩ : ∃ c, Hid (cmpI L[K].low v = c) := ⟨_, Lib.hid rfl⟩
        rw [HCC.out] at hc
        clear HCC
        generalize L[K] = x at *
        obtain ⟨xl, xh, xr, xi⟩ := x
        dsimp only [Mm.Iv.val] at d0 d1 d2 d3 hc
        have HCV := Lib.hid hc
        clear hc
        go_wp2_with (first | (go_at_call 114; refine HCV.out.mono ?_; rintro e w3 ⟨rfl, f3⟩; have F3 := Lib.hid (HF.out.trans f3); clear f3) | (go_at_fn 114; refine HCV.out.mono ?_; rintro e w3 ⟨rfl, f3⟩; have F3 := Lib.hid (HF.out.trans f3); clear f3))
        refine bodyPost_ret (v := .tuple #[.int .i64 (K : Nat), .bool (c == 0)]) (by simp [results, Tryz.results113, go_sem]) rfl ⟨_, rfl, F3.out⟩
      · go_wp2_with fail
        refine bodyPost_ret (v := .tuple #[.int .i64 (K : Nat), .bool false]) (by simp [results, Tryz.results113, go_sem]) rfl ⟨_, rfl, HF.out⟩
end Go.Proofs.YtciaallekkdnhaaGreat
namespace Go.Proofs.YtciaallekkdnhaaGreat
open Go.RowKit Go.Shelf
attribute [local go_sem] Oper.semAt_some

namespace Mm
def ids (v : Int) (p : List (Nat × Iv)) : List Int := ((p.map (·.2)).filter fun x => decide (v ≤ x.high)).map (·.id)
theorem ids_snoc_in {v : Int} {p : List (Nat × Iv)} {x : Nat × Iv} (h : v ≤ x.2.high) : ids v (p ++ [x]) = ids v p ++ [x.2.id] := by
  unfold ids
  simp [List.filter_append, h]
theorem ids_snoc_out {v : Int} {p : List (Nat × Iv)} {x : Nat × Iv} (h : ¬ v ≤ x.2.high) : ids v (p ++ [x]) = ids v p := by
  unfold ids
  simp [List.filter_append, h]
theorem cont_backs (L : List Iv) (v : Int) : cont L v = (((((backs (L.take (less (v + 1) L)) (less (v + 1) L)).map (·.2)).takeWhile fun x => decide (v ≤ x.reach)).filter fun x => decide (v ≤ x.high)).map (·.id)) := by
  unfold cont back
  rw [backs_map _ _ (by rw [List.length_take]; have := less_le (v + 1) L; omega), ahead_less]
  congr 4
  rw [List.take_take, Nat.min_self]
theorem tw_all {α : Type} {p : α → Bool} : ∀ {l : List α}, (∀ x ∈ l, p x = true) → l.takeWhile p = l
  | [], _ => rfl
  | a :: l, h => by rw [List.takeWhile_cons_of_pos (h a (by simp)), tw_all (fun x hx => h x (List.mem_cons_of_mem _ hx))]
theorem cont_all {L : List Iv} {v : Int} (h : ∀ y ∈ backs (L.take (less (v + 1) L)) (less (v + 1) L), v ≤ y.2.reach) : cont L v = ids v (backs (L.take (less (v + 1) L)) (less (v + 1) L)) := by
  rw [cont_backs]
  unfold ids
  congr 2
  refine tw_all (fun x hx => ?_)
  obtain ⟨y, hy, rfl⟩ := List.mem_map.1 hx
  simpa using h y hy
theorem cont_stop {L : List Iv} {v : Int} {pre : List (Nat × Iv)} {x : Nat × Iv} (hp : ∃ r, pre ++ x :: r = backs (L.take (less (v + 1) L)) (less (v + 1) L)) (h : ∀ y ∈ pre, v ≤ y.2.reach) (hx : x.2.reach < v) : cont L v = ids v pre := by
  obtain ⟨r, hr⟩ := hp
  rw [cont_backs, ← hr, List.map_append, List.map_cons, List.takeWhile_append_of_pos (fun z hz => by
    obtain ⟨y, hy, rfl⟩ := List.mem_map.1 hz
    simpa using h y hy), List.takeWhile_cons_of_neg (by simp; omega), List.append_nil]
  rfl
theorem cont_next {L : List Iv} {v : Int} {pre : List (Nat × Iv)} {x : Nat × Iv} (hp : ∃ r, pre ++ x :: r = backs (L.take (less (v + 1) L)) (less (v + 1) L)) (h : ∀ y ∈ pre, v ≤ y.2.reach) (hx : v ≤ x.2.reach) (hh : v ≤ x.2.high) : ∃ r, ids v pre ++ x.2.id :: r = cont L v := by
  obtain ⟨r, hr⟩ := hp
  rw [cont_backs, ← hr, List.map_append, List.map_cons, List.takeWhile_append_of_pos (fun z hz => by
    obtain ⟨y, hy, rfl⟩ := List.mem_map.1 hz
    simpa using h y hy), List.takeWhile_cons_of_pos (by simpa using hx), List.filter_append, List.map_append, List.filter_cons_of_pos (by simpa using hh), List.map_cons]
  exact ⟨_, rfl⟩
end Mm
theorem AtL.takeL {X : Type} {enc : X → List Value} {size : Nat} {w : World} {A : Option Addr} {L : List X} (h : AtL enc size w A L) (k : Nat) : AtL enc size w A (L.take k) := by
  intro hl
  have h0 : 0 < L.length := by rw [List.length_take] at hl; omega
  obtain ⟨b, off, e, hlt, hc⟩ := h h0
  refine ⟨b, off, e, hlt, fun i hi j hj => ?_⟩
  rw [List.getElem_take]
  exact hc i (by rw [List.length_take] at hi; omega) j hj
theorem containing_any (A : Option Addr) (N cap : Nat) (v : Int) (w : World) : Calls Tryz.prog 65 #[.slice A N cap, .int .i64 v] w fun e w' => e = .returned (.func (.func 112) #[] #[.pointer (some ⟨w.heap.size, 0, none⟩), .pointer (some ⟨w.heap.size + 1, 0, none⟩)]) ∧
    w' = (w.alloc (.cells #[.slice A N cap] 145)).alloc (.cells #[.int .i64 v] 3) := by
  go_enter Tryz.func65, Tryz.ntmps65
  go_wp2
  go_ret
  exact ⟨by simp, rfl⟩
theorem backward_any (A : Option Addr) (N cap : Nat) (w : World) : Calls Tryz.prog 115 #[.slice A N cap] w fun e w' => e = .returned (.func (.func 135) #[] #[.pointer (some ⟨w.heap.size, 0, none⟩)]) ∧ w' = w.alloc (.cells #[.slice A N cap] 145) := by
  go_enter Tryz.func115, Tryz.ntmps115
  go_wp2
  go_ret
  exact ⟨rfl, rfl⟩
set_option maxRecDepth 100000 in
set_option maxHeartbeats 4000000 in
theorem cont_seq (n : Nat) (hn : 5 ≤ n) (Bl Bv : Nat) (A : Option Addr) (N cap : Nat) (L : List Mm.Iv) (v : Int) (S : List Nat) (w : World) (hN : N = L.length) (hcap : N ≤ cap) (_hcm : cap ≤ maxLen) (hlen : L.length ≤ 500) (hv : okI v) (hlo : ∀ x ∈ L, -1000000000 ≤ x.low ∧ x.reach ≤ 1000000000)
    (hb : w.cell? ⟨Bl, 0, none⟩ = some (.slice A N cap)) (hc : w.cell? ⟨Bv, 0, none⟩ = some (.int .i64 v)) (hL : AtL Mm.Iv.cells 4 w A L) (hs : Mm.Sor L) (_hBl : Bl ∉ S) (hBv : Bv ∉ S) (hA : ∀ ad, A = some ad → ad.block ∉ S) (hSw : ∀ x ∈ S, x < w.heap.size) :
    SeqF Fence.wide n Tryz.prog 112 #[.pointer (some ⟨Bl, 0, none⟩), .pointer (some ⟨Bv, 0, none⟩)] (fun x : Int => #[.int .i64 x]) S (Mm.cont L v) w := by
  intro l J W hW hJ hsz hY h0
  have hBll := World.block_lt_of_cell? w _ hb
  have hBvl := World.block_lt_of_cell? w _ hc
  have cb := (hW.rules.1 Bl 0 hBll).trans hb
  have cv := (hW.rules.1 Bv 0 hBvl).trans hc
  have HY := Lib.hid hY
  have HS := Lib.hid hs
  have HL := Lib.hid (hL.fr0 hW)
  have HJ := Lib.hid hJ
  have H0 := Lib.hid h0
  have HA := Lib.hid hA
  have HSZ := Lib.hid hsz
  have hlB : Bl < W.heap.size := Nat.lt_of_lt_of_le hBll hW.size
  have hlV : Bv < W.heap.size := Nat.lt_of_lt_of_le hBvl hW.size
  have HSW : Hid (∀ x ∈ S, x < W.heap.size) := Lib.hid (fun x hx => Nat.lt_of_lt_of_le (hSw x hx) hW.size)
  clear hY hs hL hJ h0 hA hsz hb hc hBll hBvl hSw
  refine callsIn_of_wp_marks Tryz.func112 rfl trivial ?_ rfl
  simp only [Tryz.ntmps112, List.size_toArray, List.length_cons, List.length_nil, Nat.reduceAdd, Nat.reduceSub, Array.replicate_succ, Array.replicate_zero, List.push_toArray, List.append_toArray, List.nil_append, List.cons_append]
  obtain ⟨u, hw2⟩ : ∃ u, wrap64 (v + 1) = u := ⟨_, rfl⟩
  have hw1 : IntKind.i64.wrap (v + 1) = u := by rw [← hw2]; exact IntWalk.i64_left _
  obtain ⟨K, HK⟩ : ∃ K, Hid (Mm.less u L = K) := ⟨_, Lib.hid rfl⟩
  have hKN : K ≤ N := by have := Mm.less_le u L; have := HK.out; omega
  have hcs : ((∀ y ∈ Mm.backs (L.take K) K, v ≤ y.2.reach) → Mm.cont L v = Mm.ids v (Mm.backs (L.take K) K)) ∧
      (∀ pre x, (∃ r, pre ++ x :: r = Mm.backs (L.take K) K) → (∀ y ∈ pre, v ≤ y.2.reach) → x.2.reach < v → Mm.cont L v = Mm.ids v pre) ∧
      (∀ pre x, (∃ r, pre ++ x :: r = Mm.backs (L.take K) K) → (∀ y ∈ pre, v ≤ y.2.reach) → v ≤ x.2.reach → v ≤ x.2.high → ∃ r, Mm.ids v pre ++ x.2.id :: r = Mm.cont L v) := by
    obtain ⟨v1, v2⟩ := okI_bounds hv
    by_cases hvm : v < 9223372036854775807
    · have hu : u = v + 1 := by rw [← hw2]; exact IntWalk.wrap64_in _ (by omega)
      have hk := HK.out
      rw [hu] at hk
      subst hk
      exact ⟨Mm.cont_all, fun pre x hp h hx => Mm.cont_stop hp h hx, fun pre x hp h hx hh => Mm.cont_next hp h hx hh⟩
    · have hve : v = 9223372036854775807 := by omega
      have hu : u = -9223372036854775808 := by rw [← hw2, hve]; unfold wrap64; omega
      have hk0 : K = 0 := by
        rw [← HK.out, hu]
        unfold Mm.less
        cases L with
        | nil => rfl
        | cons a r =>
          have := (hlo a (by simp)).1
          rw [List.takeWhile_cons_of_neg (by simp; omega)]
          rfl
      subst hk0
      have hnil : Mm.cont L v = [] := by
        unfold Mm.cont Mm.back
        have hb : ((Mm.ahead v L).reverse.takeWhile fun x => decide (v ≤ x.reach)) = [] := by
          cases hr : (Mm.ahead v L).reverse with
          | nil => rfl
          | cons a r =>
            have hm : a ∈ L := (List.takeWhile_sublist _).subset (List.mem_reverse.1 (by show a ∈ (Mm.ahead v L).reverse; rw [hr]; simp))
            have := (hlo a hm).2
            rw [List.takeWhile_cons_of_neg (by simp; omega)]
        rw [hb]
        rfl
      rw [hnil]
      exact ⟨fun _ => rfl, fun pre x ⟨r, hr⟩ => by simp [Mm.backs] at hr, fun pre x ⟨r, hr⟩ => by simp [Mm.backs] at hr⟩
  have HCS := Lib.hid hcs
  clear hcs hlo
  have f0 : Fr [] W (W.alloc (.cells #[.func (.yield l) #[] #[]] 39)) := (Fr.refl _ _).alloc _
  have by0 := Blk.new W 39 #[.func (.yield l) #[] #[]]
  have hbs := bsearch_any A N cap L u (W.alloc (.cells #[.func (.yield l) #[] #[]] 39)) hN hlen (HL.out.fr0 f0) HS.out.low
  rw [HK.out] at hbs
  have HBS := Lib.hid hbs
  have HN := Lib.hid hN
  have hn500 : N ≤ 500 := by omega
  have hn1 : 1 ≤ n := by omega
  have HF0 := Lib.hid f0
  have HB0 := Lib.hid by0
  clear hbs f0 by0 hN hlen
  have cb1 : (W.alloc (.cells #[.func (.yield l) #[] #[]] 39)).cell? ⟨Bl, 0, none⟩ = some (.slice A N cap) := (HF0.out.rules.1 Bl 0 hlB).trans cb
  have cv1 : (W.alloc (.cells #[.func (.yield l) #[] #[]] 39)).cell? ⟨Bv, 0, none⟩ = some (.int .i64 v) := (HF0.out.rules.1 Bv 0 hlV).trans cv
  gi_wp2
  refine ⟨trivial, ?_⟩
  refine (callsIn_wide.2 HBS.out).mono ?_
  rintro e w1 ⟨f, rfl, f1⟩
  have hby1 := HB0.out.fr f1 (by simp)
  have hf1 := HF0.out.trans f1
  have cb2 := (hf1.rules.1 Bl 0 hlB).trans cb
  have cv2 := (hf1.rules.1 Bv 0 hlV).trans cv
  have HBY1 := Lib.hid hby1
  have HF1 := Lib.hid hf1
  clear f1 hby1 hf1 cb1 cv1 HB0 HF0 HBS
  have hKc : K ≤ cap := by omega
  gi_wp2
  refine ⟨trivial, ?_⟩
  refine (callsIn_wide.2 (backward_any A K cap w1)).mono ?_
  rintro e w2 ⟨rfl, rfl⟩
  have F2 : Fr [] w1 (w1.alloc (.cells #[.slice A K cap] 145)) := (Fr.refl _ _).alloc _
  have hbx := Blk.new w1 145 #[.slice A K cap]
  have HZ : Hid (Fr [] W (w1.alloc (.cells #[.slice A K cap] 145))) := Lib.hid (HF1.out.trans F2)
  have HBY : Hid (Blk (w1.alloc (.cells #[.slice A K cap] 145)) W.heap.size 39 #[.func (.yield l) #[] #[]]) := Lib.hid (HBY1.out.fr F2 (by simp))
  have HBX := Lib.hid hbx
  have HSX : Hid (w1.heap.size ∉ S) := Lib.hid (fun hm => by have := HSW.out _ hm; have := HF1.out.size; omega)
  clear F2 hbx cb2 cv2 HBY1 HF1
  gi_wp2
  have hzs : (w1.alloc (.cells #[.slice A K cap] 145)).heap.size = w1.heap.size + 1 := by simp
  generalize w1.alloc (.cells #[.slice A K cap] 145) = Z at *
  have hkl : (L.take K).length = K := by rw [List.length_take]; have := HN.out; omega
  have hWZ := HZ.out.size
  have HZS := Lib.hid hzs
  clear hzs
  refine wpIn_rangeX rfl hn1 (gf := 135) (lb := #[.pointer (some ⟨w1.heap.size, 0, none⟩)]) rfl trivial (enters_of Tryz.func135 (by kernel_rfl) rfl)
    (back_seq Fence.wide (n - 1) (by omega) trivial rfl w1.heap.size A cap K (L.take K) S Z hkl.symm (by omega) (HBX.out.cell 0) ((HL.out.fr0 HZ.out).takeL K) HSX.out HA.out) (Fr.refl [] _) (fun _ => rfl) (fun s hs => by have := HSW.out s hs; omega)
    (fun pre Wk => (∀ y ∈ pre, v ≤ y.2.reach) ∧ J (Mm.ids v pre) Wk ∧ FrO Z.heap.size S Z Wk)
    (fun p Wk => ∃ p' x, p = p' ++ [x] ∧ (∀ y ∈ p', v ≤ y.2.reach) ∧ x.2.reach < v ∧ J (Mm.ids v p') Wk)
    (fun s A C ⟨k1, k2, k3⟩ hb => ⟨k1, HJ.out _ _ _ k2 (hb.mono hWZ), k3.trans (below_frO hb)⟩)
    (fun s A C ⟨p', x, k1, k2, k3, k4⟩ hb => ⟨p', x, k1, k2, k3, HJ.out _ _ _ k4 (hb.mono hWZ)⟩)
    ⟨by simp, HJ.out _ _ _ H0.out (HZ.out.toBelow (Nat.le_refl _) (by simp)), FrO.refl _ _ _⟩ ?round ?done ?stop
  case round =>
    rintro l2 pre ⟨ix, xl, xh, xr, xi⟩ Wk hx hl1 hl2 ⟨i1, i2, i3⟩
    simp only [encB, Mm.Iv.val]
    gi_wp2
    refine ⟨(Fr.refl _ _).alloc _, ?_⟩
    rintro W2 f2 - ⟨j1, j2, j3⟩
    have hbx2 := (Blk.new Wk 144 #[.int .i64 xl, .int .i64 xh, .int .i64 xr, .int .i64 xi]).fr f2 (by simp; omega)
    have e1 : W2.cell? ⟨Wk.heap.size, 1, none⟩ = some (.int .i64 xh) := hbx2.cell 1
    have e2 : W2.cell? ⟨Wk.heap.size, 2, none⟩ = some (.int .i64 xr) := hbx2.cell 2
    have e3 : W2.cell? ⟨Wk.heap.size, 3, none⟩ = some (.int .i64 xi) := hbx2.cell 3
    have cv2 : W2.cell? ⟨Bv, 0, none⟩ = some (.int .i64 v) := (j3.cell (by show Bv < _; omega) hBv).trans ((HZ.out.rules.1 Bv 0 hlV).trans cv)
    have cy2 : W2.cell? ⟨W.heap.size, 0, none⟩ = some (.func (.yield l) #[] #[]) := (j3.blk HBY.out HBY.out.lt (fun hm => by have := HSW.out _ hm; omega)).cell 0
    have hsz2 : Wk.heap.size ≤ W2.heap.size := by have := f2.size; simp at this; omega
    have HX := Lib.hid hx
    have HJ1 := Lib.hid j1
    have HJ2 := Lib.hid j2
    have HJ3 := Lib.hid j3
    clear hx j1 j2 j3 f2 hbx2 i1 i2 i3 cb cv
    by_cases h1 : xr < v
    · have H1 := Lib.hid h1
      gi_wp2
      exact ⟨FrO.refl _ _ _, pre, _, rfl, HJ1.out, H1.out, HJ2.out⟩
    · have H1 := Lib.hid h1
      have h1' : decide (xr < v) = false := decide_eq_false h1
      by_cases h2 : v ≤ xh
      · have H2 := Lib.hid h2
        have hnext := HCS.out.2.2 pre (ix, ⟨xl, xh, xr, xi⟩) (by have h := HX.out; rw [hkl] at h; exact h) HJ1.out (by dsimp only; omega) h2
        obtain ⟨fn, tmps, assign, body, hy, hR⟩ := YieldAt.deep (F := Fence.wide) rfl (n - 1 - 1 - 1) (HY.out (Mm.ids v pre) xi W2 hnext HJ2.out)
        clear hnext
        have hn3 : 1 ≤ n - 1 - 1 := by omega
        gi_wp2
        refine hR.mono ?_
        rintro e W3 ⟨rfl, hJ3', hk3⟩
        have HK3 := Lib.hid hk3
        have HJ4 := Lib.hid hJ3'
        clear hJ3' hk3 e1 e2 e3 cv2 cy2 hy hR
        gi_wp2
        exact ⟨HK3.out.frO hsz2 (fun x hx => .inl hx), fun y hy => by
          rcases List.mem_append.1 hy with hy | hy
          · exact HJ1.out y hy
          · obtain rfl := List.mem_singleton.1 hy
            have := H1.out
            dsimp only
            omega, by rw [Mm.ids_snoc_in (by dsimp only; exact H2.out)]; exact HJ4.out, HJ3.out.trans (HK3.out.frO HJ3.out.size (fun x hx => .inl hx))⟩
      · have H2 := Lib.hid h2
        have h2' : decide (v ≤ xh) = false := decide_eq_false h2
        gi_wp2
        refine ⟨fun _ h => (by cases h), ?_⟩
        gi_wp2
        exact ⟨FrO.refl _ _ _, fun y hy => by
          rcases List.mem_append.1 hy with hy | hy
          · exact HJ1.out y hy
          · obtain rfl := List.mem_singleton.1 hy
            have := H1.out
            dsimp only
            omega, by rw [Mm.ids_snoc_out (by have := H2.out; dsimp only; omega)]; exact HJ2.out, HJ3.out⟩
  case done =>
    rintro D Wd hD ⟨i1, i2, i3⟩ hK
    have hc := HCS.out.1 (by have h := i1; rw [hkl] at h; exact h)
    rw [hkl, ← hc] at i2
    have hj := HJ.out _ _ _ i2 ((putObj_own (w := Wd) (l := D) (.deferred none)).toBelow (by have := i3.size; omega) (by simp; omega))
    have HJD := Lib.hid hj
    clear hj i1 i2 i3 hc
    gi_wp2
    refine ⟨by simp, .inl ⟨_, _, rfl, run_takeDeferred hK, ?_⟩⟩
    exact ⟨_, results_none rfl _ _ _, ⟨_, rfl⟩, HJD.out⟩
  case stop =>
    rintro D pre x Wd hD hx ⟨p', x', e, k2, k3, k4⟩ hK
    obtain ⟨rfl, e2⟩ := List.append_inj' e rfl
    obtain rfl : x = x' := by simpa using e2
    have hc := HCS.out.2.1 pre x (by have h := hx; rw [hkl] at h; exact h) k2 k3
    rw [← hc] at k4
    have hj := HJ.out _ _ _ k4 ((putObj_own (w := Wd) (l := D) (.deferred none)).toBelow (HSZ.out _ _ k4) (by simp; omega))
    simp only [Exit.inBlock]
    refine ⟨by simp, .inl ⟨_, _, rfl, run_takeDeferred hK, ?_⟩⟩
    exact ⟨_, results_none rfl _ _ _, ⟨_, rfl⟩, hj⟩
end Go.Proofs.YtciaallekkdnhaaGreat
namespace Go.Proofs.YtciaallekkdnhaaGreat
open Go.RowKit Go.WideElems Go.MapKept Go.WideShapes Go.ChangeShapes Go.ChangeMaps

section
variable {K V : Type} {P : Program} {t k e : TypeId} {ek : K → Value} {kl : K → Lit} {ev : V → Value} {ok : K → Prop} {z : Value} {w w' : World} {b : Nat} {M : List (K × V)}
/-- What an entry that was found or made promises of a store in a later world where the map's block still lies. -/
def Later3 (P : Program) (t k : TypeId) (kl : K → Lit) (ev : V → Value) (b : Nat) (N : V → List (K × V)) (st : Value) (w1 : World) : Prop :=
  ∀ (w2 : World) (u : V), w2.heap[b]? = w1.heap[b]? → ∃ w3, (Instr.entryStore t (.map (some b)) st (ev u)).run P w2 = .ok () w3 ∧ VMap P k kl ev w3 b (N u) ∧ w2.mapTurned w3 b
variable [DecidableEq K]
theorem VMap.entry (T : MT P t k e ek kl ev ok z) (h : VMap P k kl ev w b M) (x : K) (hx : ok x) (hn : M.length < maxLen) :
    ∃ st w1, (Instr.mapEntry t (.map (some b)) (ek x)).run P w = .ok (.tuple #[((mget M x).map ev).getD z, .int .i64 st]) w1 ∧ w.mapTurned w1 b ∧ Later3 P t k kl ev b (fun u => mput M x u) (.int .i64 st) w1 := by
  have h0 := h
  have hlook := h.look T x hx false
  have hnd := h.nd T
  obtain ⟨es, clock, hb, F, hp⟩ := h
  obtain ⟨s1, s2, _⟩ := F.stamped
  have hkey := T.key x hx
  have hv : ∀ v0, ((∃ e0 ∈ es.toList, e0.key = ek x ∧ v0 = e0.val) ∨ ((∀ x1 ∈ es.toList, x1.key ≠ ek x) ∧ v0 = z)) → v0 = ((mget M x).map ev).getD z := by
    rintro v0 (⟨e0, hm, hk, rfl⟩ | ⟨hno, rfl⟩)
    · obtain ⟨l, hl, e3⟩ := rgv F hm
      rw [hk, hkey] at hl
      cases hl
      have hq' : (kl x, DataW.held e0.val) ∈ M.map (ent kl ev) := hp.mem_iff.1 (List.mem_map.2 ⟨e0, hm, e3⟩)
      obtain ⟨q, hq, e4⟩ := List.mem_map.1 hq'
      have e5 : q.1 = x := T.inj _ _ (congrArg Prod.fst e4)
      have e6 : ev q.2 = e0.val := by have := congrArg Prod.snd e4; simpa [ent] using this
      have hg : mget M x = some q.2 := (mget_iff hnd).2 (by rw [← e5]; exact hq)
      rw [hg]
      simp [e6]
    · have hg : mget M x = none := by
        rw [mget_none]
        intro q hq e1
        have hq' : ent kl ev q ∈ es.toList.map (rg P k Rv) := hp.mem_iff.2 (List.mem_map.2 ⟨q, hq, rfl⟩)
        obtain ⟨x1, hx1, e2⟩ := List.mem_map.1 hq'
        obtain ⟨l, hl, e3⟩ := rgv F hx1
        rw [e3] at e2
        have e4 : l = kl x := by have := congrArg Prod.fst e2; simpa [ent, e1] using this
        rw [e4] at hl
        exact hno x1 hx1 (T.keyed.inj hl hkey)
      rw [hg]
      rfl
  have hstore : ∀ (u : V) (es' : Array MapEntry) (clock' : Nat), (Instr.mapUpdate t (.map (some b)) (ek x) (ev u)).run P w = .ok () (setBlock w b (.map es' clock')) → ∀ w2 : World, b < w2.heap.size → VMap P k kl ev (setBlock w2 b (.map es' clock')) b (mput M x u) := by
    intro u es' clock' hr w2 hlt
    obtain ⟨w', hrun, hm, _⟩ := h0.store T x hx u hn
    rw [hr] at hrun
    cases hrun
    exact hm.of_block (by rw [heap_setBlock_same hb]; simp [setBlock, hlt])
  rcases T.keyed.find w hkey es.toList F.keys with ⟨h1, h2⟩ | ⟨j, e0, h1, h2, h3⟩
  · refine ⟨clock, setBlock w b (.map (es.push ⟨ek x, z, clock⟩) (clock + 1)), ?_, ⟨es, clock, _, _, hb, rfl⟩, fun w2 u hw2 => ?_⟩
    · rw [← hv z (.inr ⟨h2, rfl⟩)]
      simp [Instr.mapEntry, run_underlying T.ht, MapKept.run_getObj_map hb, T.keyed.check w false hkey, h1, T.zero, MapKept.run_setObj_map _ hb, Result.andThen, setBlock, goInt]
    · rw [heap_setBlock_same hb] at hw2
      have hidx : (es.push ⟨ek x, z, clock⟩).findIdx? (fun e => ((e.born : Nat) : Int) == ((clock : Nat) : Int)) = some es.size := by
        rw [findIdx_arr]
        have := findIdx_born (l := (es.push ⟨ek x, z, clock⟩).toList) (j := es.size) (e0 := ⟨ek x, z, clock⟩) (by
          simp only [Array.toList_push, List.map_append, List.map_cons, List.map_nil]
          refine List.nodup_append.2 ⟨s2, by simp, fun a ha c hc e1 => ?_⟩
          simp only [List.mem_singleton] at hc
          obtain ⟨x1, hx1, rfl⟩ := List.mem_map.1 ha
          have := s1 x1 hx1
          omega) (by simp)
        exact this
      have hmod : (es.push ⟨ek x, z, clock⟩).modify es.size (fun e => { e with val := ev u }) = es.push ⟨ek x, ev u, clock⟩ := by
        apply Array.ext'
        rw [Array.toList_modify, Array.toList_push, Array.toList_push, ← Array.length_toList, modify_last]
      refine ⟨setBlock w2 b (.map (es.push ⟨ek x, ev u, clock⟩) (clock + 1)), ?_, hstore u _ _ ?_ w2 (Array.getElem?_eq_some_iff.1 hw2).1, ⟨_, _, _, _, hw2, rfl⟩⟩
      · simp [Instr.entryStore, MapKept.run_getObj_map hw2, asInt, asIntOf, hidx, hmod, MapKept.run_setObj_map _ hw2, Result.andThen, setBlock]
      · simp [Instr.mapUpdate, run_underlying T.ht, MapKept.run_getObj_map hb, T.keyed.check w false hkey, h1, MapKept.run_setObj_map _ hb, Result.andThen, setBlock]
  · have hj : es[j]? = some e0 := by simpa using h2
    have hsame : es.modify j (fun e => { e with key := ek x }) = es := by
      apply Array.ext'
      rw [Array.toList_modify, modify_eq_set _ _ _ _ h2]
      have : ({ e0 with key := ek x } : MapEntry) = e0 := by rw [← h3]
      rw [this]
      exact set_self _ _ _ h2
    refine ⟨e0.born, setBlock w b (.map es clock), ?_, ⟨es, clock, _, _, hb, rfl⟩, fun w2 u hw2 => ?_⟩
    · rw [← hv e0.val (.inl ⟨e0, List.mem_of_getElem? h2, h3, rfl⟩)]
      simp [Instr.mapEntry, run_underlying T.ht, MapKept.run_getObj_map hb, T.keyed.check w false hkey, h1, hj, h3, T.keyed.stays w hkey, hsame, MapKept.run_setObj_map _ hb, Result.andThen, setBlock, goInt]
    · rw [heap_setBlock_same hb] at hw2
      have hidx : es.findIdx? (fun e => ((e.born : Nat) : Int) == ((e0.born : Nat) : Int)) = some j := by
        rw [findIdx_arr]
        exact findIdx_born s2 h2
      have hmod : es.modify j (fun e => { e with val := ev u }) = es.modify j (fun e' => { e' with key := ek x, val := ev u }) := by
        apply Array.ext'
        rw [Array.toList_modify, Array.toList_modify, modify_eq_set _ _ _ _ h2, modify_eq_set _ _ _ _ h2, ← h3]
      refine ⟨setBlock w2 b (.map (es.modify j (fun e' => { e' with key := ek x, val := ev u })) clock), ?_, hstore u _ _ ?_ w2 (Array.getElem?_eq_some_iff.1 hw2).1, ⟨_, _, _, _, hw2, rfl⟩⟩
      · simp [Instr.entryStore, MapKept.run_getObj_map hw2, asInt, asIntOf, hidx, hmod, MapKept.run_setObj_map _ hw2, Result.andThen, setBlock]
      · simp [Instr.mapUpdate, run_underlying T.ht, MapKept.run_getObj_map hb, T.keyed.check w false hkey, h1, hj, h3, T.keyed.stays w hkey, MapKept.run_setObj_map _ hb, Result.andThen, setBlock]
variable {o : Oper} {ops : Array Oper} {rest : List Oper} {a : Act} {Q : Exit → Act → World → Prop} {C : Act → World → Prop} {E : Prop}
theorem wp_ventry (w : World) (m x : Operand) (hop : o.op = Op.mapEntry t m x) (T : MT P t k e ek kl ev ok z) (b : Nat) (M : List (K × V)) (hm : a.eval m = .map (some b)) (h : VMap P k kl ev w b M) (x0 : K) (hx : a.eval x = ek x0) (hok : ok x0) (hn : M.length < maxLen)
    (hK : ∀ st w1, w.mapTurned w1 b → Later3 P t k kl ev b (fun u => mput M x0 u) (.int .i64 st) w1 → C (a.put o.dst (.tuple #[((mget M x0).map ev).getD z, .int .i64 st])) w1) : Oper.wp P o a w C Q := by
  obtain ⟨st, w1, hrun, h1, h2⟩ := h.entry T x0 hok hn
  unfold Oper.wp
  simp [execOp, hop, hm, hx, hrun, Result.andThen]
  exact hK st w1 h1 h2
theorem wpList_ventry (w : World) (hg : o.guard = none) (m x : Operand) (hop : o.op = Op.mapEntry t m x) (T : MT P t k e ek kl ev ok z) (b : Nat) (M : List (K × V)) (hm : a.eval m = .map (some b)) (h : VMap P k kl ev w b M) (x0 : K) (hx : a.eval x = ek x0) (hok : ok x0) (hn : M.length < maxLen)
    (hK : ∀ st w1, w.mapTurned w1 b → Later3 P t k kl ev b (fun u => mput M x0 u) (.int .i64 st) w1 → wpList P ops Q rest (a.put o.dst (.tuple #[((mget M x0).map ev).getD z, .int .i64 st])) w1) : wpList P ops Q (o :: rest) a w :=
  wpList_plain hg fun _ hC => wp_ventry w m x hop T b M hm h x0 hx hok hn (fun st w1 h1 h2 => hC _ _ (hK st w1 h1 h2))
theorem step_ventry (w : World) (hg : o.guard = none) (m x : Operand) (hop : o.op = Op.mapEntry t m x) (T : MT P t k e ek kl ev ok z) (b : Nat) (M : List (K × V)) (hm : a.eval m = .map (some b)) (h : VMap P k kl ev w b M) (x0 : K) (hx : a.eval x = ek x0) (hok : ok x0) (hn : M.length < maxLen)
    (hK : ∀ st w1, w.mapTurned w1 b → Later3 P t k kl ev b (fun u => mput M x0 u) (.int .i64 st) w1 → C (a.put o.dst (.tuple #[((mget M x0).map ev).getD z, .int .i64 st])) w1) : if Region.wanted o (yielded ops a.tmps) = true then Oper.wp P o a w C Q else E :=
  step_of_wp hg (wp_ventry w m x hop T b M hm h x0 hx hok hn hK)
omit [DecidableEq K] in
theorem wp_vsave {N : V → List (K × V)} (w1 w2 : World) (m st x : Operand) (hop : o.op = Op.entryStore t m st x) (b : Nat) (hm : a.eval m = .map (some b)) (sv : Value) (hs : a.eval st = sv) (h : Later3 P t k kl ev b N sv w1) (hw : w2.heap[b]? = w1.heap[b]?) (u : V) (hx : a.eval x = ev u)
    (hK : ∀ w3, VMap P k kl ev w3 b (N u) → w2.mapTurned w3 b → C (a.put o.dst undef) w3) : Oper.wp P o a w2 C Q := by
  obtain ⟨w3, hrun, h1, h2⟩ := h w2 u hw
  unfold Oper.wp
  simp [execOp, hop, hm, hx, hs, hrun, Result.andThen]
  exact hK w3 h1 h2
omit [DecidableEq K] in
theorem wpList_vsave {N : V → List (K × V)} (w1 w2 : World) (hg : o.guard = none) (m st x : Operand) (hop : o.op = Op.entryStore t m st x) (b : Nat) (hm : a.eval m = .map (some b)) (sv : Value) (hs : a.eval st = sv) (h : Later3 P t k kl ev b N sv w1) (hw : w2.heap[b]? = w1.heap[b]?) (u : V) (hx : a.eval x = ev u)
    (hK : ∀ w3, VMap P k kl ev w3 b (N u) → w2.mapTurned w3 b → wpList P ops Q rest (a.put o.dst undef) w3) : wpList P ops Q (o :: rest) a w2 :=
  wpList_plain hg fun _ hC => wp_vsave w1 w2 m st x hop b hm sv hs h hw u hx (fun w3 h1 h2 => hC _ _ (hK w3 h1 h2))
omit [DecidableEq K] in
theorem step_vsave {N : V → List (K × V)} (w1 w2 : World) (hg : o.guard = none) (m st x : Operand) (hop : o.op = Op.entryStore t m st x) (b : Nat) (hm : a.eval m = .map (some b)) (sv : Value) (hs : a.eval st = sv) (h : Later3 P t k kl ev b N sv w1) (hw : w2.heap[b]? = w1.heap[b]?) (u : V) (hx : a.eval x = ev u)
    (hK : ∀ w3, VMap P k kl ev w3 b (N u) → w2.mapTurned w3 b → C (a.put o.dst undef) w3) : if Region.wanted o (yielded ops a.tmps) = true then Oper.wp P o a w2 C Q else E :=
  step_of_wp hg (wp_vsave w1 w2 m st x hop b hm sv hs h hw u hx hK)
end
end Go.Proofs.YtciaallekkdnhaaGreat
namespace Go.Proofs.YtciaallekkdnhaaGreat
open Go.RowKit

theorem infoChg : (Tryz.prog.info? 59).map (fun i => (i.zero, i.size, i.bytes)) = some (some (.agg #[.int .i64 0, .int .i64 0, .bool false, .int .i64 0, .int .i64 0, .int .i64 0, .bool false, .int .i64 0, .int .i64 0, .int .i64 0]), 10, 80) := by kernel_rfl
theorem etChg : ∃ i0, ET Tryz.prog 24 59 10 80 i0 (.agg #[.int .i64 0, .int .i64 0, .bool false, .int .i64 0, .int .i64 0, .int .i64 0, .bool false, .int .i64 0, .int .i64 0, .int .i64 0]) := by
  obtain ⟨i0, hi, hz0, hz1, hz2⟩ := info_parts infoChg
  exact ⟨i0, Tryz.underlying24, hi, hz0, hz1, hz2, rfl, by decide⟩
theorem infoRec : (Tryz.prog.info? 26).map (fun i => (i.zero, i.size, i.bytes)) = some (some (.agg #[.int .i64 0, .slice none 0 0]), 2, 32) := by kernel_rfl
theorem etRec : ∃ i0, ET Tryz.prog 46 26 2 32 i0 (.agg #[.int .i64 0, .slice none 0 0]) := by
  obtain ⟨i0, hi, hz0, hz1, hz2⟩ := info_parts infoRec
  exact ⟨i0, Tryz.underlying46, hi, hz0, hz1, hz2, rfl, by decide⟩

theorem got_shape (o : Option RowV) : ∃ (a b x y z : Int) (had : Bool), gotVal o = .tuple #[.agg #[.int .i64 a, .int .i64 b, .int .i64 x, .int .i64 y, .int .i64 z], .bool had] := by
  cases o with
  | none => exact ⟨0, 0, 0, 0, 0, false, rfl⟩
  | some r => exact ⟨r.t, r.k, r.x, r.y, r.z, true, rfl⟩

theorem OwnL.holdsC {w : World} {A : Option Addr} {n cap : Nat} {cs : List Chg} (h : OwnL 59 10 Chg.cells w (.slice A n cap) cs) : HoldsC w A cs := by
  refine ⟨(h.at1 Chg.len).1, fun hl ad e => ?_⟩
  rcases h.2 with ⟨hv, _⟩ | ⟨g', cap', cur, hv, _, hh, _⟩
  · cases hv
    cases e
  · cases hv
    cases e
    exact ⟨_, _, hh⟩

theorem OwnL.ne2 {X Y : Type} {e size e' size' : Nat} {enc : X → List Value} {enc' : Y → List Value} {w : World} {v v' : Value} {L : List X} {L' : List Y} (h : OwnL e size enc w v L) (h' : OwnL e' size' enc' w v' L') (hne : e ≠ e') {g : Nat} (hg : v.ownBlock = some g) : v'.ownBlock ≠ some g := by
  intro hg'
  rcases h'.2 with ⟨rfl, _⟩ | ⟨g', cap, cur, rfl, _, hh, _⟩
  · simp [Value.ownBlock] at hg'
  · simp [Value.ownBlock] at hg'
    subst hg'
    exact h.ne (b := g') hh hne hg rfl

theorem OwnL.noC {X : Type} {e size : Nat} {enc : X → List Value} {w : World} {v : Value} {L : List X} (h : OwnL e size enc w v L) (hne : e ≠ 59) : NoC w v.ownBlock.toList := by
  intro s hs arr fz hh'
  rcases h.2 with ⟨rfl, _⟩ | ⟨g', cap, cur, rfl, _, hh, _⟩
  · simp [Value.ownBlock] at hs
  · simp [Value.ownBlock] at hs
    subst hs
    exact noC_blk (show Blk w _ e cur from hh) hne arr fz hh'
end Go.Proofs.YtciaallekkdnhaaGreat
namespace Go.Proofs.YtciaallekkdnhaaGreat
open Go.RowKit

/-- Between two rounds of the loop over the three pairs. -/
structure LgIn (w W : World) (v : Value) (k : Nat) : Prop where
  all : ∃ cs : List Chg, OwnL 59 10 Chg.cells W v cs ∧ (∀ c ∈ cs, LgC c) ∧ cs.length ≤ k
  fr : Fr [] w W
  own : ∀ g, v.ownBlock = some g → w.heap.size ≤ g

theorem LgIn.up {w W : World} {v : Value} {k : Nat} (h : LgIn w W v k) : LgIn w W v (k + 1) :=
  ⟨by obtain ⟨cs, h1, h2, h3⟩ := h.all; exact ⟨cs, h1, h2, by omega⟩, h.fr, h.own⟩

/-- The region of a number. -/
def regionOf (n : Nat) : Code → Option Code
  | .region i ops d => if i = n then some (.region i ops d) else none
  | .seq a b => match regionOf n a with
    | some c => some c
    | none => regionOf n b
  | .cond _ a b => match regionOf n a with
    | some c => some c
    | none => regionOf n b
  | .block _ c => regionOf n c
  | .loop c => regionOf n c
  | .scope c => regionOf n c
  | _ => none
/-- The region comes to its end, and nothing else. -/
@[reducible] def normalOnly (K : Act → World → Prop) : Exit → Act → World → Prop := fun e a w => match e with
  | .normal => K a w
  | _ => False
noncomputable def lgRegion : Code := ((Tryz.f38.body.bind (regionOf 32)).getD .skip)

set_option maxRecDepth 1000000 in
set_option maxHeartbeats 8000000 in
theorem lg_insert (cs : List Chg) (c : Chg) (Al : Option Addr) (cl gc j1 k : Nat) (Wo wc : World) (hfo : Hid (Fr [] Wo wc)) (hcw : Hid (Blk wc gc 59 c.cells.toArray)) (HOWc : Hid (OwnL 59 10 Chg.cells wc (.slice Al cs.length cl) cs))
    (hj1 : j1 ≤ cs.length) (hcl : cs.length ≤ k) (hk3 : k < 3) (HLC : Hid (LgC c)) (HSM : Hid (∀ c ∈ cs, LgC c)) (K : Act → World → Prop) (s0 s1 s2 s3 s4 s5 s7 s8 s9 s11 s12 s13 s14 s16 s17 s18 s19 s20 s21 s22 s23 s24 s25 s26 s27 s28 s29 s30 s31 s32 s33 s34 s35 s36 s37 s38 s39 s40 s41 s42 s43 s44 s45 s46 s47 s48 s49 s50 s51 s52 s53 s54 s55 s56 s57 s58 s59 s60 s61 s62 s63 s64 s65 s66 s67 s68 s69 s70 s71 s72 s73 s74 s75 s76 s77 s78 s79 s80 s81 s82 s83 s84 s85 s86 s87 s88 s89 s90 s91 s92 s93 s94 s95 s96 s97 s98 s99 s100 s101 s102 s103 s104 s105 s106 s107 s108 s109 s110 s111 s112 s113 s114 s115 s116 s117 s118 s119 s120 s121 s122 s123 s124 s125 s126 s127 s128 s129 s130 s131 s132 s133 s134 s135 s136 s137 s138 s139 s140 s141 s142 s143 s144 s145 s146 s147 s148 s149 s150 s151 s152 s153 s154 s155 s156 s157 s158 s159 s160 s161 s162 s163 s164 s165 s166 s167 s168 s169 s170 s171 s172 s173 s174 s175 s176 s177 s178 s179 s180 s181 s182 s183 s184 s185 s186 s187 s188 s189 s190 s191 s192 s193 s194 s195 s196 s197 s198 s199 s200 s201 s202 s203 s204 s205 s206 s207 s208 s209 s210 s211 s212 s213 s214 s215 s216 : Value)
    (h : ∀ (A2 : Option Addr) (n2 c2 : Nat) (w2' : World) (v189 v190 v191 v192 v193 v194 v195 v196 v197 v198 v199 : Value), Hid (LgIn Wo w2' (.slice A2 n2 c2) (k + 1)) → K ⟨#[s0, s1, s2, s3, s4, s5, .slice A2 n2 c2, s7, s8, s9, .pointer (some ⟨gc, 0, none⟩), s11, s12, s13, s14, .int .i64 j1, s16, s17, s18, s19, s20, s21, s22, s23, s24, s25, s26, s27, s28, s29, s30, s31, s32, s33, s34, s35, s36, s37, s38, s39, s40, s41, s42, s43, s44, s45, s46, s47, s48, s49, s50, s51, s52, s53, s54, s55, s56, s57, s58, s59, s60, s61, s62, s63, s64, s65, s66, s67, s68, s69, s70, s71, s72, s73, s74, s75, s76, s77, s78, s79, s80, s81, s82, s83, s84, s85, s86, s87, s88, s89, s90, s91, s92, s93, s94, s95, s96, s97, s98, s99, s100, s101, s102, s103, s104, s105, s106, s107, s108, s109, s110, s111, s112, s113, s114, s115, s116, s117, s118, s119, s120, s121, s122, s123, s124, s125, s126, s127, s128, s129, s130, s131, s132, s133, s134, s135, s136, s137, s138, s139, s140, s141, s142, s143, s144, s145, s146, s147, s148, s149, s150, s151, s152, s153, s154, s155, s156, s157, s158, s159, s160, s161, s162, s163, s164, s165, s166, s167, s168, s169, s170, s171, s172, s173, s174, s175, s176, s177, s178, s179, s180, s181, s182, s183, s184, s185, s186, s187, s188, v189, v190, v191, v192, v193, v194, v195, v196, v197, v198, v199, s200, s201, s202, s203, s204, s205, s206, s207, s208, s209, s210, s211, s212, s213, s214, s215, s216], []⟩ w2') :
    Code.wp Tryz.prog lgRegion (normalOnly K) ⟨#[s0, s1, s2, s3, s4, s5, .slice Al cs.length cl, s7, s8, s9, .pointer (some ⟨gc, 0, none⟩), s11, s12, s13, s14, .int .i64 j1, s16, s17, s18, s19, s20, s21, s22, s23, s24, s25, s26, s27, s28, s29, s30, s31, s32, s33, s34, s35, s36, s37, s38, s39, s40, s41, s42, s43, s44, s45, s46, s47, s48, s49, s50, s51, s52, s53, s54, s55, s56, s57, s58, s59, s60, s61, s62, s63, s64, s65, s66, s67, s68, s69, s70, s71, s72, s73, s74, s75, s76, s77, s78, s79, s80, s81, s82, s83, s84, s85, s86, s87, s88, s89, s90, s91, s92, s93, s94, s95, s96, s97, s98, s99, s100, s101, s102, s103, s104, s105, s106, s107, s108, s109, s110, s111, s112, s113, s114, s115, s116, s117, s118, s119, s120, s121, s122, s123, s124, s125, s126, s127, s128, s129, s130, s131, s132, s133, s134, s135, s136, s137, s138, s139, s140, s141, s142, s143, s144, s145, s146, s147, s148, s149, s150, s151, s152, s153, s154, s155, s156, s157, s158, s159, s160, s161, s162, s163, s164, s165, s166, s167, s168, s169, s170, s171, s172, s173, s174, s175, s176, s177, s178, s179, s180, s181, s182, s183, s184, s185, s186, s187, s188, s189, s190, s191, s192, s193, s194, s195, s196, s197, s198, s199, s200, s201, s202, s203, s204, s205, s206, s207, s208, s209, s210, s211, s212, s213, s214, s215, s216], []⟩ wc := by
  obtain ⟨i0, TR⟩ := etChg
  have y0 : wc.cell? ⟨gc, 0, none⟩ = some (.int .i64 c.t) := hcw.out.cell 0
  have y1 : wc.cell? ⟨gc, 1, none⟩ = some (.int .i64 c.k) := hcw.out.cell 1
  have y2 : wc.cell? ⟨gc, 2, none⟩ = some (.bool c.had) := hcw.out.cell 2
  have y3 : wc.cell? ⟨gc, 3, none⟩ = some (.int .i64 c.o0) := hcw.out.cell 3
  have y4 : wc.cell? ⟨gc, 4, none⟩ = some (.int .i64 c.o1) := hcw.out.cell 4
  have y5 : wc.cell? ⟨gc, 5, none⟩ = some (.int .i64 c.o2) := hcw.out.cell 5
  have y6 : wc.cell? ⟨gc, 6, none⟩ = some (.bool c.has) := hcw.out.cell 6
  have y7 : wc.cell? ⟨gc, 7, none⟩ = some (.int .i64 c.n0) := hcw.out.cell 7
  have y8 : wc.cell? ⟨gc, 8, none⟩ = some (.int .i64 c.n1) := hcw.out.cell 8
  have y9 : wc.cell? ⟨gc, 9, none⟩ = some (.int .i64 c.n2) := hcw.out.cell 9
  have hlt3 := hcw.out.lt
  have hrd3 := Lib.hid (HOWc.out.reads rfl)
  have hcap3 : cs.length ≤ cl := own_cap2 HOWc.out
  have hjco : j1 ≤ cl := by omega
  conv => arg 2; whnf
  by_cases hj0 : 0 < j1
  · obtain ⟨gR, capR, hA, hnc, hcm, hgR, hcell, hfz⟩ := HOWc.out.form Chg.len (by omega)
    cases hA
    clear hcell hfz
    by_cases hjR : j1 < cs.length
    · skip
      have hjl : Hid ((cs.take j1).length = j1) := Lib.hid (by rw [List.length_take]; omega)
      have htk3 := Lib.hid (hrd3.out.takeL Chg.len (k := j1) (by omega))
      have hcne : ¬ cl = j1 := by omega
      have hdr3 := Lib.hid (hrd3.out.from_ Chg.len (k := j1) (off := j1 * 10) (by omega) rfl)
      have hdl3 : Hid (cs.length - j1 = (cs.drop j1).length) := Lib.hid (by rw [List.length_drop])
      have hb1 : Hid ([c].length + (cs.drop j1).length ≤ 2020) := Lib.hid (by simp only [List.length_singleton, List.length_drop]; omega)
      have hb2 : Hid ((cs.take j1).length + ([c] ++ (cs.drop j1)).length ≤ 2020) := Lib.hid (by simp only [List.length_append, List.length_take, List.length_singleton, List.length_drop]; omega)
      have hmx : Hid ((2020 : Nat) ≤ maxLen) := Lib.hid (by decide)
      first
        | go_region_law (first
          | (refine step_appendL rfl _ _ rfl TR Chg.len Chg.one rfl (own_new _ c Chg.len) _ _ _ _ (cs.drop j1) rfl hdl3.out (hdr3.out.alloc (Nat.le_refl _) _) (Nat.le_trans hb1.out hmx.out) (Nat.le_trans (Nat.mul_le_mul_right 80 hb1.out) (by decide)) ?_; intro v1 w1' hrow1' hg1 hat1; have htk1 := Lib.hid ((htk3.out.drew.alloc (Nat.le_refl _) (.cells #[.int .i64 c.t, .int .i64 c.k, .bool c.had, .int .i64 c.o0, .int .i64 c.o1, .int .i64 c.o2, .bool c.has, .int .i64 c.n0, .int .i64 c.n1, .int .i64 c.n2] 59)).grown hg1 (by rw [World.size_alloc]; exact Nat.le_succ _) (fun g hg => Nat.le_of_eq (Option.some.inj hg))); have hrow1 := Lib.hid hrow1'; have HG1 := Lib.hid hg1; have HA1 := Lib.hid hat1; obtain ⟨A1, n1, cap1, hv1, hn1, hrd1, hn1p⟩ := own_open hrow1' (by simp only [List.length_append, List.length_cons]; omega); subst hv1; have HN1 := Lib.hid hn1; have HRD1 := Lib.hid hrd1; clear hrow1' hg1 hat1 hn1 hrd1)
          | (refine step_append_fullL rfl _ _ rfl TR Chg.one _ _ _ _ rfl (L := cs.take j1) hjl.out.symm htk1.out (Nat.le_refl _) _ _ _ _ (N := [c] ++ (cs.drop j1)) rfl HN1.out hn1p HRD1.out (Nat.le_trans hb2.out hmx.out) (Nat.le_trans (Nat.mul_le_mul_right 80 hb2.out) (by decide)) ?_; intro v2 w2' hrow2' hg2 hat2; have HR2 := Lib.hid hrow2'; have HG2 := Lib.hid hg2; have HA2 := Lib.hid hat2; obtain ⟨A2, n2, cap2, hv2, hn2, hrd2, hn2p⟩ := own_open hrow2' (by simp only [List.length_append, List.length_cons]; omega); subst hv2; have HN2 := Lib.hid hn2; clear hrow2' hg2 hat2 hn2 hrd2))
        | fail "law"
      have HFN := Lib.hid ((((hfo.out.drew).alloc (.cells #[.int .i64 c.t, .int .i64 c.k, .bool c.had, .int .i64 c.o0, .int .i64 c.o1, .int .i64 c.o2, .bool c.has, .int .i64 c.n0, .int .i64 c.n1, .int .i64 c.n2] 59)).grown HG1.out (fun g hg => .inr (by
        have h1 := hfo.out.size
        have h5 : wc.heap.size = g := Option.some.inj hg
        omega))).grown HG2.out (fun g hg => by cases hg))
      have R3 : Hid (LgIn Wo w2' (.slice A2 n2 cap2) (k + 1)) := Lib.hid ⟨⟨(cs.take j1) ++ ([c] ++ (cs.drop j1)), HR2.out, fun q hq => by
          rcases List.mem_append.1 hq with h1 | h1
          · exact HSM.out q (List.mem_of_mem_take h1)
          · rcases List.mem_append.1 h1 with h2 | h2
            · rw [List.mem_singleton] at h2
              subst h2
              exact HLC.out
            · exact HSM.out q (List.mem_of_mem_drop h2), by simp only [List.length_append, List.length_take, List.length_drop, List.length_singleton]; omega⟩, HFN.out, fun g hg => by
          have h1 := HA2.out
          rw [hg] at h1
          injection h1 with h1
          have h2 := HG1.out.size
          have h4 := hfo.out.size
          simp at h2
          omega⟩
      exact h A2 n2 cap2 w2' _ _ _ _ _ _ _ _ _ _ _ R3
    · skip
      have hjl : Hid ((cs.take j1).length = j1) := Lib.hid (by rw [List.length_take]; omega)
      have htk3 := Lib.hid (hrd3.out.takeL Chg.len (k := j1) (by omega))
      have hdl3 : Hid (cs.length - j1 = ([] : List Chg).length) := Lib.hid (by simp; omega)
      have hb1 : Hid ([c].length + ([] : List Chg).length ≤ 2020) := Lib.hid (by simp only [List.length_singleton, List.length_nil]; omega)
      have hb2 : Hid ((cs.take j1).length + ([c] ++ ([] : List Chg)).length ≤ 2020) := Lib.hid (by simp only [List.length_append, List.length_take, List.length_singleton, List.length_nil]; omega)
      have hmx : Hid ((2020 : Nat) ≤ maxLen) := Lib.hid (by decide)
      first
        | go_region_law (first
          | (refine step_appendL rfl _ _ rfl TR Chg.len Chg.one rfl (own_new _ c Chg.len) 0 _ _ _ ([] : List Chg) rfl hdl3.out (reads_none hdl3.out) (Nat.le_trans hb1.out hmx.out) (Nat.le_trans (Nat.mul_le_mul_right 80 hb1.out) (by decide)) ?_; intro v1 w1' hrow1' hg1 hat1; have htk1 := Lib.hid ((htk3.out.drew.alloc (Nat.le_refl _) (.cells #[.int .i64 c.t, .int .i64 c.k, .bool c.had, .int .i64 c.o0, .int .i64 c.o1, .int .i64 c.o2, .bool c.has, .int .i64 c.n0, .int .i64 c.n1, .int .i64 c.n2] 59)).grown hg1 (by rw [World.size_alloc]; exact Nat.le_succ _) (fun g hg => Nat.le_of_eq (Option.some.inj hg))); have hrow1 := Lib.hid hrow1'; have HG1 := Lib.hid hg1; have HA1 := Lib.hid hat1; obtain ⟨A1, n1, cap1, hv1, hn1, hrd1, hn1p⟩ := own_open hrow1' (by simp only [List.length_append, List.length_cons]; omega); subst hv1; have HN1 := Lib.hid hn1; have HRD1 := Lib.hid hrd1; clear hrow1' hg1 hat1 hn1 hrd1)
          | (refine step_append_fullL rfl _ _ rfl TR Chg.one _ _ _ _ rfl (L := cs.take j1) hjl.out.symm htk1.out (Nat.le_refl _) _ _ _ _ (N := [c] ++ ([] : List Chg)) rfl HN1.out hn1p HRD1.out (Nat.le_trans hb2.out hmx.out) (Nat.le_trans (Nat.mul_le_mul_right 80 hb2.out) (by decide)) ?_; intro v2 w2' hrow2' hg2 hat2; have HR2 := Lib.hid hrow2'; have HG2 := Lib.hid hg2; have HA2 := Lib.hid hat2; obtain ⟨A2, n2, cap2, hv2, hn2, hrd2, hn2p⟩ := own_open hrow2' (by simp only [List.length_append, List.length_cons]; omega); subst hv2; have HN2 := Lib.hid hn2; clear hrow2' hg2 hat2 hn2 hrd2))
        | fail "law"
      have HFN := Lib.hid ((((hfo.out.drew).alloc (.cells #[.int .i64 c.t, .int .i64 c.k, .bool c.had, .int .i64 c.o0, .int .i64 c.o1, .int .i64 c.o2, .bool c.has, .int .i64 c.n0, .int .i64 c.n1, .int .i64 c.n2] 59)).grown HG1.out (fun g hg => .inr (by
        have h1 := hfo.out.size
        have h5 : wc.heap.size = g := Option.some.inj hg
        omega))).grown HG2.out (fun g hg => by cases hg))
      have R3 : Hid (LgIn Wo w2' (.slice A2 n2 cap2) (k + 1)) := Lib.hid ⟨⟨(cs.take j1) ++ ([c] ++ ([] : List Chg)), HR2.out, fun q hq => by
          rcases List.mem_append.1 hq with h1 | h1
          · exact HSM.out q (List.mem_of_mem_take h1)
          · rcases List.mem_append.1 h1 with h2 | h2
            · rw [List.mem_singleton] at h2
              subst h2
              exact HLC.out
            · exact absurd h2 (by simp), by simp only [List.length_append, List.length_take, List.length_singleton, List.length_nil]; omega⟩, HFN.out, fun g hg => by
          have h1 := HA2.out
          rw [hg] at h1
          injection h1 with h1
          have h2 := HG1.out.size
          have h4 := hfo.out.size
          simp at h2
          omega⟩
      exact h A2 n2 cap2 w2' _ _ _ _ _ _ _ _ _ _ _ R3
  · have hj00 : j1 = 0 := by omega
    subst hj00
    have hb1 : Hid ([c].length + cs.length ≤ 2020) := Lib.hid (by simp only [List.length_singleton]; omega)
    have hb2 : Hid ((cs.take 0).length + ([c] ++ cs).length ≤ 2020) := Lib.hid (by simp only [List.length_append, List.length_take, List.length_singleton]; omega)
    have hmx : Hid ((2020 : Nat) ≤ maxLen) := Lib.hid (by decide)
    first
      | go_region_law (first
        | (refine step_appendL rfl _ _ rfl TR Chg.len Chg.one rfl (own_new _ c Chg.len) _ _ _ _ cs rfl rfl (hrd3.out.alloc (Nat.le_refl _) _) (Nat.le_trans hb1.out hmx.out) (Nat.le_trans (Nat.mul_le_mul_right 80 hb1.out) (by decide)) ?_; intro v1 w1' hrow1' hg1 hat1; have hrow1 := Lib.hid hrow1'; have HG1 := Lib.hid hg1; have HA1 := Lib.hid hat1; obtain ⟨A1, n1, cap1, hv1, hn1, hrd1, hn1p⟩ := own_open hrow1' (by simp only [List.length_append, List.length_cons]; omega); subst hv1; have HN1 := Lib.hid hn1; have HRD1 := Lib.hid hrd1; clear hrow1' hg1 hat1 hn1 hrd1)
        | (refine step_append_fullL rfl _ _ rfl TR Chg.one 0 _ _ _ rfl (L := cs.take 0) rfl Reads.none_ (Nat.le_refl _) _ _ _ _ (N := [c] ++ cs) rfl HN1.out hn1p HRD1.out (Nat.le_trans hb2.out hmx.out) (Nat.le_trans (Nat.mul_le_mul_right 80 hb2.out) (by decide)) ?_; intro v2 w2' hrow2' hg2 hat2; have HR2 := Lib.hid hrow2'; have HG2 := Lib.hid hg2; have HA2 := Lib.hid hat2; obtain ⟨A2, n2, cap2, hv2, hn2, hrd2, hn2p⟩ := own_open hrow2' (by simp only [List.length_append, List.length_cons]; omega); subst hv2; have HN2 := Lib.hid hn2; clear hrow2' hg2 hat2 hn2 hrd2))
      | fail "law"
    have HFN := Lib.hid ((((hfo.out.drew).alloc (.cells #[.int .i64 c.t, .int .i64 c.k, .bool c.had, .int .i64 c.o0, .int .i64 c.o1, .int .i64 c.o2, .bool c.has, .int .i64 c.n0, .int .i64 c.n1, .int .i64 c.n2] 59)).grown HG1.out (fun g hg => .inr (by
      have h1 := hfo.out.size
      have h5 : wc.heap.size = g := Option.some.inj hg
      omega))).grown HG2.out (fun g hg => by cases hg))
    have R3 : Hid (LgIn Wo w2' (.slice A2 n2 cap2) (k + 1)) := Lib.hid ⟨⟨(cs.take 0) ++ ([c] ++ cs), HR2.out, fun q hq => by
        rcases List.mem_append.1 hq with h1 | h1
        · exact HSM.out q (List.mem_of_mem_take h1)
        · rcases List.mem_append.1 h1 with h2 | h2
          · rw [List.mem_singleton] at h2
            subst h2
            exact HLC.out
          · exact HSM.out q h2, by simp only [List.length_append, List.length_take, List.length_singleton]; omega⟩, HFN.out, fun g hg => by
        have h1 := HA2.out
        rw [hg] at h1
        injection h1 with h1
        have h2 := HG1.out.size
        have h4 := hfo.out.size
        simp at h2
        omega⟩
    exact h A2 n2 cap2 w2' _ _ _ _ _ _ _ _ _ _ _ R3

theorem lg_insert_any (C : Code) (hC : C = lgRegion) (cs : List Chg) (c : Chg) (Al : Option Addr) (cl gc j1 k : Nat) (Wo wc : World) (hfo : Hid (Fr [] Wo wc)) (hcw : Hid (Blk wc gc 59 c.cells.toArray)) (HOWc : Hid (OwnL 59 10 Chg.cells wc (.slice Al cs.length cl) cs))
    (hj1 : j1 ≤ cs.length) (hcl : cs.length ≤ k) (hk3 : k < 3) (HLC : Hid (LgC c)) (HSM : Hid (∀ c ∈ cs, LgC c)) (Q : Exit → Act → World → Prop) (s0 s1 s2 s3 s4 s5 s7 s8 s9 s11 s12 s13 s14 s16 s17 s18 s19 s20 s21 s22 s23 s24 s25 s26 s27 s28 s29 s30 s31 s32 s33 s34 s35 s36 s37 s38 s39 s40 s41 s42 s43 s44 s45 s46 s47 s48 s49 s50 s51 s52 s53 s54 s55 s56 s57 s58 s59 s60 s61 s62 s63 s64 s65 s66 s67 s68 s69 s70 s71 s72 s73 s74 s75 s76 s77 s78 s79 s80 s81 s82 s83 s84 s85 s86 s87 s88 s89 s90 s91 s92 s93 s94 s95 s96 s97 s98 s99 s100 s101 s102 s103 s104 s105 s106 s107 s108 s109 s110 s111 s112 s113 s114 s115 s116 s117 s118 s119 s120 s121 s122 s123 s124 s125 s126 s127 s128 s129 s130 s131 s132 s133 s134 s135 s136 s137 s138 s139 s140 s141 s142 s143 s144 s145 s146 s147 s148 s149 s150 s151 s152 s153 s154 s155 s156 s157 s158 s159 s160 s161 s162 s163 s164 s165 s166 s167 s168 s169 s170 s171 s172 s173 s174 s175 s176 s177 s178 s179 s180 s181 s182 s183 s184 s185 s186 s187 s188 s189 s190 s191 s192 s193 s194 s195 s196 s197 s198 s199 s200 s201 s202 s203 s204 s205 s206 s207 s208 s209 s210 s211 s212 s213 s214 s215 s216 : Value)
    (h : ∀ (A2 : Option Addr) (n2 c2 : Nat) (w2' : World) (v189 v190 v191 v192 v193 v194 v195 v196 v197 v198 v199 : Value), Hid (LgIn Wo w2' (.slice A2 n2 c2) (k + 1)) → Q .normal ⟨#[s0, s1, s2, s3, s4, s5, .slice A2 n2 c2, s7, s8, s9, .pointer (some ⟨gc, 0, none⟩), s11, s12, s13, s14, .int .i64 j1, s16, s17, s18, s19, s20, s21, s22, s23, s24, s25, s26, s27, s28, s29, s30, s31, s32, s33, s34, s35, s36, s37, s38, s39, s40, s41, s42, s43, s44, s45, s46, s47, s48, s49, s50, s51, s52, s53, s54, s55, s56, s57, s58, s59, s60, s61, s62, s63, s64, s65, s66, s67, s68, s69, s70, s71, s72, s73, s74, s75, s76, s77, s78, s79, s80, s81, s82, s83, s84, s85, s86, s87, s88, s89, s90, s91, s92, s93, s94, s95, s96, s97, s98, s99, s100, s101, s102, s103, s104, s105, s106, s107, s108, s109, s110, s111, s112, s113, s114, s115, s116, s117, s118, s119, s120, s121, s122, s123, s124, s125, s126, s127, s128, s129, s130, s131, s132, s133, s134, s135, s136, s137, s138, s139, s140, s141, s142, s143, s144, s145, s146, s147, s148, s149, s150, s151, s152, s153, s154, s155, s156, s157, s158, s159, s160, s161, s162, s163, s164, s165, s166, s167, s168, s169, s170, s171, s172, s173, s174, s175, s176, s177, s178, s179, s180, s181, s182, s183, s184, s185, s186, s187, s188, v189, v190, v191, v192, v193, v194, v195, v196, v197, v198, v199, s200, s201, s202, s203, s204, s205, s206, s207, s208, s209, s210, s211, s212, s213, s214, s215, s216], []⟩ w2') :
    Code.wp Tryz.prog C Q ⟨#[s0, s1, s2, s3, s4, s5, .slice Al cs.length cl, s7, s8, s9, .pointer (some ⟨gc, 0, none⟩), s11, s12, s13, s14, .int .i64 j1, s16, s17, s18, s19, s20, s21, s22, s23, s24, s25, s26, s27, s28, s29, s30, s31, s32, s33, s34, s35, s36, s37, s38, s39, s40, s41, s42, s43, s44, s45, s46, s47, s48, s49, s50, s51, s52, s53, s54, s55, s56, s57, s58, s59, s60, s61, s62, s63, s64, s65, s66, s67, s68, s69, s70, s71, s72, s73, s74, s75, s76, s77, s78, s79, s80, s81, s82, s83, s84, s85, s86, s87, s88, s89, s90, s91, s92, s93, s94, s95, s96, s97, s98, s99, s100, s101, s102, s103, s104, s105, s106, s107, s108, s109, s110, s111, s112, s113, s114, s115, s116, s117, s118, s119, s120, s121, s122, s123, s124, s125, s126, s127, s128, s129, s130, s131, s132, s133, s134, s135, s136, s137, s138, s139, s140, s141, s142, s143, s144, s145, s146, s147, s148, s149, s150, s151, s152, s153, s154, s155, s156, s157, s158, s159, s160, s161, s162, s163, s164, s165, s166, s167, s168, s169, s170, s171, s172, s173, s174, s175, s176, s177, s178, s179, s180, s181, s182, s183, s184, s185, s186, s187, s188, s189, s190, s191, s192, s193, s194, s195, s196, s197, s198, s199, s200, s201, s202, s203, s204, s205, s206, s207, s208, s209, s210, s211, s212, s213, s214, s215, s216], []⟩ wc := by
  subst hC
  exact Code.wp_mono (fun e a w hh => by cases e <;> first | exact hh | exact hh.elim) (lg_insert cs c Al cl gc j1 k Wo wc hfo hcw HOWc hj1 hcl hk3 HLC HSM (fun a w => Q .normal a w) s0 s1 s2 s3 s4 s5 s7 s8 s9 s11 s12 s13 s14 s16 s17 s18 s19 s20 s21 s22 s23 s24 s25 s26 s27 s28 s29 s30 s31 s32 s33 s34 s35 s36 s37 s38 s39 s40 s41 s42 s43 s44 s45 s46 s47 s48 s49 s50 s51 s52 s53 s54 s55 s56 s57 s58 s59 s60 s61 s62 s63 s64 s65 s66 s67 s68 s69 s70 s71 s72 s73 s74 s75 s76 s77 s78 s79 s80 s81 s82 s83 s84 s85 s86 s87 s88 s89 s90 s91 s92 s93 s94 s95 s96 s97 s98 s99 s100 s101 s102 s103 s104 s105 s106 s107 s108 s109 s110 s111 s112 s113 s114 s115 s116 s117 s118 s119 s120 s121 s122 s123 s124 s125 s126 s127 s128 s129 s130 s131 s132 s133 s134 s135 s136 s137 s138 s139 s140 s141 s142 s143 s144 s145 s146 s147 s148 s149 s150 s151 s152 s153 s154 s155 s156 s157 s158 s159 s160 s161 s162 s163 s164 s165 s166 s167 s168 s169 s170 s171 s172 s173 s174 s175 s176 s177 s178 s179 s180 s181 s182 s183 s184 s185 s186 s187 s188 s189 s190 s191 s192 s193 s194 s195 s196 s197 s198 s199 s200 s201 s202 s203 s204 s205 s206 s207 s208 s209 s210 s211 s212 s213 s214 s215 s216 h)
end Go.Proofs.YtciaallekkdnhaaGreat

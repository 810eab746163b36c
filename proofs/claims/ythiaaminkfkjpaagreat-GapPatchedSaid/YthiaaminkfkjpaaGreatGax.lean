/-
  slices.Insert; without and inserted: at rows.
-/
import Derived.Test.YthiaaminkfkjpaaGreatGav
namespace Go.Proofs.YthiaaminkfkjpaaGreat
open Go.RowKit

theorem own_val {X : Type} {e size : Nat} {enc : X → List Value} {w : World} {v : Value} {L : List X} (h : OwnL e size enc w v L) : ∃ A n cap, v = .slice A n cap ∧ n = L.length := by
  obtain ⟨A, cap, hv⟩ := h.val
  exact ⟨A, _, cap, hv, rfl⟩
theorem mem_sliceB {A : Option Addr} {g : Nat} : g ∈ sliceB A ↔ ∃ ad, A = some ad ∧ ad.block = g := by
  cases A <;> simp [sliceB, eq_comm]
theorem own_sliceB {A : Option Addr} {n cap g : Nat} (h : (Value.slice A n cap).ownBlock = some g) : g ∈ sliceB A := by
  cases A with
  | none => cases h
  | some a => injection h with h; simp [sliceB, h]
theorem sliceB_own {A : Option Addr} {ad : Addr} {e size : Nat} {X : Type} {enc : X → List Value} {w : World} {n cap : Nat} {L : List X} (h : OwnL e size enc w (.slice A n cap) L) (ha : A = some ad) : (Value.slice A n cap).ownBlock = some ad.block := by
  subst ha
  rfl
namespace Pm
theorem ins_end {X : Type} {p : X → Bool} {x : X} : ∀ {l : List X}, (∀ y ∈ l, p y = false) → ins p x l = l ++ [x]
  | [], _ => rfl
  | y :: l, h => by
    rw [ins, if_neg (by rw [h y (by simp)]; simp), ins_end (fun z hz => h z (by simp [hz]))]
    rfl
theorem ins_at {X : Type} {p : X → Bool} {x : X} : ∀ {l : List X} {k : Nat} (hk : k < l.length), (∀ y ∈ l.take k, p y = false) → p l[k] = true → ins p x l = l.take k ++ x :: l.drop k
  | y :: l, 0, _, _, h => by
    rw [ins, if_pos (by simpa using h)]
    rfl
  | y :: l, k + 1, hk, ha, h => by
    rw [ins, if_neg (by rw [ha y (by simp)]; simp), ins_at (k := k) (by simpa using hk) (fun z hz => ha z (by simp [hz])) (by simpa using h)]
    rfl
end Pm
/-- Insert, wherever. -/
theorem rowIns_any (A : Option Addr) (n cap : Nat) (L : List RowV) (i : Nat) (x : RowV) (vb : Nat) (w : World) (ho : OwnL 67 5 RowV.cells w (.slice A n cap) L) (hi : i ≤ n) (hl : n ≤ 100000) (hv : Blk w vb 67 (RowV.cells x).toArray) (hne : ∀ ad, A = some ad → vb ≠ ad.block) :
    Calls Tryz.prog 115 #[.slice A n cap, .int .i64 i, .slice (some ⟨vb, 0, none⟩) 1 1] w fun e w' => ∃ A' n' c', e = .returned (.slice A' n' c') ∧ OwnL 67 5 RowV.cells w' (.slice A' n' c') (L.take i ++ x :: L.drop i) ∧ Fr (sliceB A) w w' ∧ ∀ ad, A' = some ad → ad.block ∈ sliceB A ∨ w.heap.size ≤ ad.block := by
  have hn : n = L.length := ho.blk.1
  by_cases h1 : i = n
  · subst h1
    refine (rowInsEnd A i cap L x vb w ho hl hv).mono ?_
    rintro e w' ⟨v', rfl, ho', hf, hb⟩
    obtain ⟨A', n', c', rfl, -⟩ := own_val ho'
    refine ⟨A', n', c', rfl, ?_, hf, fun ad ha => ?_⟩
    · rw [List.take_of_length_le (by omega), List.drop_eq_nil_of_le (by omega)]
      exact ho'
    · subst ha
      rcases hb with h | h
      · exact .inl (own_sliceB h.symm)
      · injection h with h
        exact .inr (by omega)
  · by_cases h2 : cap ≤ n
    · refine (rowInsGrow A n cap L i x vb w ho (by omega) h2 hl hv).mono ?_
      rintro e w' ⟨c', rfl, ho', hf⟩
      exact ⟨_, _, _, rfl, ho', hf.mono (by simp), fun ad ha => by injection ha with ha; subst ha; exact .inr (Nat.le_refl _)⟩
    · obtain ⟨-, h0 | ⟨g, cur, rfl, -⟩⟩ := ho.blk
      · rw [h0.2.1] at hn
        simp at hn
        omega
      · refine (rowInsShift g n cap L i x vb w ho (by omega) (by omega) hl hv (hne _ rfl)).mono ?_
        rintro e w' ⟨rfl, ho', hf⟩
        exact ⟨_, _, _, rfl, ho', by simpa [sliceB] using hf, fun ad ha => by injection ha with ha; subst ha; exact .inl (by simp [sliceB])⟩
set_option maxRecDepth 100000 in
set_option maxHeartbeats 2000000 in
/-- without: those of which a function does not hold. -/
theorem rowWithout_any (fn : Nat) (cb : Array Value) (p : RowV → Bool) (A : Option Addr) (n cap : Nat) (L : List RowV) (w : World) (hx : AtL RowV.cells 5 w A L) (hn : n = L.length) (hl : n ≤ 100000)
    (eg : ∀ args w, (callFunc fn args).run Tryz.prog w = .ok (.enter fn args) w)
    (hp : ∀ (W : World) (x : RowV), Fr [] w W → Calls Tryz.prog fn (#[RowV.val x] ++ cb) W fun e w' => e = .returned (.bool (p x)) ∧ Fr [] W w') :
    Calls Tryz.prog 97 #[.slice A n cap, .func (.func fn) #[] cb] w fun e w' => ∃ A' n' c', e = .returned (.slice A' n' c') ∧ OwnL 67 5 RowV.cells w' (.slice A' n' c') (L.filter fun x => !p x) ∧ Fr [] w w' ∧ ∀ ad, A' = some ad → w.heap.size ≤ ad.block := by
  have HC := Lib.hid (rowClone_any A n cap L w hx hn hl)
  have HP := Lib.hid hp
  have HN : Hid (L.length ≤ 100000) := Lib.hid (by omega)
  clear hp hx hn hl
  go_enter Tryz.func97, Tryz.ntmps97
  go_wp2_with (first
    | (go_at_call 35; refine HC.out.mono ?_; rintro e w1 ⟨v, rfl, ho, hf, hg⟩; obtain ⟨A1, n1, c1, hv, hn1⟩ := own_val ho; subst hv; have HO1 := Lib.hid ho; have HF1 := Lib.hid hf; have HG1 : Hid (∀ ad, A1 = some ad → w.heap.size ≤ ad.block) := Lib.hid (fun ad ha => hg _ (sliceB_own ho ha)); have HN1 : Hid (n1 ≤ 100000) := Lib.hid (by rw [hn1]; exact HN.out); clear ho hf hg hn1)
    | (go_at_call 113; refine (rowDel_any fn cb p A1 n1 c1 L w1 HO1.out HN1.out eg (fun W x hw => HP.out W x (HF1.out.trans' hw (fun i hi => by obtain ⟨ad, h1, h2⟩ := mem_sliceB.1 hi; have h3 := HG1.out ad h1; exact .inr (by omega))))).mono ?_; rintro e w2 ⟨m, rfl, ho2, hf2⟩; have HO2 := Lib.hid ho2; have HF2 := Lib.hid hf2; clear ho2 hf2))
  go_ret
  exact ⟨A1, m, c1, rfl, HO2.out, HF1.out.trans' HF2.out (fun i hi => by obtain ⟨ad, h1, h2⟩ := mem_sliceB.1 hi; have h3 := HG1.out ad h1; exact .inr (by omega)), HG1.out⟩
set_option maxRecDepth 100000 in
set_option maxHeartbeats 4000000 in
/-- inserted: ahead of the first one of which a function holds. -/
theorem rowInserted_any (fn : Nat) (cb : Array Value) (p : RowV → Bool) (A : Option Addr) (n cap : Nat) (L : List RowV) (x : RowV) (w : World) (ho : OwnL 67 5 RowV.cells w (.slice A n cap) L) (hl : n ≤ 100000)
    (eg : ∀ args w, (callFunc fn args).run Tryz.prog w = .ok (.enter fn args) w)
    (hp : ∀ (W : World) (x : RowV), Fr [] w W → Calls Tryz.prog fn (#[RowV.val x] ++ cb) W fun e w' => e = .returned (.bool (p x)) ∧ Fr [] W w') :
    Calls Tryz.prog 99 #[.slice A n cap, RowV.val x, .func (.func fn) #[] cb] w fun e w' => ∃ A' n' c', e = .returned (.slice A' n' c') ∧ OwnL 67 5 RowV.cells w' (.slice A' n' c') (Pm.ins p x L) ∧ Fr (sliceB A) w w' ∧ ∀ ad, A' = some ad → ad.block ∈ sliceB A ∨ w.heap.size ≤ ad.block := by
  have hn : n = L.length := ho.blk.1
  obtain ⟨r0, r1, r2, r3, r4⟩ := x
  have F0 := (Fr.refl [] w).alloc (.cells #[.int .i64 r0, .int .i64 r1, .int .i64 r2, .int .i64 r3, .int .i64 r4] 67)
  have HB : Hid (Blk (w.alloc (.cells #[.int .i64 r0, .int .i64 r1, .int .i64 r2, .int .i64 r3, .int .i64 r4] 67)) w.heap.size 67 #[.int .i64 r0, .int .i64 r1, .int .i64 r2, .int .i64 r3, .int .i64 r4]) := Lib.hid (Blk.new _ _ _)
  have ho1 : OwnL 67 5 RowV.cells (w.alloc (.cells #[.int .i64 r0, .int .i64 r1, .int .i64 r2, .int .i64 r3, .int .i64 r4] 67)) (.slice A n cap) L := ho.fr F0 (by simp)
  have HIX := Lib.hid (rowIdx_any fn cb p A n cap L (w.alloc (.cells #[.int .i64 r0, .int .i64 r1, .int .i64 r2, .int .i64 r3, .int .i64 r4] 67)) (ho1.at1 RowV.cells_len).1 hn hl eg (fun W x hf => hp W x (F0.trans hf)))
  have HO1 := Lib.hid ho1
  have HF0 := Lib.hid F0
  have HNE : Hid (∀ ad, A = some ad → ad.block < w.heap.size) := Lib.hid (fun ad ha => ho.lt (sliceB_own ho ha))
  have HL := Lib.hid hl
  have HN := Lib.hid hn
  have step : ∀ (j : Nat), j ≤ n → Hid (Pm.ins p (⟨r0, r1, r2, r3, r4⟩ : RowV) L = L.take j ++ (⟨r0, r1, r2, r3, r4⟩ : RowV) :: L.drop j) → ∀ w2, Fr [] (w.alloc (.cells #[.int .i64 r0, .int .i64 r1, .int .i64 r2, .int .i64 r3, .int .i64 r4] 67)) w2 → Calls Tryz.prog 115 #[.slice A n cap, .int .i64 j, .slice (some ⟨w2.heap.size, 0, none⟩) 1 1] (w2.alloc (.cells #[.int .i64 r0, .int .i64 r1, .int .i64 r2, .int .i64 r3, .int .i64 r4] 67)) fun e w' => ∃ A' n' c', e = .returned (.slice A' n' c') ∧ Hid (OwnL 67 5 RowV.cells w' (.slice A' n' c') (Pm.ins p (⟨r0, r1, r2, r3, r4⟩ : RowV) L)) ∧ Hid (Fr (sliceB A) w w') ∧ Hid (∀ ad, A' = some ad → ad.block ∈ sliceB A ∨ w.heap.size ≤ ad.block) := by
    intro j hj hins w2 f2
    have f3 := f2.alloc (.cells #[.int .i64 r0, .int .i64 r1, .int .i64 r2, .int .i64 r3, .int .i64 r4] 67)
    have h3 := HO1.out.fr f3 (by simp)
    refine (rowIns_any A n cap L j ⟨r0, r1, r2, r3, r4⟩ w2.heap.size _ h3 hj HL.out (Blk.new _ _ _) (fun ad ha e => ?_)).mono ?_
    · have h4 := HNE.out ad ha
      have h5 := f2.size
      rw [World.size_alloc] at h5
      omega
    · rintro e w' ⟨A', n', c', rfl, ho', hf, hb⟩
      have hs := (HF0.out.trans f3).size
      refine ⟨A', n', c', rfl, Lib.hid (by rw [hins.out]; exact ho'), Lib.hid (((HF0.out.trans f3).mono (by simp)).trans hf), Lib.hid (fun ad ha => ?_)⟩
      rcases hb ad ha with h | h
      · exact .inl h
      · exact .inr (by omega)
  have HSTEP := Lib.hid step
  rcases first_or p L with hall | ⟨k, hk, hbefore, hit⟩
  · have HM : Hid (idxP p L 0 = -1) := Lib.hid (idxP_miss 0 hall)
    have HI : Hid (Pm.ins p (⟨r0, r1, r2, r3, r4⟩ : RowV) L = L.take n ++ (⟨r0, r1, r2, r3, r4⟩ : RowV) :: L.drop n) := Lib.hid (by rw [Pm.ins_end hall, List.take_of_length_le (by omega), List.drop_eq_nil_of_le (by omega)])
    clear hall step ho1 F0 ho hp hn hl
    go_enter Tryz.func99, Tryz.ntmps99
    go_upto_region 4 with (go_at_call 114; refine HIX.out.mono ?_; rintro e w2 ⟨rfl, f2⟩; rw [HM.out]; have F2 := Lib.hid f2; clear f2)
    have HB2 := HB.out.fr F2.out (by simp)
    have b0 := HB2.cell 0
    have b1 := HB2.cell 1
    have b2 := HB2.cell 2
    have b3 := HB2.cell 3
    have b4 := HB2.cell 4
    clear HB2
    go_wp2_with (go_at_call 115; refine (HSTEP.out n (Nat.le_refl _) HI w2 F2.out).mono ?_; rintro e w3 ⟨A', n', c', rfl, H1, H2, H3⟩)
    go_ret
    exact ⟨A', n', c', rfl, H1.out, H2.out, H3.out⟩
  · have HM : Hid (idxP p L 0 = (k : Int)) := Lib.hid (by rw [idxP_hit 0 k hk hbefore hit, Nat.zero_add])
    have HI : Hid (Pm.ins p (⟨r0, r1, r2, r3, r4⟩ : RowV) L = L.take k ++ (⟨r0, r1, r2, r3, r4⟩ : RowV) :: L.drop k) := Lib.hid (Pm.ins_at hk hbefore hit)
    have HK : Hid (k ≤ n) := Lib.hid (by omega)
    have hk0 : ¬ ((k : Int) < 0) := by omega
    clear hit hbefore step ho1 F0 ho hp hn hl hk
    go_enter Tryz.func99, Tryz.ntmps99
    go_upto_region 4 with (go_at_call 114; refine HIX.out.mono ?_; rintro e w2 ⟨rfl, f2⟩; rw [HM.out]; have F2 := Lib.hid f2; clear f2)
    have HB2 := HB.out.fr F2.out (by simp)
    have b0 := HB2.cell 0
    have b1 := HB2.cell 1
    have b2 := HB2.cell 2
    have b3 := HB2.cell 3
    have b4 := HB2.cell 4
    clear HB2
    go_wp2_with (go_at_call 115; refine (HSTEP.out k HK.out HI w2 F2.out).mono ?_; rintro e w3 ⟨A', n', c', rfl, H1, H2, H3⟩)
    go_ret
    exact ⟨A', n', c', rfl, H1.out, H2.out, H3.out⟩
end Go.Proofs.YthiaaminkfkjpaaGreat

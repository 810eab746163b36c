/-
  'Missing'.
-/
import Derived.Test.YtfbhdmppddledaaGapF
namespace Go.Proofs.Ytfbhdmppddledaa
open Go.RowKit

def encS (x : Int × Int) : List Value := [.int .i64 x.1, .int .i64 x.2]
theorem encS_len (x : Int × Int) : (encS x).length = 2 := rfl
theorem encS_one (x : Int × Int) : ∀ u ∈ encS x, u.oneCell' = true := by
  intro u hu
  simp only [encS, List.mem_cons, List.not_mem_nil, or_false] at hu
  rcases hu with rfl | rfl <;> rfl
theorem etS : ∃ i z, ET Try.prog 46 53 2 16 i z := by
  have h : (Try.prog.info? 53).map (fun i => (i.zero, i.size, i.bytes)) = some (some (.agg #[.int .i64 0, .int .i64 0]), 2, 16) := by kernel_rfl
  obtain ⟨i0, hi, hz0, hz1, hz2⟩ := info_parts h
  exact ⟨i0, _, Try.underlying46, hi, hz0, hz1, hz2, rfl, by decide⟩

theorem Gm.widen_len (l : List (Int × Int)) (p : Int) : (Gm.widen l p).length ≤ l.length + 1 := by
  unfold Gm.widen
  split
  · split
    · simp
    · simp
  · simp
theorem Gm.missing_len (L : List (Int × Rec)) (p : Int) (n : Nat) : (Gm.missing L p n).length ≤ n := by
  induction n with
  | zero => simp [Gm.missing]
  | succ n ih =>
    unfold Gm.missing
    split
    · omega
    · have := Gm.widen_len (Gm.missing L p n) (p + n + 1); omega
theorem Gm.widen_nil (p : Int) : Gm.widen [] p = [(p, p)] := rfl
theorem Gm.widen_touch {l : List (Int × Int)} {p x y : Int} (h0 : 0 < l.length) (h : l[l.length - 1]'(Nat.sub_lt h0 Nat.one_pos) = (x, y)) (ht : y = p - 1) : Gm.widen l p = l.set (l.length - 1) (x, p) := by
  have e : l.getLast? = some (x, y) := by rw [List.getLast?_eq_getElem?, List.getElem?_eq_getElem (Nat.sub_lt h0 Nat.one_pos), h]
  unfold Gm.widen
  rw [e]
  dsimp only
  rw [if_pos ht]
  apply List.ext_getElem
  · simp; omega
  · intro i h1 h2
    rw [List.getElem_set]
    by_cases hi : l.length - 1 = i
    · subst hi
      simp only [if_true]
      rw [List.getElem_append_right (by simp)]
      simp
    · rw [if_neg hi, List.getElem_append_left (by simp at h2 ⊢; omega)]
      simp
theorem Gm.widen_apart {l : List (Int × Int)} {p x y : Int} (h0 : 0 < l.length) (h : l[l.length - 1]'(Nat.sub_lt h0 Nat.one_pos) = (x, y)) (ht : y ≠ p - 1) : Gm.widen l p = l ++ [(p, p)] := by
  have e : l.getLast? = some (x, y) := by rw [List.getLast?_eq_getElem?, List.getElem?_eq_getElem (Nat.sub_lt h0 Nat.one_pos), h]
  unfold Gm.widen
  rw [e]
  dsimp only
  rw [if_neg ht]

/-- A row of another kind is written: the receiver stays. -/
theorem RcvAt.past_row {X : Type} {e size : Nat} {enc : X → List Value} {v : Value} {L : List X} {w w' : World} {b m : Nat} {c : Gm.Rcv} (h : RcvAt w b m c) (hown : OwnL e size enc w v L) (h1 : e ≠ 68) (h2 : e ≠ 59)
    (hf : Fr v.ownBlock.toList w w') : RcvAt w' b m c := by
  obtain ⟨M, hm, _⟩ := h.map
  refine h.fr hf (fun hb => hown.ne h.blk h1 (Option.mem_toList.1 hb) rfl) (fun hb => hown.ne_map hm (Option.mem_toList.1 hb) rfl) (fun s hs arr fz e1 => ?_)
  rcases hown.2 with ⟨e2, _⟩ | ⟨g', cap2, cur, e2, _, hh, _⟩
  · rw [e2] at hs; simp [Value.ownBlock] at hs
  · rw [e2] at hs
    simp [Value.ownBlock] at hs
    subst hs
    rw [hh] at e1
    injection e1 with e1
    injection e1 with _ e1
    exact h2 e1
theorem grown_fr {w w' : World} {row : Option Nat} (h : w.grownBy w' row) : Fr row.toList w w' := (Fr.refl _ _).grown h (fun _ hg => .inl (Option.mem_toList.2 hg))

/-- At the head of each round. -/
structure MissRel (w : World) (b m : Nat) (c : Gm.Rcv) (k : Nat) (v : Value) (wr : World) : Prop where
  rcv : RcvAt wr b m c
  row : OwnL 53 2 encS wr v (Gm.missing c.L c.pos k)
  new : ∀ g, v.ownBlock = some g → w.heap.size ≤ g
  fr : Fr [] w wr
  le : c.pos + k ≤ c.high

theorem missing_nil (w : World) : Calls Try.prog 18 #[.pointer none] w fun e w' => e = .returned (.slice none 0 0) ∧ w = w' := by
  go_enter Try.func18, Try.ntmps18
  go_wp2
  go_ret
  exact ⟨rfl, rfl⟩

theorem missing_any (b m : Nat) (c : Gm.Rcv) (w : World) (h : RcvAt w b m c) : Calls Try.prog 18 #[.pointer (some ⟨b, 0, none⟩)] w fun e w' =>
    ∃ v, (e = .returned v ∧ OwnL 53 2 encS w' v (Gm.missing c.L c.pos (c.high - c.pos).toNat)) ∧ Fr [] w w' := by
  obtain ⟨i0, z, TS⟩ := etS
  have R0 : MissRel w b m c 0 (.slice none 0 0) w := ⟨h, OwnL.nil, by simp [Value.ownBlock], Fr.refl _ _, by have := h.ok.ph; simpa using this⟩
  have hp0 := h.ok.p0
  have hph := h.ok.ph
  have hpi := h.ok.hi
  have b0 : w.cell? ⟨b, 0, none⟩ = some (.int .i64 c.pos) := h.blk.cell 0
  clear h
  go_enter Try.func18, Try.ntmps18
  go_wp2_with fail
  clear b0
  go_loopw [3, 4] (fun o p wr => ∃ k : Nat, p = .int .i64 (c.pos + 1 + k) ∧ MissRel w b m c k o wr) (fun _ p _ => (c.high + 1 - intOf p).toNat)
  case atStart => exact ⟨0, by simp, R0⟩
  case round =>
    clear R0
    obtain ⟨k, rfl, R⟩ := hrel
    obtain ⟨hr, hrow, hnew, hfr, hle⟩ := R
    have b1 : wr.cell? ⟨b, 1, none⟩ = some (.int .i64 c.high) := hr.blk.cell 1
    have b2 : wr.cell? ⟨b, 2, none⟩ = some (.map (some m)) := hr.blk.cell 2
    have hml := Lib.hid (Gm.missing_len c.L c.pos k)
    by_cases hlt : c.pos + 1 + k ≤ c.high
    · obtain ⟨M, hm, hs, hM⟩ := hr.map
      have hkey : okI (c.pos + 1 + k) := okI_mk (by omega) (by omega)
      have hgs : mget c.L (c.pos + 1 + k) = (mget M (c.pos + 1 + k)).map (·.r) := by rw [← hs, mget_shed]
      have hstep : Gm.missing c.L c.pos (k + 1) = if (mget c.L (c.pos + k + 1)).isSome = true then Gm.missing c.L c.pos k else Gm.widen (Gm.missing c.L c.pos k) (c.pos + k + 1) := rfl
      have e1 : c.pos + k + 1 = c.pos + 1 + k := by omega
      rw [e1] at hstep
      clear e1
      cases hg : mget M (c.pos + 1 + k) with
      | some u =>
        rw [hg] at hgs
        have HS : Hid (Gm.missing c.L c.pos (k + 1) = Gm.missing c.L c.pos k) := Lib.hid (by rw [hstep, hgs]; rfl)
        have hval : Hid ((if true then Value.tuple #[((mget M (c.pos + 1 + k)).map WRec.val).getD (.agg #[.int .i64 0, .slice none 0 0]), .bool (mget M (c.pos + 1 + k)).isSome] else ((mget M (c.pos + 1 + k)).map WRec.val).getD (.agg #[.int .i64 0, .slice none 0 0])) = .tuple #[.agg #[.int .i64 u.r.p, .slice u.A u.r.cs.length u.cap], .bool true]) := Lib.hid (by rw [hg]; rfl)
        clear hgs hg hstep
        go_wp2_with (at_lookup; refine wpList_vlook _ rfl _ _ true rfl tyIR m M rfl hm (c.pos + 1 + k) rfl hkey ?_; rw [hval.out])
        have f1 : Fr [] wr (wr.alloc (.cells #[.int .i64 u.r.p, .slice u.A u.r.cs.length u.cap] 34)) := (Fr.refl _ _).alloc _
        go_roundw
        case rel => exact ⟨k + 1, by go_num, hr.fr0 f1, by rw [HS.out]; exact hrow.fr f1 (by simp), hnew, hfr.trans f1, by omega⟩
        case measure => simp [intOf]; omega
      | none =>
        rw [hg] at hgs
        have HS : Hid (Gm.missing c.L c.pos (k + 1) = Gm.widen (Gm.missing c.L c.pos k) (c.pos + 1 + k)) := Lib.hid (by rw [hstep, hgs]; rfl)
        have hval : Hid ((if true then Value.tuple #[((mget M (c.pos + 1 + k)).map WRec.val).getD (.agg #[.int .i64 0, .slice none 0 0]), .bool (mget M (c.pos + 1 + k)).isSome] else ((mget M (c.pos + 1 + k)).map WRec.val).getD (.agg #[.int .i64 0, .slice none 0 0])) = .tuple #[.agg #[.int .i64 0, .slice none 0 0], .bool false]) := Lib.hid (by rw [hg]; rfl)
        clear hgs hg hstep
        have hmlen := hml.out
        generalize Gm.missing c.L c.pos k = l at *
        have f1 : Fr [] wr (wr.alloc (.cells #[.int .i64 0, .slice none 0 0] 34)) := (Fr.refl _ _).alloc _
        have hrow1 := hrow.fr f1 (by simp)
        have hr1 := hr.fr0 f1
        have hrow2 := hrow1.fr (S := []) ((Fr.refl _ _).alloc (.cells #[.int .i64 (c.pos + 1 + k), .int .i64 (c.pos + 1 + k)] 53)) (by simp)
        rcases Nat.eq_zero_or_pos l.length with hl0 | hl0
        · obtain rfl : l = [] := List.eq_nil_of_length_eq_zero hl0
          obtain ⟨A, cap, hv⟩ := hrow.val
          subst hv
          go_wp2_with (first
            | (at_lookup; refine wpList_vlook _ rfl _ _ true rfl tyIR m M rfl hm (c.pos + 1 + k) rfl hkey ?_; rw [hval.out])
            | (at_builtin; refine wpList_appendL rfl _ _ rfl TS encS_len encS_one rfl hrow2 (wr.heap.size + 1 + 1) _ _ _ [(c.pos + 1 + k, c.pos + 1 + k)] rfl rfl (by have := reads_new (enc := encS) (wr.alloc (.cells #[.int .i64 0, .slice none 0 0] 34)) 53 (c.pos + 1 + k, c.pos + 1 + k) rfl; rw [World.size_alloc] at this; exact this) (by simp only [maxLen, List.length_singleton]; omega) (by simp only [List.length_singleton]; omega) ?_; intro v5 w5 hown5 hg5 hat5))
          have f5 := grown_fr hg5
          have f2 : Fr [] wr ((wr.alloc (.cells #[.int .i64 0, .slice none 0 0] 34)).alloc (.cells #[.int .i64 (c.pos + 1 + k), .int .i64 (c.pos + 1 + k)] 53)) := f1.alloc _
          have hr5 := (hr.fr0 f2).past_row hrow2 (by decide) (by decide) f5
          have hfr5 : Fr [] w w5 := (hfr.trans f2).trans' f5 (fun i hi => .inr (hnew i (Option.mem_toList.1 hi)))
          have hnew5 : ∀ g, v5.ownBlock = some g → w.heap.size ≤ g := fun g hg => by
            rcases hat5 with h1 | h1
            · rw [h1] at hg; exact hnew g hg
            · rw [h1] at hg
              have := (hfr.trans f2).size
              injection hg with hg
              omega
          rw [List.nil_append] at hown5
          go_roundw
          case rel => exact ⟨k + 1, by go_num, hr5, by rw [HS.out]; exact hown5, hnew5, hfr5, by omega⟩
          case measure => simp [intOf]; omega
        · obtain ⟨g, cap, hv, hcap, hcm, hgl, hcell, hfz⟩ := hrow.form encS_len hl0
          subst hv
          have h0 : wr.cell? ⟨g, (l.length - 1) * 2 + 1, none⟩ = some (.int .i64 (l[l.length - 1]'(Nat.sub_lt hl0 Nat.one_pos)).2) := hcell (l.length - 1) (Nat.sub_lt hl0 Nat.one_pos) 1 (by decide)
          have hz := hfz ((l.length - 1) * 2 + 1)
          obtain ⟨x, y, hxy⟩ : ∃ x y, l[l.length - 1]'(Nat.sub_lt hl0 Nat.one_pos) = (x, y) := ⟨_, _, rfl⟩
          rw [hxy] at h0
          have HXY := Lib.hid hxy
          clear hxy hcell hfz
          have hpos : (0 : Int) < l.length := by omega
          by_cases ht : y = c.pos + 1 + k - 1
          · have HW : Hid (Gm.widen l (c.pos + 1 + k) = l.set (l.length - 1) (x, c.pos + 1 + k)) := Lib.hid (Gm.widen_touch hl0 HXY.out ht)
            have hd : (y == c.pos + 1 + k - 1) = true := by simpa using ht
            have HT := Lib.hid ht
            clear ht
            go_wp2_with (first
              | (at_lookup; refine wpList_vlook _ rfl _ _ true rfl tyIR m M rfl hm (c.pos + 1 + k) rfl hkey ?_; rw [hval.out]))
            have hset := hrow.set (g := g) (i := l.length - 1) (j := 1) encS_len rfl (Nat.sub_lt hl0 Nat.one_pos) (by decide) (.int .i64 (c.pos + 1 + k)) (x, c.pos + 1 + k) (by rw [HXY.out]; rfl)
            have f4 : Fr (Value.slice (some ⟨g, 0, none⟩) l.length cap).ownBlock.toList wr (wr.setCell ⟨g, (l.length - 1) * 2 + 1, none⟩ (.int .i64 (c.pos + 1 + k))) := (Fr.refl _ _).setCell (.inl (by simp [Value.ownBlock])) _
            have f5 : Fr [] (wr.setCell ⟨g, (l.length - 1) * 2 + 1, none⟩ (.int .i64 (c.pos + 1 + k))) ((wr.setCell ⟨g, (l.length - 1) * 2 + 1, none⟩ (.int .i64 (c.pos + 1 + k))).alloc (.cells #[.int .i64 0, .slice none 0 0] 34)) := (Fr.refl _ _).alloc _
            have hr5 := (hr.past_row hrow (by decide) (by decide) f4).fr0 f5
            have hfr5 := (hfr.trans' f4 (fun i hi => .inr (hnew i (Option.mem_toList.1 hi)))).trans f5
            replace hset := hset.fr f5 (by simp)
            go_roundw
            case rel => exact ⟨k + 1, by go_num, hr5, by rw [HS.out, HW.out]; simpa [OwnL] using hset, hnew, hfr5, by omega⟩
            case measure => simp [intOf]; omega
          · have HW : Hid (Gm.widen l (c.pos + 1 + k) = l ++ [(c.pos + 1 + k, c.pos + 1 + k)]) := Lib.hid (Gm.widen_apart hl0 HXY.out ht)
            have hd : (y == c.pos + 1 + k - 1) = false := by simpa using ht
            have HT := Lib.hid ht
            clear ht
            go_wp2_with (first
              | (at_lookup; refine wpList_vlook _ rfl _ _ true rfl tyIR m M rfl hm (c.pos + 1 + k) rfl hkey ?_; rw [hval.out])
              | (at_builtin; refine wpList_appendL rfl _ _ rfl TS encS_len encS_one rfl hrow2 (wr.heap.size + 1 + 1) _ _ _ [(c.pos + 1 + k, c.pos + 1 + k)] rfl rfl (by have := reads_new (enc := encS) (wr.alloc (.cells #[.int .i64 0, .slice none 0 0] 34)) 53 (c.pos + 1 + k, c.pos + 1 + k) rfl; rw [World.size_alloc] at this; exact this) (by simp only [maxLen, List.length_singleton]; omega) (by simp only [List.length_singleton]; omega) ?_; intro v5 w5 hown5 hg5 hat5))
            have f5 := grown_fr hg5
            have f2 : Fr [] wr ((wr.alloc (.cells #[.int .i64 0, .slice none 0 0] 34)).alloc (.cells #[.int .i64 (c.pos + 1 + k), .int .i64 (c.pos + 1 + k)] 53)) := f1.alloc _
            have hr5 := (hr.fr0 f2).past_row hrow2 (by decide) (by decide) f5
            have hfr5 : Fr [] w w5 := (hfr.trans f2).trans' f5 (fun i hi => .inr (hnew i (Option.mem_toList.1 hi)))
            have hnew5 : ∀ g, v5.ownBlock = some g → w.heap.size ≤ g := fun g hg => by
              rcases hat5 with h1 | h1
              · rw [h1] at hg; exact hnew g hg
              · rw [h1] at hg
                have := (hfr.trans f2).size
                injection hg with hg
                omega
            go_roundw
            case rel => exact ⟨k + 1, by go_num, hr5, by rw [HS.out, HW.out]; exact hown5, hnew5, hfr5, by omega⟩
            case measure => simp [intOf]; omega
    · have hk : Hid ((c.high - c.pos).toNat = k) := Lib.hid (by omega)
      go_wp2_with fail
      go_ret
      rw [hk.out]
      exact ⟨⟨_, rfl, hrow⟩, hfr⟩
end Go.Proofs.Ytfbhdmppddledaa

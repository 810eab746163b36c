/-
  GapOrder holds: what is taken over all calls follows the position without a gap and without a repetition.
-/
import Derived.Test.YtlolinaggobbdaaGapI
namespace Go.Proofs.Ytlolinaggobbdaa
open Go.RowKit Go.WideShapes Go.ChangeShapes

/-- The waiting records are those of their positions. -/
def Gm.Recs (L : List (Int × Rec)) : Prop := ∀ e ∈ L, e.2 = recOf e.1
theorem Gm.Recs.put {L : List (Int × Rec)} (h : Gm.Recs L) (p : Int) : Gm.Recs (mput L p (recOf p)) := fun e he => by
  rcases mem_mput.1 he with rfl | ⟨he, _⟩
  · rfl
  · exact h e he
theorem Gm.Recs.del {L : List (Int × Rec)} (h : Gm.Recs L) (p : Int) : Gm.Recs (mdel L p) := fun e he => h e (mem_mdel.1 he).1
theorem Gm.Recs.receive {c : Gm.Rcv} (h : Gm.Recs c.L) (p : Int) : Gm.Recs (Gm.receive c (recOf p)).L ∧ (Gm.receive c (recOf p)).pos = c.pos := by
  unfold Gm.receive Gm.kept
  split
  · refine ⟨?_, rfl⟩
    dsimp only
    split
    · exact h.put p
    · exact h
  · exact ⟨h, rfl⟩
theorem Gm.take_spec (n : Nat) : ∀ c : Gm.Rcv, Gm.Ok c → Gm.Recs c.L → ∃ j : Nat, (Gm.take n c).1 = (List.range j).map (fun (k : Nat) => recOf (c.pos + 1 + k)) ∧ (Gm.take n c).2.pos = c.pos + j ∧ Gm.Ok (Gm.take n c).2 ∧ Gm.Recs (Gm.take n c).2.L ∧ (Gm.take n c).2.high = c.high := by
  induction n with
  | zero => intro c hok hr; exact ⟨0, rfl, by simp [Gm.take], hok, hr, rfl⟩
  | succ n ih =>
    intro c hok hr
    cases hg : mget c.L (c.pos + 1) with
    | none => rw [Gm.take_none hg]; exact ⟨0, rfl, by simp, hok, hr, rfl⟩
    | some r =>
      obtain ⟨e1, e2, _⟩ := hok.next hg
      have hrr : r = recOf (c.pos + 1) := hr _ ((mget_iff hok.nd).1 hg)
      obtain ⟨j, h1, h2, h3, h4, h5⟩ := ih ⟨r.p, c.high, mdel c.L r.p⟩ e2 (hr.del _)
      rw [Gm.take_some hg]
      refine ⟨j + 1, ?_, ?_, h3, h4, h5⟩
      · dsimp only
        rw [h1, List.range_succ_eq_map, List.map_cons, List.map_map]
        congr 1
        · rw [hrr]; simp
        · refine List.map_congr_left fun k _ => ?_
          show recOf (r.p + 1 + k) = recOf (c.pos + 1 + ((k + 1 : Nat) : Int))
          rw [e1]
          congr 1
          omega
      · dsimp only at h2 ⊢
        rw [h2, e1]
        omega

theorem Gm.take_len (n : Nat) : ∀ c : Gm.Rcv, (Gm.take n c).1.length ≤ n := by
  induction n with
  | zero => intro c; simp [Gm.take]
  | succ n ih =>
    intro c
    cases hg : mget c.L (c.pos + 1) with
    | none => rw [Gm.take_none hg]; simp
    | some r =>
      rw [Gm.take_some hg]
      exact Nat.succ_le_succ (ih _)

/-- At the head of each round over what has been taken. -/
structure TakenRel (W : World) (b m : Nat) (c : Gm.Rcv) (v : Value) (out : List Rec) (wr : World) : Prop where
  rcv : RcvAt wr b m c
  row : OwnR wr v out
  fr : Fr [] W wr

/-- At the head of each round. -/
structure OrdRel (W : World) (b m : Nat) (c : Gm.Rcv) (wr : World) : Prop where
  rcv : RcvAt wr b m c
  recs : Gm.Recs c.L
  fr : Fr [] W wr
  hb : W.heap.size ≤ b
  hm : W.heap.size ≤ m

set_option maxRecDepth 100000 in
set_option maxHeartbeats 2000000 in
theorem order_walk (x0 : Int) (A1 : Option Addr) (n1 cap1 : Nat) (xs : List Int) (A2 : Option Addr) (n2 cap2 : Nat) (ys : List Bool) (W : World) (wx0 : okI x0)
    (hn1 : xs.length = n1) (hmax1 : n1 ≤ maxLen) (hx1 : n1 = 0 ∨ ∃ b off, A1 = some ⟨b, off, none⟩ ∧ IntsAt W b off xs)
    (hn2 : ys.length = n2) (hmax2 : n2 ≤ maxLen) (hx2 : n2 = 0 ∨ ∃ b off, A2 = some ⟨b, off, none⟩ ∧ BoolsAt W b off ys) :
    Calls Try.prog 3 #[.int .i64 x0, .slice A1 n1 cap1, .slice A2 n2 cap2] W fun e W' => e = .returned (.bool true) ∧ Below W.heap.size W W' := by
  unfold maxLen at hmax1 hmax2
  have hb0 := okI_bounds wx0
  have hp1 := pickI_nonneg x0 (n := 9001) (by decide)
  have hp2 := pickI_lt x0 (n := 9001) (by decide)
  have HN1 := Lib.hid hn1
  have HN2 := Lib.hid hn2
  have HX1 := Lib.hid hx1
  have HX2 := Lib.hid hx2
  clear hn1 hn2 hx1 hx2
  go_enter Try.func3, Try.ntmps3
  go_wp2_with fail
  refine (sane_any _).mono ?_
  rintro e w1 ⟨rfl, f1⟩
  go_wp2_with fail
  refine (pick_any x0 9001 _ hb0.1 hb0.2 (by decide) (by decide)).mono ?_
  rintro e w' ⟨rfl, rfl⟩
  generalize pickI x0 9001 = p at *
  go_wp2_with fail
  refine (gnew_any p _ (by omega) (by omega)).mono ?_
  rintro e w2 ⟨rfl, h2, f2⟩
  have hwb : W.heap.size ≤ w1.heap.size := f1.size
  have R0 : OrdRel W (w1.heap.size + 1) w1.heap.size (Gm.new p) w2 := ⟨h2, by intro e he; simp [Gm.new] at he, f1.trans f2, by omega, by omega⟩
  have hpp : (Gm.new p).pos = p := rfl
  generalize Gm.new p = c0 at R0 hpp
  generalize w1.heap.size + 1 = b at *
  generalize w1.heap.size = m at *
  clear f1 f2 h2 hwb wx0 hb0
  go_wp2_with fail
  go_loopw [10, 11] (fun nx i wr => ∃ (k : Nat) (c : Gm.Rcv), k ≤ n1 ∧ k ≤ 150 ∧ i = .int .i64 k ∧ nx = .int .i64 (c.pos + 1) ∧ OrdRel W b m c wr) (fun _ i _ => n1 - (intOf i).toNat)
  case atStart => exact ⟨0, c0, Nat.zero_le _, Nat.zero_le _, rfl, by rw [hpp], R0⟩
  case round =>
    clear R0 hpp
    obtain ⟨k, c, hk, hk150, rfl, rfl, R⟩ := hrel
    have hmb : W.heap.size ≤ b ∧ W.heap.size ≤ m := ⟨R.hb, R.hm⟩
    by_cases hlt : k < n1 ∧ k < 150
    · obtain ⟨hlt1, hlt2⟩ := hlt
      obtain ⟨b1, o1, e1, hxa⟩ : ∃ b off, A1 = some ⟨b, off, none⟩ ∧ IntsAt W b off xs := by
        rcases HX1.out with h | h
        · omega
        · exact h
      subst e1
      have hc := (hxa.fr R.fr).cell k (by rw [HN1.out]; exact hlt1)
      have hwx := okI_bounds (hxa.wf _ (List.getElem_mem (by rw [HN1.out]; exact hlt1)))
      generalize xs[k]'(by rw [HN1.out]; exact hlt1) = x at hc hwx
      go_wp2_with fail
      refine (pick_any x 80 _ hwx.1 hwx.2 (by decide) (by decide)).mono ?_
      rintro e w' ⟨rfl, rfl⟩
      have hq1 := pickI_nonneg x (n := 80) (by decide)
      have hq2 := pickI_lt x (n := 80) (by decide)
      generalize pickI x 80 = q at *
      go_wp2_with fail
      refine (record_any (p + q) _).mono ?_
      rintro e w3 ⟨rfl, hc3, f3⟩
      have h3 := R.rcv.fr0 f3
      go_wp2_with fail
      refine (recv_any b m c (p + q) _ _ h3 hc3).mono ?_
      rintro e w4 ⟨rfl, h4, f4⟩
      obtain ⟨hr4, hp4⟩ := R.recs.receive (p + q)
      have F4 : Fr [] W w4 := (R.fr.trans f3).trans' f4 (by simp; omega)
      generalize Gm.receive c (recOf (p + q)) = c4 at *
      have hcb1 : 0 ≤ c.pos := by have := h4.ok.p0; omega
      have hcb2 : c.pos ≤ 10000 := by have := h4.ok.ph; have := h4.ok.hi; omega
      have HP4 := Lib.hid hp4
      have hcp := h4.ok.p0
      have hci := Int.le_trans h4.ok.ph h4.ok.hi
      clear f3 f4 hc3 h3 hp4 R hc hp1 hp2
      have hskip : (k < n2 ∧ ∃ b2 o2, A2 = some ⟨b2, o2, none⟩ ∧ w4.cell? ⟨b2, o2 + k, none⟩ = some (.bool false)) ∨ (k < n2 ∧ ∃ b2 o2, A2 = some ⟨b2, o2, none⟩ ∧ w4.cell? ⟨b2, o2 + k, none⟩ = some (.bool true)) ∨ n2 ≤ k := by
        by_cases hk2 : k < n2
        · obtain ⟨b2, o2, e2, hy⟩ : ∃ b off, A2 = some ⟨b, off, none⟩ ∧ BoolsAt W b off ys := by
            rcases HX2.out with h | h
            · omega
            · exact h
          have hcy := (hy.fr F4).cell k (by rw [HN2.out]; exact hk2)
          cases hv : ys[k]'(by rw [HN2.out]; exact hk2)
          · exact .inl ⟨hk2, b2, o2, e2, by rw [hcy, hv]⟩
          · exact .inr (.inl ⟨hk2, b2, o2, e2, by rw [hcy, hv]⟩)
        · exact .inr (.inr (by omega))
      have hcon : ∀ (w9 : World) (c9 : Gm.Rcv), RcvAt w9 b m c9 → Gm.Recs c9.L → Fr [] W w9 → OrdRel W b m c9 w9 := fun w9 c9 a1 a2 a3 => ⟨a1, a2, a3, hmb.1, hmb.2⟩
      rcases hskip with ⟨hk2, b2, o2, e2, hcy⟩ | hskip
      · subst e2
        have RR := hcon w4 c4 h4 hr4 F4
        go_wp2_with fail
        go_roundw
        case rel => exact ⟨k + 1, c4, by omega, by omega, by go_num, by rw [HP4.out], RR⟩
        case measure => simp [intOf]; omega
      obtain ⟨j, t1, t2, t3, t4, t5⟩ := Gm.take_spec c4.L.length c4 h4.ok hr4
      have hjl : j ≤ 256 := by
        have h6 := t3.ph
        have h7 := t3.hi
        have := h4.ok.p0
        have h8 : (Gm.take c4.L.length c4).1.length = j := by rw [t1]; simp
        have h9 := h4.ok.len
        have := Gm.take_len c4.L.length c4
        omega
      have hj2 : c4.pos + j ≤ 10000 := by have h6 := t3.ph; have h7 := t3.hi; rw [t2] at h6; omega
      rcases hskip with ⟨hk2, b2, o2, e2, hcy⟩ | hge
      all_goals try subst e2
      all_goals
        go_wp2_with fail
        refine (take_any b m c4 _ h4).mono ?_
        rintro e w5 ⟨v, ⟨rfl, hv⟩, h5, f5⟩
        generalize Gm.take c4.L.length c4 = T at *
        obtain ⟨out, c5⟩ := T
        dsimp only at *
        have F5 : Fr [] W w5 := F4.trans' f5 (by simp; omega)
        have hlen : out.length = j := by rw [t1]; simp
        obtain ⟨A5, n5, cap5, hv5⟩ : ∃ A n cap, v = .slice A n cap := by
          obtain ⟨us, hu, _⟩ := hv
          obtain ⟨A, cap, h6⟩ := hu.val
          exact ⟨A, _, cap, h6⟩
        subst hv5
        have hn5 : n5 = j := by
          obtain ⟨us, _, h6, h7, _⟩ := hv.at1
          rw [h6, ← hlen, ← h7, List.length_map]
        subst hn5
        have T1 := Lib.hid t1
        have T2 := Lib.hid t2
        have HLEN := Lib.hid hlen
        clear t1 t2 t5 hlen f5 h4 F4
        have R5 : TakenRel W b m c5 (.slice A5 n5 cap5) out w5 := ⟨h5, hv, F5⟩
        clear h5 hv F5
        go_wp2_with fail
        go_loopw [13, 10] (fun i nx wi => ∃ k2 : Nat, (k2 ≤ n5 ∧ i = .int .i64 k2 ∧ nx = .int .i64 (c.pos + 1 + k2)) ∧ TakenRel W b m c5 (.slice A5 n5 cap5) out wi) (fun i _ _ => n5 - (intOf i).toNat)
        case atStart => exact ⟨0, ⟨Nat.zero_le _, rfl, by simp⟩, R5⟩
        case round =>
          clear R5
          obtain ⟨k2, ⟨hkk, rfl, rfl⟩, R6⟩ := hrel
          by_cases hl2 : k2 < n5
          · obtain ⟨us, ha, hnn, hmap, hks⟩ := R6.row.at1
            have HNN := Lib.hid hnn
            clear hnn
            obtain ⟨b6, o6, e6, hb6, hc6⟩ := ha (by rw [← HNN.out]; omega)
            subst e6
            have hki : k2 < us.length := by rw [← HNN.out]; exact hl2
            have hu : us[k2].r = recOf (c.pos + 1 + k2) := by
              have h1 : (us.map (·.r))[k2]? = out[k2]? := by rw [hmap]
              rw [T1.out, List.getElem?_map, List.getElem?_map, List.getElem?_eq_getElem hki, List.getElem?_range (by omega)] at h1
              have h2 : us[k2].r = recOf (c4.pos + 1 + k2) := by simpa using h1
              rw [h2, HP4.out]
            have hk3 := (hks _ (List.getElem_mem hki)).1
            have d0 := Lib.hid (hc6 k2 hki 0 (by decide))
            have d1 := Lib.hid (hc6 k2 hki 1 (by decide))
            generalize us[k2] = u at hu hk3 d0 d1
            obtain ⟨r, A6, cap6⟩ := u
            dsimp only at hu hk3
            subst hu
            have c0 : wr.cell? ⟨b6, o6 + k2 * 2, none⟩ = some (.int .i64 (c.pos + 1 + k2)) := d0.out
            have c1 : wr.cell? ⟨b6, o6 + k2 * 2 + 1, none⟩ = some (.slice A6 1 cap6) := d1.out
            have fd : Fr [] wr wr.drew := (Fr.refl _ _).drew
            have hk4 := hk3.fr fd (by simp)
            clear d0 d1 hc6 ha hks hmap hk3
            go_wp2_with fail
            go_region_held3 (fun w' => w'.cell? ⟨b6, o6 + k2 * 2, none⟩ = some (.int .i64 (c.pos + 1 + k2)) ∧ w'.cell? ⟨b6, o6 + k2 * 2 + 1, none⟩ = some (.slice A6 1 cap6))
              (first | go_keep | exact ⟨(hcc _ _ hb6).trans c0, (hcc _ _ hb6).trans c1⟩ | exact ⟨(hcc2 _ _ hb7).trans ((hcc _ _ hb6).trans c0), (hcc2 _ _ hb7).trans ((hcc _ _ hb6).trans c1)⟩)
              (first
                | (go_at_call 10; refine (record_any (c.pos + 1 + k2) _).mono ?_; rintro e w7 ⟨rfl, hc7, f7⟩; obtain ⟨hcc, hff⟩ := f7.rules; have hb7 := Nat.lt_of_lt_of_le hb6 f7.size)
                | (go_at_call 12; refine (same_any (recOf (c.pos + 1 + k2)) (recOf (c.pos + 1 + k2)) A6 _ cap6 1 _ (hk4.fr f7 (by simp)) hc7.1 (by simp [recOf]) (by simp [recOf])).mono ?_; rintro e w8 ⟨he, f8⟩; rw [Rw.same_self] at he; subst he; obtain ⟨hcc2, hff2⟩ := f8.rules))
            have F8 : Fr [] wr w8 := (fd.trans f7).trans f8
            have R8 : TakenRel W b m c5 (.slice (some ⟨b6, o6, none⟩) n5 cap5) out w8 := ⟨R6.rcv.fr0 F8, R6.row.keep0 F8, R6.fr.trans F8⟩
            clear R6 F8 f7 f8 hcc hff hcc2 hff2 hc7 hk4 fd c0 c1
            go_wp2_with fail
            go_roundw
            case rel => exact ⟨k2 + 1, ⟨by omega, by go_num, by go_num⟩, R8⟩
            case measure => simp [intOf]; omega
          · obtain rfl : k2 = n5 := by omega
            have hr6 := R6.rcv
            have hd : (c5.pos != c.pos + 1 + k2 - 1) = false := by
              have h1 := T2.out
              have h2 := HP4.out
              simp
              omega
            have hnl : ¬ c5.high < c5.pos := by have := hr6.ok.ph; omega
            have hnx : c5.pos + 1 = c.pos + 1 + k2 := by
              have h1 := T2.out
              have h2 := HP4.out
              omega
            have HNX := Lib.hid hnx
            have RR := hcon wr c5 hr6 t4 R6.fr
            clear hnx R6
            go_wp2_with fail
            refine (position_any b m c5 _ hr6).mono ?_
            rintro e w' ⟨rfl, rfl⟩
            go_wp2_with fail
            refine (highest_any b m c5 _ hr6).mono ?_
            rintro e w' ⟨rfl, rfl⟩
            go_wp2_with fail
            refine (position_any b m c5 _ hr6).mono ?_
            rintro e w' ⟨rfl, rfl⟩
            go_wp2_with fail
            go_roundw
            case rel => exact ⟨k + 1, c5, by omega, by omega, by go_num, by rw [HNX.out], RR⟩
            case measure => simp [intOf]; omega
    · go_wp2_with fail
      all_goals
        go_ret
        exact ⟨rfl, R.fr.below⟩

theorem order_law : LawWalk 3 Try.f3 := by
  intro H enc W base args ds p hval0 hA0 hlt hsz
  have hval : ∀ (j : Nat) t v, Try.f3.params[j]? = some t → args[j]? = some v → Value.okWide Try.prog W .any base t v := hval0
  have hA : DataW.TrodAll enc Try.prog W 0 (fun _ => true) true Try.f3.params.toList args.toList ds p := hA0
  clear hA0 hval0 hsz
  rw [Try.params3] at hA hval
  obtain ⟨v0, vs0, d0, ds0, p0, q0, hargs, rfl, rfl, h0, r0⟩ := trodAll_cons hA
  obtain ⟨v1, vs1, d1, ds1, p1, q1, rfl, rfl, rfl, h1, r1⟩ := trodAll_cons r0
  obtain ⟨v2, vs2, d2, ds2, p2, q2, rfl, rfl, rfl, h2, r2⟩ := trodAll_cons r1
  obtain ⟨rfl, rfl, rfl⟩ := trodAll_nil r2
  obtain rfl : args = #[v0, v1, v2] := by cases args; simp_all
  obtain ⟨x0, rfl, rfl, rfl, wx0⟩ := open_int Try.underlying3 (hval 0 _ v0 rfl rfl) h0
  obtain ⟨A1, n1, cap1, xs1, rfl, hn1, hmax1, hx1⟩ := open_intsAt (hval 1 _ v1 rfl rfl) h1
  obtain ⟨A2, n2, cap2, xs2, rfl, hn2, hmax2, hx2⟩ := open_boolsAt (hval 2 _ v2 rfl rfl) h2
  exact order_walk x0 A1 n1 cap1 xs1 A2 n2 cap2 xs2 W wx0 hn1 hmax1 hx1 hn2 hmax2 hx2

theorem order_lifted (os : Os) (started : os.Started) (H : Type) (enc : TypeId × Value → H) :
    ReturnsInHanded {} Try.checked os 3 .any (Rows.gapOrderSpec.pre6 enc Try.prog Try.f3 Rows.gapOrderRow.domain false) (Rows.gapOrderSpec.post enc Try.prog Try.f3 false true false false) :=
  law_lifted (s := Rows.gapOrderSpec) (conds := Rows.gapOrderRow.domain) Try.func3 (by kernel_rfl) rfl rfl
    (by
      rw [Try.params3]
      intro t ht
      simp only [List.mem_cons, List.not_mem_nil, or_false] at ht
      rcases ht with rfl | rfl | rfl
      all_goals exact ⟨by kernel_rfl, of_decide_eq_true (by kernel_rfl)⟩)
    (fun H ds h => by
      match ds, h with
      | [d0, d1, d2], _ => exact ⟨rfl, rfl, rfl⟩) order_law os started H enc
    (ChangeSpec.witness6 (enc := enc) (C := Try.checked) false ⟨#[], #[.int .i64 0, .slice none 0 0, .slice none 0 0], []⟩ 8 (by kernel_rfl) (by kernel_rfl) (by kernel_rfl) (by kernel_rfl))

theorem order_holds : Rows.GapOrderSaid :=
  OpenClaim.holds_of_wide 3 Try.f3 rfl rfl rfl rfl rfl rfl rfl ⟨rfl, rfl, rfl, rfl, rfl⟩ rfl rfl rfl rfl rfl (by kernel_rfl) Try.func3 (by kernel_rfl)
    (of_decide_eq_true (by kernel_rfl)) (by unfold Func.isWrapper; rw [if_neg (of_decide_eq_false (by kernel_rfl))]; exact ⟨rfl, rfl⟩)
    (fun os started H enc _ => order_lifted os started H enc)
#print axioms order_holds

end Go.Proofs.Ytlolinaggobbdaa

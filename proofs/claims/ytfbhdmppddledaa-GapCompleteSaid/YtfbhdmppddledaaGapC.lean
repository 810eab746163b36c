/-
  'Receive'.
-/
import Derived.Test.YtfbhdmppddledaaGapB
import Derived.StillTailTactics
namespace Go.Proofs.Ytfbhdmppddledaa
open Go.RowKit

theorem Rw.valid_facts {r : Rec} (h : Rw.valid r = true) : 1 ≤ r.p ∧ r.p ≤ 10000 ∧ 1 ≤ r.cs.length ∧ r.cs.length ≤ 8 := by
  simp only [Rw.valid, Rw.inI, Bool.and_eq_true, decide_eq_true_eq] at h
  omega
theorem nd_shed {M : List (Int × WRec)} : Nd (shed M) ↔ Nd M := by
  unfold Nd shed
  rw [List.pairwise_map]
theorem Gm.Ok.keep {c : Gm.Rcv} (h : Gm.Ok c) {r : Rec} (h1 : c.pos < r.p) (h2 : r.p ≤ c.high) (h3 : r.p - c.pos ≤ 256) : Gm.Ok ⟨c.pos, c.high, mput c.L r.p r⟩ := by
  refine ⟨h.p0, h.ph, h.hi, fun e he => ?_, h.nd.put _ _⟩
  rcases mem_mput.1 he with rfl | ⟨he, _⟩
  · exact ⟨rfl, h1, h2, h3⟩
  · exact h.key e he
theorem length_le_of_nodup : ∀ (n : Nat) (l : List Int) (a : Int), l.Nodup → (∀ x ∈ l, a < x ∧ x ≤ a + n) → l.length ≤ n := by
  intro n
  induction n with
  | zero =>
    intro l a _ h
    cases l with
    | nil => simp
    | cons x l => have := h x (by simp); omega
  | succ n ih =>
    intro l a hn h
    have h1 := ih (l.filter fun x => decide (x ≠ a + n + 1)) a (hn.filter _) (fun x hx => by
      obtain ⟨hx, hne⟩ := List.mem_filter.1 hx
      have := h x hx
      simp at hne
      omega)
    have h2 : l.length ≤ (l.filter fun x => decide (x ≠ a + n + 1)).length + 1 := by
      clear ih h h1
      induction l with
      | nil => simp
      | cons x l ih =>
        obtain ⟨hx, hn⟩ := List.nodup_cons.1 hn
        by_cases e : x = a + n + 1
        · rw [List.filter_cons_of_neg (by simpa using e), List.filter_eq_self.2]
          · simp
          · intro y hy
            simp
            intro e2
            exact hx (by rw [e, ← e2]; exact hy)
        · rw [List.filter_cons_of_pos (by simpa using e)]
          have := ih hn
          simp only [List.length_cons]
          omega
    omega
theorem Gm.Ok.len {c : Gm.Rcv} (h : Gm.Ok c) : c.L.length ≤ 256 := by
  have h1 : (c.L.map (·.1)).Nodup := by
    unfold List.Nodup
    rw [List.pairwise_map]
    exact h.nd
  have h3 := length_le_of_nodup 256 _ c.pos h1 (fun x hx => by
    obtain ⟨e, he, rfl⟩ := List.mem_map.1 hx
    obtain ⟨_, k2, _, k4⟩ := h.key e he
    omega)
  simpa using h3

theorem Gm.kept_no {c : Gm.Rcv} {r : Rec} (h : Gm.keeps c r = false) : Gm.kept c r = c := by
  unfold Gm.kept
  rw [h]
  rfl
theorem Gm.kept_yes {c : Gm.Rcv} {r : Rec} (h : Gm.keeps c r = true) : Gm.kept c r = ⟨c.pos, c.high, mput c.L r.p r⟩ := by
  unfold Gm.kept
  rw [if_pos h]
set_option maxRecDepth 100000 in
/-- The closure of 'Receive'. -/
theorem keep_any (b m bx br cap : Nat) (c : Gm.Rcv) (r : Rec) (A : Option Addr) (w : World) (h : RcvAt w b m c) (hx : w.cell? ⟨bx, 0, none⟩ = some (.pointer (some ⟨b, 0, none⟩)))
    (hr : Blk w br 34 #[.int .i64 r.p, .slice A r.cs.length cap]) (hc : ChgsAt w A r.cs) (hbx : bx ≠ br) (hv : Rw.valid r = true) (h1 : c.pos < r.p) (h2' : r.p ≤ c.high) :
    Calls Try.prog 29 #[.pointer (some ⟨bx, 0, none⟩), .pointer (some ⟨br, 0, none⟩)] w fun e w' =>
      e = .returned (.bool (Gm.keeps c r)) ∧ RcvAt w' b m (Gm.kept c r) ∧ Fr [b, m, br] w w' := by
  obtain ⟨v1, v2, v3, v4⟩ := Rw.valid_facts hv
  obtain ⟨M, hm, hs, hM⟩ := h.map
  have hpos0 := h.ok.p0
  have hok : okI r.p := okI_mk (by omega) (by omega)
  have hbr := hr.lt
  obtain ⟨hlb, hlm⟩ := h.lt
  have hlx := World.block_lt_of_cell? w _ hx
  have b2 : w.cell? ⟨b, 2, none⟩ = some (.map (some m)) := h.blk.cell 2
  have b0 : w.cell? ⟨b, 0, none⟩ = some (.int .i64 c.pos) := h.blk.cell 0
  have r0 := hr.cell 0
  have r1 := hr.cell 1
  have hkeep : Hid (Gm.keeps c r = ((mget M r.p).isNone && decide (r.p - c.pos ≤ 256))) := Lib.hid (by
    unfold Gm.keeps
    rw [← hs, mget_shed]
    simp)
  cases hg : mget M r.p with
  | some u =>
    have hlook : (Instr.lookup 66 (.map (some m)) (.int .i64 r.p) true).run Try.prog w.drew = .ok (.tuple #[u.val, .bool true]) w.drew := by
      have h1 := VMap.look tyIR hm.drew r.p hok true
      rw [h1, hg]
      rfl
    have hlook2 : ∀ o, (Instr.lookup 66 (.map (some m)) (.int .i64 r.p) true).run Try.prog (w.alloc o).drew = .ok (.tuple #[u.val, .bool true]) (w.alloc o).drew := by
      intro o
      have h1 := VMap.look tyIR (hm.alloc o).drew r.p hok true
      rw [h1, hg]
      rfl
    have HK : Hid (Gm.keeps c r = false) := Lib.hid (by rw [hkeep.out, hg]; rfl)
    clear hg
    go_enter Try.func29, Try.ntmps29
    go_wp2_with fail
    go_region
    go_wp2_with fail
    go_quiet (fail)
    go_wp2_with fail
    go_ret
    refine ⟨by rw [HK.out]; rfl, ?_, (((Fr.refl _ _).alloc _).drew).drewN _⟩
    rw [Gm.kept_no HK.out]
    exact h.fr0 ((((Fr.refl _ _).alloc _).drew).drewN _)
  | none =>
    have hlook : (Instr.lookup 66 (.map (some m)) (.int .i64 r.p) true).run Try.prog w.drew = .ok (.tuple #[.agg #[.int .i64 0, .slice none 0 0], .bool false]) w.drew := by
      have h1 := VMap.look tyIR hm.drew r.p hok true
      rw [h1, hg]
      rfl
    have hlook2 : ∀ o, (Instr.lookup 66 (.map (some m)) (.int .i64 r.p) true).run Try.prog (w.alloc o).drew = .ok (.tuple #[.agg #[.int .i64 0, .slice none 0 0], .bool false]) (w.alloc o).drew := by
      intro o
      have h1 := VMap.look tyIR (hm.alloc o).drew r.p hok true
      rw [h1, hg]
      rfl
    by_cases hfar : r.p - c.pos ≤ 256
    · have HK : Hid (Gm.keeps c r = true) := Lib.hid (by rw [hkeep.out, hg]; simp [hfar])
      clear hg
      have hd : ¬ 256 < r.p - c.pos := by omega
      go_enter Try.func29, Try.ntmps29
      go_wp2_with fail
      go_region
      go_wp2_with fail
      go_quiet (fail)
      go_wp2_with fail
      have F0 : Fr [] w ((w.alloc (.cells #[.int .i64 0, .slice none 0 0] 34)).drewN (1 + nq)) := ((Fr.refl _ _).alloc _).drewN _
      generalize (w.alloc (.cells #[.int .i64 0, .slice none 0 0] 34)).drewN (1 + nq) = W at F0 ⊢
      obtain ⟨b', off, hA, hb', hcc⟩ := hc v3
      subst hA
      refine (clone_any b' off cap r.cs W (hc.fr F0 (by simp)) v3 (by omega)).mono ?_
      rintro e w1 ⟨A1, cap1, ⟨rfl, hh1⟩, f1⟩
      have F1 : Fr [] w w1 := F0.trans f1
      have hr1 := hr.fr F1 (by simp)
      have hh := h.fr0 F1
      clear F0 f1 hlook hlook2 r0 r1 b0 b2
      have b2 : w1.cell? ⟨b, 2, none⟩ = some (.map (some m)) := hh.blk.cell 2
      have x0 : w1.cell? ⟨bx, 0, none⟩ = some (.pointer (some ⟨b, 0, none⟩)) := (F1.cell hlx (by simp)).trans hx
      have r1 := hr1.cell 1
      have z1 := hr1.frozen 1
      have hbbr : b ≠ br := h.blk.ne hr (by decide)
      have hmbr : m ≠ br := hm.ne hr
      have hr2 := hr1.set_ 1 (.slice A1 r.cs.length cap1)
      go_wp2_with fail
      have f2 : Fr [br] w1 (w1.setCell ⟨br, 1, none⟩ (.slice A1 r.cs.length cap1)) := (Fr.refl _ _).setCell (.inl (by simp)) _
      have n2 : NoC w1 [br] := NoC.cons (noC_blk hr1 (by decide)) NoC.nil
      have h2 := hh.fr f2 (by simpa using hbbr) (by simpa using hmbr) n2
      have hh2 := hh1.fr f2 n2
      have F2 : Fr [b, m, br] w (w1.setCell ⟨br, 1, none⟩ (.slice A1 r.cs.length cap1)) := (F1.mono (by simp)).trans (f2.mono (by simp))
      have x2 : (w1.setCell ⟨br, 1, none⟩ (.slice A1 r.cs.length cap1)).cell? ⟨bx, 0, none⟩ = some (.pointer (some ⟨b, 0, none⟩)) := (f2.cell (p := ⟨bx, 0, none⟩) (Nat.lt_of_lt_of_le hlx F1.size) (by simpa using hbx)).trans x0
      clear f2 n2 x0 hh hh1 F1 hr1 r1 z1 b2
      generalize w1.setCell ⟨br, 1, none⟩ (.slice A1 r.cs.length cap1) = W2 at *
      have b2 : W2.cell? ⟨b, 2, none⟩ = some (.map (some m)) := h2.blk.cell 2
      have r0 : W2.cell? ⟨br, 0, none⟩ = some (.int .i64 r.p) := hr2.cell 0
      have r1 : W2.cell? ⟨br, 1, none⟩ = some (.slice A1 r.cs.length cap1) := hr2.cell 1
      go_still_tail 7, (by kernel_rfl)
      have h3 : RcvAt W2.drew b m c := h2.fr0 (Fr.refl [] _).drew
      have hh3 : HoldsC W2.drew A1 r.cs := hh2.fr (Fr.refl [] _).drew NoC.nil
      have F3 : Fr [b, m, br] w W2.drew := F2.drew
      change wpList _ _ _ _ _ W2.drew
      generalize W2.drew = W3 at h3 hh3 F3 ⊢
      obtain ⟨M3, hm3, hs3, hM3⟩ := h3.map
      have hlen : M3.length < maxLen := by
        have h4 := h3.ok.len
        rw [← hs3] at h4
        simp [shed] at h4
        simp only [maxLen]
        omega
      have HS := Lib.hid hs3
      clear hs3 h2 hh2 F2 x2 b2 r0 r1 hr2
      go_wp2_with (at_mapUpdate; refine wpList_vstore _ rfl _ _ _ rfl tyIR m _ rfl hm3 r.p ⟨r, A1, cap1⟩ rfl rfl hok hlen ?_; intro w6 hm6 ht6)
      go_ret
      have f6 : Fr [m] W3 w6 := turned_fr ht6 (by simp)
      have n6 : NoC W3 [m] := NoC.cons (noC_map hm3) NoC.nil
      refine ⟨by rw [HK.out]; rfl, ?_, F3.trans (f6.mono (by simp))⟩
      rw [Gm.kept_yes HK.out]
      refine ⟨h3.blk.fr f6 (by simpa using fun e => h3.ne e.symm), ⟨_, hm6, ?_, fun e he => ?_⟩, h3.ok.keep h1 h2' hfar⟩
      · rw [← mput_shed (u := ⟨r, A1, cap1⟩), HS.out]
      · rcases mem_mput.1 he with rfl | ⟨he, _⟩
        · exact ⟨hh3.fr f6 n6, v4⟩
        · exact ⟨(hM3 e he).1.fr f6 n6, (hM3 e he).2⟩
    · have HK : Hid (Gm.keeps c r = false) := Lib.hid (by rw [hkeep.out, hg]; simp [hfar])
      clear hg
      have hd : 256 < r.p - c.pos := by omega
      go_enter Try.func29, Try.ntmps29
      go_wp2_with fail
      go_region
      go_wp2_with fail
      go_quiet (fail)
      go_wp2_with fail
      go_ret
      refine ⟨by rw [HK.out]; rfl, ?_, (((Fr.refl _ _).alloc _).drew).drewN _⟩
      rw [Gm.kept_no HK.out]
      exact h.fr0 ((((Fr.refl _ _).alloc _).drew).drewN _)
end Go.Proofs.Ytfbhdmppddledaa

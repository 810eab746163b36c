/-
  The reference's disk in memory: New, apply, Visible.
-/
import Derived.Test.YtbmakjhfoaadoaaDkS
namespace Go.Proofs.Ytbmakjhfoaadoaa
open Go.RowKit

def encB (x : UInt8) : List Value := [.int .u8 (x.toNat : Int)]
theorem encB_len (x : UInt8) : (encB x).length = 1 := rfl
theorem encB_one (x : UInt8) : ∀ u ∈ encB x, u.oneCell' = true := by
  intro u hu
  simp only [encB, List.mem_singleton] at hu
  subst hu
  rfl
theorem encB_flat (l : List UInt8) : l.flatMap encB = Lib.byteCells l := by
  induction l with
  | nil => rfl
  | cons a l ih => rw [List.flatMap_cons, ih]; rfl
theorem etB : ∃ i z, ET Try.prog 40 5 1 1 i z := by
  have h : (Try.prog.info? 5).map (fun i => (i.zero, i.size, i.bytes)) = some (some (.int .u8 0), 1, 1) := by kernel_rfl
  obtain ⟨i0, hi, hz0, hz1, hz2⟩ := info_parts h
  exact ⟨i0, _, Try.underlying40, hi, hz0, hz1, hz2, rfl, by decide⟩
theorem etC : ∃ i z, ET Try.prog 41 80 2 24 i z := by
  have h : (Try.prog.info? 80).map (fun i => (i.zero, i.size, i.bytes)) = some (some (.agg #[.int .i64 0, .string ⟨#[]⟩]), 2, 24) := by kernel_rfl
  obtain ⟨i0, hi, hz0, hz1, hz2⟩ := info_parts h
  exact ⟨i0, _, Try.underlying41, hi, hz0, hz1, hz2, rfl, by decide⟩
def refDisk (d : Dm.Dk) (sv lv : Value) : Array Value := #[sv, lv, .bool d.off, .int .i64 d.left]
/-- At block r lies the reference's disk d. -/
structure RdAt (w : World) (r : Nat) (sv lv : Value) (d : Dm.Dk) : Prop where
  blk : Blk w r 43 (refDisk d sv lv)
  sure : OwnL 5 1 encB w sv d.sure
  pend : OwnL 80 2 Dm.Wr.cells w lv d.pend
  ok : Dm.Ok d
theorem onto_set (bs s : List UInt8) (o i : Nat) (hi : i < s.length) (hf : o + s.length ≤ bs.length) : (Dm.onto bs ⟨o, s.take i⟩).set (o + i) s[i] = Dm.onto bs ⟨o, s.take (i + 1)⟩ := by
  unfold Dm.onto
  dsimp only
  apply List.ext_getElem?
  intro q
  simp only [List.getElem?_set, List.getElem?_append, List.length_append, List.length_take, List.getElem?_take, List.getElem?_drop]
  by_cases h1 : q < o
  · repeat (first | rw [if_pos (by omega)] | rw [if_neg (by omega)])
  · by_cases h2 : q < o + i
    · repeat (first | rw [if_pos (by omega)] | rw [if_neg (by omega)])
    · by_cases h3 : q = o + i
      · subst h3
        simp only [List.length_drop, if_true]
        rw [show o + i - min o bs.length = i by omega, List.getElem?_eq_getElem hi]
        repeat (first | rw [if_pos (by omega)] | rw [if_neg (by omega)])
      · repeat (first | rw [if_pos (by omega)] | rw [if_neg (by omega)])
        congr 1
        omega
set_option maxRecDepth 100000 in
set_option maxHeartbeats 1000000 in
theorem apply_any (g : Nat) (bs s : List UInt8) (o N c : Nat) (w : World) (hB : OwnL 5 1 encB w (.slice (some ⟨g, 0, none⟩) N c) bs) (hN : bs.length = N) (hf : o + s.length ≤ N) (hbig : N ≤ 4194304) :
    Calls Try.prog 44 #[.slice (some ⟨g, 0, none⟩) N c, .int .i64 o, .string ⟨s.toArray⟩] w fun e w' => e = .returned (.tuple #[]) ∧ OwnL 5 1 encB w' (.slice (some ⟨g, 0, none⟩) N c) (Dm.onto bs ⟨o, s⟩) ∧ Fr [g] w w' := by
  have hs63 : s.length ≤ 9223372036854775807 := by omega
  have h0 : OwnL 5 1 encB w (.slice (some ⟨g, 0, none⟩) N c) (Dm.onto bs ⟨o, s.take 0⟩) := by
    have e : Dm.onto bs ⟨o, s.take 0⟩ = bs := by simp [Dm.onto]
    rw [e]
    exact hB
  have HN := Lib.hid hN
  clear hB hN
  go_enter Try.func44, Try.ntmps44
  go_wp2_with fail
  go_loopw [6] (fun i wr => ∃ k : Nat, k ≤ s.length ∧ i = .int .i64 k ∧ OwnL 5 1 encB wr (.slice (some ⟨g, 0, none⟩) N c) (Dm.onto bs ⟨o, s.take k⟩) ∧ Fr [g] w wr) (fun i _ => s.length - (intOf i).toNat)
  case atStart => exact ⟨0, Nat.zero_le _, rfl, h0, Fr.refl _ _⟩
  case round =>
    clear h0
    obtain ⟨k, hk, rfl, hb, hf1⟩ := hrel
    by_cases hlt : k < s.length
    · have hidx : o + k < N := by omega
      have hst := onto_set bs s o k hlt (by rw [HN.out]; exact hf)
      have hol : (Dm.onto bs ⟨o, s.take k⟩).length = N := (Dm.onto_len (by simp only [List.length_take]; rw [HN.out]; omega)).trans HN.out
      have hb2 := hb.set encB_len (g := g) (i := o + k) (j := 0) rfl (by rw [hol]; exact hidx) (by decide) (.int .u8 (s[k].toNat : Int)) s[k] rfl
      rw [hst, Nat.mul_one, Nat.add_zero] at hb2
      have HB2 := Lib.hid hb2
      have HF2 := Lib.hid (hf1.setCell (p := ⟨g, o + k, none⟩) (.inl (by simp)) (.int .u8 (s[k].toNat : Int)))
      obtain ⟨g', c', hv, -, -, hgl, hcell, hfz⟩ := hb.form encB_len (by rw [hol]; omega)
      injection hv with e1 _ _
      injection e1 with e1
      injection e1 with e1 _
      subst e1
      have z := hfz (o + k)
      have c0 := hcell (o + k) (by rw [hol]; exact hidx) 0 (by decide)
      rw [Nat.mul_one, Nat.add_zero] at c0
      have c0' : ∃ v, wr.cell? ⟨g, o + k, none⟩ = some v := ⟨_, c0⟩
      obtain ⟨v0, c1⟩ := c0'
      clear hb hst hb2 hf1 hcell hfz c0 hol
      go_wp2_with fail
      go_roundw
      case rel => exact ⟨k + 1, by omega, by go_num, HB2.out, HF2.out⟩
      case measure => simp [intOf]; omega
    · obtain rfl : k = s.length := by omega
      rw [List.take_length] at hb
      have HB := Lib.hid hb
      have HF := Lib.hid hf1
      clear hb hf1
      go_wp2_with fail
      go_end0
      exact ⟨rfl, HB.out, HF.out⟩
theorem own_bytes {w : World} {g n : Nat} {l : List UInt8} (h : Blk w g 5 (Lib.byteCells l).toArray) (hn : l.length = n) (hm : n ≤ maxLen) : OwnL 5 1 encB w (.slice (some ⟨g, 0, none⟩) n n) l := by
  subst hn
  exact ⟨by rw [flat_len encB_len], .inr ⟨g, l.length, _, rfl, Nat.zero_le _, h, Nat.le_refl _, hm, by simp [Lib.byteCells], by rw [encB_flat]; simp only [Lib.byteCells, Nat.mul_one, List.toList_toArray]; exact List.take_of_length_le (by simp)⟩⟩
set_option maxRecDepth 100000 in
theorem rnew_any (n : Nat) (w : World) (h1 : 1 ≤ n) (h2 : n ≤ 4194304) : Calls Try.prog 18 #[.int .i64 n] w fun e w' => ∃ r sv, e = .returned (.tuple #[.pointer (some ⟨r, 0, none⟩), .int .i64 0]) ∧ RdAt w' r sv (.slice none 0 0) (Dm.new n) ∧ Fr [] w w' ∧ w.heap.size ≤ r ∧ ∀ g, sv.ownBlock = some g → w.heap.size ≤ g := by
  have hmk := run_make_bytes n w h2
  go_enter Try.func18, Try.ntmps18
  go_wp2_with fail
  go_ret2
  have b0 := (Blk.new w 5 (Lib.byteCells (List.replicate n 0)).toArray).alloc (.cells #[.slice (some ⟨w.heap.size, 0, none⟩) n n, .slice none 0 0, .bool false, .int .i64 0] 43)
  have b1 := Blk.new (w.alloc (.cells (Lib.byteCells (List.replicate n 0)).toArray 5)) 43 #[.slice (some ⟨w.heap.size, 0, none⟩) n n, .slice none 0 0, .bool false, .int .i64 0]
  rw [World.size_alloc] at b1
  exact ⟨_, .slice (some ⟨w.heap.size, 0, none⟩) n n, rfl, ⟨b1, own_bytes b0 List.length_replicate (by unfold maxLen; omega), OwnL.nil, Dm.Ok.new h1 h2⟩, ((Fr.refl [] w).alloc _).alloc _, by omega, fun g hg => by
    have e : w.heap.size = g := by simpa [Value.ownBlock] using hg
    omega⟩
theorem RdAt.fr0 {w w' : World} {r : Nat} {sv lv : Value} {d : Dm.Dk} (h : RdAt w r sv lv d) (hf : Fr [] w w') : RdAt w' r sv lv d := ⟨h.blk.fr hf (by simp), h.sure.fr hf (by simp), h.pend.fr hf (by simp), h.ok⟩
set_option maxRecDepth 100000 in
set_option maxHeartbeats 2000000 in
theorem visible_any (r : Nat) (sv lv : Value) (d : Dm.Dk) (w : World) (h : RdAt w r sv lv d) : Calls Try.prog 34 #[.pointer (some ⟨r, 0, none⟩)] w fun e w' =>
    ∃ g c, (e = .returned (.slice (some ⟨g, 0, none⟩) d.sure.length c) ∧ OwnL 5 1 encB w' (.slice (some ⟨g, 0, none⟩) d.sure.length c) d.vis ∧ w.heap.size ≤ g) ∧ Fr [] w w' := by
  have H := Lib.hid h
  obtain ⟨As, cs, hsv⟩ := h.sure.val
  obtain ⟨Al, cl, hlv⟩ := h.pend.val
  subst hsv hlv
  have b0 : w.cell? ⟨r, 0, none⟩ = some (.slice As d.sure.length cs) := h.blk.cell 0
  have b1 : w.cell? ⟨r, 1, none⟩ = some (.slice Al d.pend.length cl) := h.blk.cell 1
  have hn1 := h.ok.n1
  have hn2 := h.ok.n2
  clear h
  obtain ⟨i0, z, TB⟩ := etB
  have hlt := H.out.blk.lt
  go_enter Try.func34, Try.ntmps34
  have hE : OwnL 5 1 encB (w.alloc (.cells #[] 5)) (.slice (some ⟨w.heap.size, 0, none⟩) 0 0) ([] : List UInt8) := ⟨rfl, .inr ⟨w.heap.size, 0, #[], rfl, Nat.zero_le _, Blk.new w 5 #[], Nat.le_refl _, by simp [maxLen], rfl, rfl⟩⟩
  have HE := Lib.hid hE
  have hR := (H.out.sure.fr (S := []) ((Fr.refl _ w).alloc (.cells #[] 5)) (by simp)).reads rfl
  have HR := Lib.hid hR
  have HSL : Hid (d.sure.length = d.sure.length) := Lib.hid rfl
  clear hE hR
  go_wp2_with (at_builtin; refine wpList_appendL rfl _ _ rfl TB encB_len encB_one rfl HE.out _ _ _ _ d.sure rfl HSL.out HR.out (by simp only [maxLen, List.length_nil]; omega) (by simp only [List.length_nil]; omega) ?_; intro v5 w1 hown5 hg5 hat5; have HG5 := Lib.hid hg5; have HO5 := Lib.hid hown5; have HA5 := Lib.hid hat5; clear hg5 hown5 hat5)
  have ho := HO5.out
  rw [List.nil_append] at ho
  obtain ⟨g, c, hv, -, -, hgl, -, -⟩ := ho.form encB_len (by omega)
  subst hv
  have hge : w.heap.size ≤ g := by
    rcases HA5.out with h1 | h1
    · have e : some g = some w.heap.size := h1
      injection e with e
      omega
    · have e : some g = some (w.alloc (.cells #[] 5)).heap.size := h1
      injection e with e
      simp at e
      omega
  have F1 : Hid (Fr [] w w1) := Lib.hid (((Fr.refl [] w).alloc (.cells #[] 5)).grown HG5.out (fun g' e => .inr (by
    have e2 : some w.heap.size = some g' := e
    injection e2 with e2
    omega)))
  have HO1 := Lib.hid ho
  have HGE := Lib.hid hge
  clear ho HO5 HA5 HG5 hgl hge HE HR b0 b1
  go_wp2_with fail
  go_loopw [4] (fun i wr => ∃ k : Nat, k ≤ d.pend.length ∧ i = .int .i64 k ∧ OwnL 5 1 encB wr (.slice (some ⟨g, 0, none⟩) d.sure.length c) ((d.pend.take k).foldl Dm.onto d.sure) ∧ Fr [] w wr) (fun i _ => d.pend.length - (intOf i).toNat)
  case atStart => exact ⟨0, Nat.zero_le _, rfl, HO1.out, F1.out⟩
  case round =>
    obtain ⟨k, hk, rfl, hO, hF⟩ := hrel
    have HK := Lib.hid hO
    have HF := Lib.hid hF
    have hr := H.out.fr0 hF
    have b1 : wr.cell? ⟨r, 1, none⟩ = some (.slice Al d.pend.length cl) := hr.blk.cell 1
    by_cases hlt : k < d.pend.length
    · obtain ⟨gp, cp, hvp, hpn, hpm, -, hcellp, -⟩ := hr.pend.form Dm.Wr.cells_len (by omega)
      injection hvp with e1 e2 e3
      subst e1 e3
      clear e2
      have p0 := hcellp k hlt 0 (by decide)
      have p1 := hcellp k hlt 1 (by decide)
      have HU : Hid (d.pend[k]? = some d.pend[k]) := Lib.hid (List.getElem?_eq_getElem hlt)
      have hfit := H.out.ok.fit d.pend[k] (List.getElem_mem hlt)
      generalize d.pend[k] = u at *
      have p0' : wr.cell? ⟨gp, k * 2, none⟩ = some (.int .i64 u.off) := p0
      have p1' : wr.cell? ⟨gp, k * 2 + 1, none⟩ = some (.string ⟨u.s.toArray⟩) := p1
      have HFT := Lib.hid hfit
      have hp63 : d.pend.length ≤ 9223372036854775807 := by simp only [maxLen] at hpm; omega
      have HFL := Lib.hid (Dm.fold_len (d.pend.take k) d.sure (fun v hv => H.out.ok.fit v (List.mem_of_mem_take hv)))
      have HON := Lib.hid (apply_any g _ u.s u.off d.sure.length c wr.drew (hO.fr (Fr.refl [] wr).drew (by simp)) HFL.out hfit hn2)
      clear hO hF hr p0 p1 hcellp hfit hpn hpm
      go_wp2_with fail
      go_still_tail 17, (by kernel_rfl)
      change wpList _ _ _ _ _ wr.drew
      go_wp2_with fail
      refine HON.out.mono ?_
      rintro e w6 ⟨rfl, hb6, f6⟩
      have HE : Hid (OwnL 5 1 encB w6 (.slice (some ⟨g, 0, none⟩) d.sure.length c) ((d.pend.take (k + 1)).foldl Dm.onto d.sure)) := Lib.hid (by
        obtain ⟨hl, e⟩ := List.getElem?_eq_some_iff.1 HU.out
        rw [List.take_succ_eq_append_getElem hl, List.foldl_append, e]
        exact hb6)
      have HF6 := Lib.hid (HF.out.drew.trans' f6 (fun x hx => .inr (by
        have e : x = g := by simpa using hx
        rw [e]; exact HGE.out)))
      clear hb6 f6
      go_wp2_with fail
      go_roundw
      case rel => exact ⟨k + 1, by omega, by go_num, HE.out, HF6.out⟩
      case measure => simp [intOf]; omega
    · obtain rfl : k = d.pend.length := by omega
      rw [List.take_length] at HK
      clear hO hF hr
      go_wp2_with fail
      go_ret
      exact ⟨g, c, ⟨rfl, HK.out, HGE.out⟩, HF.out⟩
end Go.Proofs.Ytbmakjhfoaadoaa

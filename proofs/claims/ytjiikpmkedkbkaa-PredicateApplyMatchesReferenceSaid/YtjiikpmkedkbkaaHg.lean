/-
  The reference's partner and From.
-/
import Derived.Test.YtjiikpmkedkbkaaHf
import Derived.Deep.QuietTactic
import Derived.Test.YtjiikpmkedkbkaaGac
import Derived.Test.YtjiikpmkedkbkaaGas
import Derived.Deep.RegionLaw
import Derived.BigQuiet
namespace Go.Proofs.Ytjiikpmkedkbkaa
open Go.RowKit

end Go.Proofs.Ytjiikpmkedkbkaa
namespace Go.Proofs.Ytjiikpmkedkbkaa
open Go.RowKit

theorem partner_take (l : List RowV) (t k : Int) {i : Nat} (hi : i < l.length) (h : ∀ j (hj : j < l.length), j < i → ¬ (l[j].t = t ∧ l[j].k = k)) (h2 : l[i].t = t ∧ l[i].k = k) : Em.partner l t k = some l[i] := by
  unfold Em.partner
  rw [List.find?_eq_some_iff_getElem]
  refine ⟨by simp [h2.1, h2.2], i, hi, rfl, fun j hj => ?_⟩
  have := h j (by omega) hj
  simp only [Bool.not_and, Bool.or_eq_true, Bool.not_eq_true', decide_eq_false_iff_not]
  by_cases e : l[j].t = t
  · exact .inr (fun e2 => this ⟨e, e2⟩)
  · exact .inl e
theorem partner_none (l : List RowV) (t k : Int) (h : ∀ j (hj : j < l.length), ¬ (l[j].t = t ∧ l[j].k = k)) : Em.partner l t k = none := by
  unfold Em.partner
  rw [List.find?_eq_none]
  intro x hx
  obtain ⟨j, hj, rfl⟩ := List.getElem_of_mem hx
  have := h j hj
  simpa using fun e => fun e2 => this ⟨e, e2⟩
set_option maxRecDepth 100000 in
set_option maxHeartbeats 4000000 in
theorem rpartner_any (A : Option Addr) (n cap : Nat) (l : List RowV) (t k : Int) (w : World) (hx : RowsAt w A l) (hn : n = l.length) (hl : n ≤ 4000) :
    Calls Try.prog 69 #[.slice A n cap, .int .i64 t, .int .i64 k] w fun e w' => e = .returned (gotVal (Em.partner l t k)) ∧ Fr [] w w' := by
  have HX := Lib.hid hx
  have HN := Lib.hid hn
  clear hx hn
  have hb0 := Blk.new w 57 #[.int .i64 0, .int .i64 0, .int .i64 0, .int .i64 0, .int .i64 0]
  have HB := Lib.hid hb0
  have F0 := Lib.hid ((Fr.refl [] w).alloc (.cells #[.int .i64 0, .int .i64 0, .int .i64 0, .int .i64 0, .int .i64 0] 57))
  clear hb0
  go_enter Try.func69, Try.ntmps69
  go_wp2_with fail
  generalize hw1 : w.alloc (.cells #[.int .i64 0, .int .i64 0, .int .i64 0, .int .i64 0, .int .i64 0] 57) = w1 at *
  clear hw1
  go_loopw [8] (fun i wr => ∃ j : Nat, j ≤ n ∧ i = .int .i64 j ∧ Hid (∀ m (hm : m < l.length), m < j → ¬ (l[m].t = t ∧ l[m].k = k)) ∧ w1 = wr) (fun i _ => n - (intOf i).toNat)
  case atStart => exact ⟨0, Nat.zero_le _, rfl, Lib.hid (fun m _ h => absurd h (by omega)), rfl⟩
  case round =>
    obtain ⟨j, hj, rfl, HJ, rfl⟩ := hrel
    have z0 := HB.out.frozen 0
    have z1 := HB.out.frozen 1
    have z2 := HB.out.frozen 2
    have z3 := HB.out.frozen 3
    have z4 := HB.out.frozen 4
    have y0 : w1.cell? ⟨w.heap.size, 0, none⟩ = some (.int .i64 0) := HB.out.cell 0
    have y1 : w1.cell? ⟨w.heap.size, 1, none⟩ = some (.int .i64 0) := HB.out.cell 1
    have y2 : w1.cell? ⟨w.heap.size, 2, none⟩ = some (.int .i64 0) := HB.out.cell 2
    have y3 : w1.cell? ⟨w.heap.size, 3, none⟩ = some (.int .i64 0) := HB.out.cell 3
    have y4 : w1.cell? ⟨w.heap.size, 4, none⟩ = some (.int .i64 0) := HB.out.cell 4
    by_cases hlt : j < n
    · have hjl : j < l.length := by rw [← HN.out]; exact hlt
      obtain ⟨b, off, hA, hb, hc⟩ := (HX.out.fr F0.out (by simp)) (by omega)
      subst hA
      have c0 := hc j hjl 0 (by decide)
      have c1 := hc j hjl 1 (by decide)
      have c2 := hc j hjl 2 (by decide)
      have c3 := hc j hjl 3 (by decide)
      have c4 := hc j hjl 4 (by decide)
      have HPT := Lib.hid (partner_take l t k hjl HJ.out)
      have HNX : Hid (¬ (l[j].t = t ∧ l[j].k = k) → ∀ m (hm : m < l.length), m < j + 1 → ¬ (l[m].t = t ∧ l[m].k = k)) := Lib.hid (fun h m hm hmj => by
        by_cases e : m = j
        · subst e
          exact h
        · exact HJ.out m hm (by omega))
      generalize l[j] = x at *
      obtain ⟨rt, rk, rx, ry, rz⟩ := x
      have d0 : w1.cell? ⟨b, off + j * 5, none⟩ = some (.int .i64 rt) := c0
      have d1 : w1.cell? ⟨b, off + j * 5 + 1, none⟩ = some (.int .i64 rk) := c1
      have d2 : w1.cell? ⟨b, off + j * 5 + 2, none⟩ = some (.int .i64 rx) := c2
      have d3 : w1.cell? ⟨b, off + j * 5 + 3, none⟩ = some (.int .i64 ry) := c3
      have d4 : w1.cell? ⟨b, off + j * 5 + 4, none⟩ = some (.int .i64 rz) := c4
      clear c0 c1 c2 c3 c4 hb hc HJ
      dsimp only at HPT HNX
      by_cases e1 : rt = t
      · have f1 : (rt == t) = true := by simp [e1]
        by_cases e2 : rk = k
        · have f2 : (rk == k) = true := by simp [e2]
          have HP := Lib.hid (HPT.out ⟨e1, e2⟩)
          clear e1 e2
          have HB2 := ((((HB.out.set_ 0 (.int .i64 rt)).set_ 1 (.int .i64 rk)).set_ 2 (.int .i64 rx)).set_ 3 (.int .i64 ry)).set_ 4 (.int .i64 rz)
          have hf2 := ((((F0.out.setCell (p := ⟨w.heap.size, 0, none⟩) (.inr (Nat.le_refl _)) (.int .i64 rt)).setCell (p := ⟨w.heap.size, 1, none⟩) (.inr (Nat.le_refl _)) (.int .i64 rk)).setCell (p := ⟨w.heap.size, 2, none⟩) (.inr (Nat.le_refl _)) (.int .i64 rx)).setCell (p := ⟨w.heap.size, 3, none⟩) (.inr (Nat.le_refl _)) (.int .i64 ry)).setCell (p := ⟨w.heap.size, 4, none⟩) (.inr (Nat.le_refl _)) (.int .i64 rz)
          have H2 := Lib.hid (And.intro HB2 hf2)
          clear HB2 hf2
          go_wp2_with fail
          obtain ⟨h2, hf⟩ := H2.out
          have r0 := h2.cell 0
          have r1 := h2.cell 1
          have r2 := h2.cell 2
          have r3 := h2.cell 3
          have r4 := h2.cell 4
          generalize ((((w1.setCell ⟨w.heap.size, 0, none⟩ (.int .i64 rt)).setCell ⟨w.heap.size, 1, none⟩ (.int .i64 rk)).setCell ⟨w.heap.size, 2, none⟩ (.int .i64 rx)).setCell ⟨w.heap.size, 3, none⟩ (.int .i64 ry)).setCell ⟨w.heap.size, 4, none⟩ (.int .i64 rz) = w9 at *
          refine bodyPost_ret (v := .tuple #[.agg #[.int .i64 rt, .int .i64 rk, .int .i64 rx, .int .i64 ry, .int .i64 rz], .bool true]) (by simp [results, Try.results69, go_sem, r0, r1, r2, r3, r4]) rfl ⟨by rw [HP.out]; rfl, hf⟩
        · have f2 : (rk == k) = false := by simp [e2]
          have HP := Lib.hid (HNX.out (fun h => e2 h.2))
          clear e1 e2
          go_wp2_with fail
          go_roundw
          case rel => exact ⟨j + 1, by omega, by go_num, HP, by first | rfl | trivial⟩
          case measure => simp [intOf]; omega
      · have f1 : (rt == t) = false := by simp [e1]
        have HP := Lib.hid (HNX.out (fun h => e1 h.1))
        clear e1
        go_wp2_with fail
        go_roundw
        case rel => exact ⟨j + 1, by omega, by go_num, HP, by first | rfl | trivial⟩
        case measure => simp [intOf]; omega
    · obtain rfl : j = n := by omega
      have HP := Lib.hid (partner_none l t k (fun m hm => HJ.out m hm (by rw [HN.out]; exact hm)))
      have HB2 := ((((HB.out.set_ 0 (.int .i64 0)).set_ 1 (.int .i64 0)).set_ 2 (.int .i64 0)).set_ 3 (.int .i64 0)).set_ 4 (.int .i64 0)
      have hf2 := ((((F0.out.setCell (p := ⟨w.heap.size, 0, none⟩) (.inr (Nat.le_refl _)) (.int .i64 0)).setCell (p := ⟨w.heap.size, 1, none⟩) (.inr (Nat.le_refl _)) (.int .i64 0)).setCell (p := ⟨w.heap.size, 2, none⟩) (.inr (Nat.le_refl _)) (.int .i64 0)).setCell (p := ⟨w.heap.size, 3, none⟩) (.inr (Nat.le_refl _)) (.int .i64 0)).setCell (p := ⟨w.heap.size, 4, none⟩) (.inr (Nat.le_refl _)) (.int .i64 0)
      have H2 := Lib.hid (And.intro HB2 hf2)
      clear HB2 hf2
      go_wp2_with fail
      obtain ⟨h2, hf⟩ := H2.out
      have r0 := h2.cell 0
      have r1 := h2.cell 1
      have r2 := h2.cell 2
      have r3 := h2.cell 3
      have r4 := h2.cell 4
      generalize ((((w1.setCell ⟨w.heap.size, 0, none⟩ (.int .i64 0)).setCell ⟨w.heap.size, 1, none⟩ (.int .i64 0)).setCell ⟨w.heap.size, 2, none⟩ (.int .i64 0)).setCell ⟨w.heap.size, 3, none⟩ (.int .i64 0)).setCell ⟨w.heap.size, 4, none⟩ (.int .i64 0) = w9 at *
      refine bodyPost_ret (v := .tuple #[.agg #[.int .i64 0, .int .i64 0, .int .i64 0, .int .i64 0, .int .i64 0], .bool false]) (by simp [results, Try.results69, go_sem, r0, r1, r2, r3, r4]) rfl ⟨by rw [HP.out]; rfl, hf⟩
namespace Em
/-- What the reference does with one row. -/
def rstep (q : Qry) (others : List RowV) (r : Res) (x : RowV) : Res :=
  if q.kind = 3 then count r x
  else if q.kind = 4 then plus r (x.value q.by_)
  else if q.kind = 5 then least r (x.value q.by_)
  else if q.kind = 6 then most r (x.value q.by_)
  else if q.kind = 7 then ⟨r.rows ++ pair q others x, r.value, r.found⟩
  else ⟨r.rows ++ [x], r.value, r.found⟩
theorem fold_map {α β γ : Type} (f : γ → β → γ) (g : α → β) : ∀ (l : List α) (c : γ), (l.map g).foldl f c = l.foldl (fun c a => f c (g a)) c
  | [], _ => rfl
  | a :: l, c => by rw [List.map_cons, List.foldl_cons, List.foldl_cons, fold_map f g l]
theorem rstep_res {q : Qry} (hv : valid q = true) (rows others : List RowV) : rows.foldl (rstep q others) zero = res q rows others := by
  unfold res meas
  rw [if_pos hv]
  split
  · rename_i h
    congr 1
    funext r x
    unfold rstep
    rw [if_pos h]
  · rename_i h3
    split
    · rename_i h
      rw [fold_map]
      congr 1
      funext r x
      unfold rstep
      rw [if_neg h3, if_pos h]
    · rename_i h4
      split
      · rename_i h
        rw [fold_map]
        congr 1
        funext r x
        unfold rstep
        rw [if_neg h3, if_neg h4, if_pos h]
      · rename_i h5
        split
        · rename_i h
          rw [fold_map]
          congr 1
          funext r x
          unfold rstep
          rw [if_neg h3, if_neg h4, if_neg h5, if_pos h]
        · rename_i h6
          split
          · rename_i h
            have key : ∀ (l : List RowV) (p : List RowV), l.foldl (rstep q others) ⟨p, 0, false⟩ = ⟨p ++ joined q l others, 0, false⟩ := by
              intro l
              induction l with
              | nil => intro p; simp [joined]
              | cons x l ih =>
                intro p
                rw [List.foldl_cons]
                have e : rstep q others ⟨p, 0, false⟩ x = ⟨p ++ pair q others x, 0, false⟩ := by
                  unfold rstep
                  rw [if_neg h3, if_neg h4, if_neg h5, if_neg h6, if_pos h]
                rw [e, ih]
                unfold joined
                rw [List.flatMap_cons, List.append_assoc]
            have := key rows []
            simpa [zero] using this
          · rename_i h7
            have key : ∀ (l : List RowV) (p : List RowV), l.foldl (rstep q others) ⟨p, 0, false⟩ = ⟨p ++ l, 0, false⟩ := by
              intro l
              induction l with
              | nil => intro p; simp
              | cons x l ih =>
                intro p
                rw [List.foldl_cons]
                have e : rstep q others ⟨p, 0, false⟩ x = ⟨p ++ [x], 0, false⟩ := by
                  unfold rstep
                  rw [if_neg h3, if_neg h4, if_neg h5, if_neg h6, if_neg h7]
                rw [e, ih, List.append_assoc]
                rfl
            have := key rows []
            simpa [zero] using this
end Em
/-- Between two rounds of the reference's From. -/
structure RefFr (w wr : World) (q : Qry) (A : Option Addr) (n c : Nat) (r : Res) : Prop where
  box : QAt wr w.heap.size q
  res : RsAt wr (w.heap.size + 1) (.slice none 0 0) 0 false
  out : RsAt wr (w.heap.size + 1 + 1) (.slice A n c) r.value r.found
  own : RowsOwn wr (.slice A n c) r.rows
  new : ∀ g, (Value.slice A n c).ownBlock = some g → w.heap.size + 1 + 1 < g
  fr : Fr [] w wr
section
variable {w wr w' : World} {q : Qry} {A : Option Addr} {n c : Nat} {r : Res}
theorem RefFr.fr0 (h : RefFr w wr q A n c r) (hf : Fr [] wr w') : RefFr w w' q A n c r := ⟨h.box.fr hf (by simp), h.res.fr hf (by simp), h.out.fr hf (by simp), h.own.fr hf (by simp), h.new, h.fr.trans hf⟩
theorem RefFr.start (w : World) (q : Qry) : RefFr w (((w.alloc (.cells #[.int .i64 q.kind, .int .i64 q.table, .int .i64 q.column, .int .i64 q.low, .int .i64 q.high, .int .i64 q.by_, .int .i64 q.other] 24)).alloc (.cells #[.slice none 0 0, .int .i64 0, .bool false] 27)).alloc (.cells #[.slice none 0 0, .int .i64 0, .bool false] 27)) q none 0 0 Em.zero := by
  have h := FrRel.new w q
  have f := (Fr.refl [] ((w.alloc (.cells #[.int .i64 q.kind, .int .i64 q.table, .int .i64 q.column, .int .i64 q.low, .int .i64 q.high, .int .i64 q.by_, .int .i64 q.other] 24)).alloc (.cells #[.slice none 0 0, .int .i64 0, .bool false] 27))).alloc (.cells #[.slice none 0 0, .int .i64 0, .bool false] 27)
  have h2 := h.fr0 f
  refine ⟨h2.box, h2.res, ?_, OwnL.nil, by simp [Value.ownBlock], h2.fr⟩
  have h3 := RsAt.new ((w.alloc (.cells #[.int .i64 q.kind, .int .i64 q.table, .int .i64 q.column, .int .i64 q.low, .int .i64 q.high, .int .i64 q.by_, .int .i64 q.other] 24)).alloc (.cells #[.slice none 0 0, .int .i64 0, .bool false] 27)) (.slice none 0 0) 0 false
  rw [World.size_alloc, World.size_alloc] at h3
  exact h3
theorem RefFr.setv (h : RefFr w wr q A n c r) (v : Int) : RefFr w (wr.setCell ⟨w.heap.size + 1 + 1, 1, none⟩ (.int .i64 v)) q A n c ⟨r.rows, v, r.found⟩ := by
  have hf : Fr [w.heap.size + 1 + 1] wr (wr.setCell ⟨w.heap.size + 1 + 1, 1, none⟩ (.int .i64 v)) := (Fr.refl _ _).setCell (.inl (by simp)) _
  exact ⟨h.box.fr hf (by simp <;> omega), h.res.fr hf (by simp <;> omega), Blk.set_ h.out 1 _, h.own.fr hf (fun g hg => by have := h.new g hg; simp; omega), h.new, h.fr.trans' hf (fun x hx => .inr (by simp only [List.mem_singleton] at hx; omega))⟩
theorem RefFr.setf (h : RefFr w wr q A n c r) (f : Bool) : RefFr w (wr.setCell ⟨w.heap.size + 1 + 1, 2, none⟩ (.bool f)) q A n c ⟨r.rows, r.value, f⟩ := by
  have hf : Fr [w.heap.size + 1 + 1] wr (wr.setCell ⟨w.heap.size + 1 + 1, 2, none⟩ (.bool f)) := (Fr.refl _ _).setCell (.inl (by simp)) _
  exact ⟨h.box.fr hf (by simp <;> omega), h.res.fr hf (by simp <;> omega), Blk.set_ h.out 2 _, h.own.fr hf (fun g hg => by have := h.new g hg; simp; omega), h.new, h.fr.trans' hf (fun x hx => .inr (by simp only [List.mem_singleton] at hx; omega))⟩
/-- Behind the append, ahead of the store of the slice. -/
structure RefMid (w wr : World) (q : Qry) (A : Option Addr) (n c : Nat) (v : Int) (f : Bool) (A' : Option Addr) (n' c' : Nat) (l : List RowV) : Prop where
  box : QAt wr w.heap.size q
  res : RsAt wr (w.heap.size + 1) (.slice none 0 0) 0 false
  out : RsAt wr (w.heap.size + 1 + 1) (.slice A n c) v f
  own : RowsOwn wr (.slice A' n' c') l
  new : ∀ g, (Value.slice A' n' c').ownBlock = some g → w.heap.size + 1 + 1 < g
  fr : Fr [] w wr
theorem RefFr.grown {A' : Option Addr} {n' c' : Nat} {l : List RowV} (h : RefFr w wr q A n c r) (ho : RowsOwn w' (.slice A' n' c') l) (hg : wr.grownBy w' (Value.slice A n c).ownBlock) (hat : (Value.slice A' n' c').ownBlock = (Value.slice A n c).ownBlock ∨ (Value.slice A' n' c').ownBlock = some wr.heap.size) :
    RefMid w w' q A n c r.value r.found A' n' c' l := by
  have hf : Fr (Value.slice A n c).ownBlock.toList wr w' := (Fr.refl _ _).grown hg (fun g hg => .inl (Option.mem_toList.2 hg))
  have hlt := Blk.lt h.out
  have hn : ∀ g, g ≤ w.heap.size + 1 + 1 → g ∉ (Value.slice A n c).ownBlock.toList := fun g hg hm => by have := h.new g (Option.mem_toList.1 hm); omega
  refine ⟨h.box.fr hf (hn _ (by omega)), h.res.fr hf (hn _ (by omega)), h.out.fr hf (hn _ (by omega)), ho, fun g hgg => ?_, h.fr.trans' hf (fun x hx => .inr (by have := h.new x (Option.mem_toList.1 hx); omega))⟩
  rcases hat with e | e
  · exact h.new g (e ▸ hgg)
  · rw [hgg] at e
    injection e with e
    omega
theorem RefMid.done {A' : Option Addr} {n' c' : Nat} {l : List RowV} {v : Int} {f : Bool} (h : RefMid w wr q A n c v f A' n' c' l) : RefFr w (wr.setCell ⟨w.heap.size + 1 + 1, 0, none⟩ (.slice A' n' c')) q A' n' c' ⟨l, v, f⟩ := by
  have hf : Fr [w.heap.size + 1 + 1] wr (wr.setCell ⟨w.heap.size + 1 + 1, 0, none⟩ (.slice A' n' c')) := (Fr.refl _ _).setCell (.inl (by simp)) _
  exact ⟨h.box.fr hf (by simp <;> omega), h.res.fr hf (by simp <;> omega), Blk.set_ h.out 0 _, h.own.fr hf (fun g hg => by have := h.new g hg; simp; omega), h.new, h.fr.trans' hf (fun x hx => .inr (by simp only [List.mem_singleton] at hx; omega))⟩
theorem RefFr.fin (h : RefFr w wr q A n c r) : ∃ w4, ((wr.setCell ⟨w.heap.size + 1, 0, none⟩ (.slice A n c)).setCell ⟨w.heap.size + 1, 1, none⟩ (.int .i64 r.value)).setCell ⟨w.heap.size + 1, 2, none⟩ (.bool r.found) = w4 ∧ w4.cell? ⟨w.heap.size + 1, 0, none⟩ = some (.slice A n c) ∧ w4.cell? ⟨w.heap.size + 1, 1, none⟩ = some (.int .i64 r.value) ∧ w4.cell? ⟨w.heap.size + 1, 2, none⟩ = some (.bool r.found) ∧ ResO w w4 (.slice A n c) r.rows := by
  obtain ⟨w4, e4, h4, f4⟩ := h.res.fill (.slice A n c) r.value r.found
  exact ⟨w4, e4, h4.c0, h4.c1, h4.c2, ⟨h.own.fr f4 (fun g hg => by have := h.new g hg; simp only [List.mem_singleton]; omega), h.fr.trans' f4 (fun x hx => .inr (by simp only [List.mem_singleton] at hx; omega)), fun g hg => by have := h.new g hg; omega⟩⟩
end
end Go.Proofs.Ytjiikpmkedkbkaa

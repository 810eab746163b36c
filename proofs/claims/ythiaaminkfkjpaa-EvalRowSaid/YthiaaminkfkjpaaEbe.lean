/-
  What the reference's Log and the laws need about rows of changes and of records.
-/
import Derived.Test.YthiaaminkfkjpaaEal
import Derived.Test.YthiaaminkfkjpaaEax
import Derived.Test.YthiaaminkfkjpaaEat
import Derived.Test.YthiaaminkfkjpaaEae
namespace Go.Proofs.Ythiaaminkfkjpaa
open Go.RowKit

theorem infoChg : (Try.prog.info? 35).map (fun i => (i.zero, i.size, i.bytes)) = some (some (.agg #[.int .i64 0, .int .i64 0, .bool false, .int .i64 0, .int .i64 0, .int .i64 0, .bool false, .int .i64 0, .int .i64 0, .int .i64 0]), 10, 80) := by kernel_rfl
theorem etChg : ∃ i0, ET Try.prog 36 35 10 80 i0 (.agg #[.int .i64 0, .int .i64 0, .bool false, .int .i64 0, .int .i64 0, .int .i64 0, .bool false, .int .i64 0, .int .i64 0, .int .i64 0]) := by
  obtain ⟨i0, hi, hz0, hz1, hz2⟩ := info_parts infoChg
  exact ⟨i0, Try.underlying36, hi, hz0, hz1, hz2, rfl, by decide⟩
theorem infoRec : (Try.prog.info? 38).map (fun i => (i.zero, i.size, i.bytes)) = some (some (.agg #[.int .i64 0, .slice none 0 0]), 2, 32) := by kernel_rfl
theorem etRec : ∃ i0, ET Try.prog 26 38 2 32 i0 (.agg #[.int .i64 0, .slice none 0 0]) := by
  obtain ⟨i0, hi, hz0, hz1, hz2⟩ := info_parts infoRec
  exact ⟨i0, Try.underlying26, hi, hz0, hz1, hz2, rfl, by decide⟩

theorem got_shape (o : Option RowV) : ∃ (a b x y z : Int) (had : Bool), gotVal o = .tuple #[.agg #[.int .i64 a, .int .i64 b, .int .i64 x, .int .i64 y, .int .i64 z], .bool had] := by
  cases o with
  | none => exact ⟨0, 0, 0, 0, 0, false, rfl⟩
  | some r => exact ⟨r.t, r.k, r.x, r.y, r.z, true, rfl⟩

theorem OwnL.holdsC {w : World} {A : Option Addr} {n cap : Nat} {cs : List Chg} (h : OwnL 35 10 Chg.cells w (.slice A n cap) cs) : HoldsC w A cs := by
  refine ⟨(h.at1 Chg.len).1, fun hl ad e => ?_⟩
  rcases h.2 with ⟨hv, _⟩ | ⟨g', cap', cur, hv, _, hh, _⟩
  · cases hv
    cases e
  · cases hv
    cases e
    exact ⟨_, _, hh⟩

theorem OwnL.ne2 {X Y : Type} {e size e' size' : Nat} {enc : X → List Value} {enc' : Y → List Value} {w : World} {v v' : Value} {L : List X} {L' : List Y} (h : OwnL e size enc w v L) (h' : OwnL e' size' enc' w v' L') (hne : e ≠ e') {g : Nat} (hg : v.ownBlock = some g) : v'.ownBlock ≠ some g := by
  intro hg'
  rcases h'.2 with ⟨rfl, _⟩ | ⟨g', cap, cur, rfl, _, hh, _⟩
  · simp [Value.ownBlock] at hg'
  · simp [Value.ownBlock] at hg'
    subst hg'
    exact h.ne (b := g') hh hne hg rfl

theorem OwnL.noC {X : Type} {e size : Nat} {enc : X → List Value} {w : World} {v : Value} {L : List X} (h : OwnL e size enc w v L) (hne : e ≠ 35) : NoC w v.ownBlock.toList := by
  intro s hs arr fz hh'
  rcases h.2 with ⟨rfl, _⟩ | ⟨g', cap, cur, rfl, _, hh, _⟩
  · simp [Value.ownBlock] at hs
  · simp [Value.ownBlock] at hs
    subst hs
    exact noC_blk (show Blk w _ e cur from hh) hne arr fz hh'
end Go.Proofs.Ythiaaminkfkjpaa

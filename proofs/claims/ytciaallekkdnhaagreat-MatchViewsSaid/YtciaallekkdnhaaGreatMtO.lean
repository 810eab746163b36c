/-
  slices.Sorted(maps.Keys(m)) over a map from integers.
-/
import Derived.Test.YtciaallekkdnhaaGreatJk
import Derived.Test.YtciaallekkdnhaaGreatLvB
namespace Go.Proofs.YtciaallekkdnhaaGreat
open Go.RowKit Go.Maps Go.Sort Go.Shelf
open Go.WideElems Go.MapKept Go.WideShapes Go.ChangeShapes Go.ChangeMaps

theorem sortsI (m : Nat) : AnyZI.SortsIn Tryz.prog Shlf.sortedI_ren Fence.wide m :=
  ⟨fun blk off cap ss W hH hblk hsz => callsIn_wide.2 (AnyM.slices_Sort_int Shlf.sortI blk off cap ss W hH hblk hsz),
   fun p cap W => callsIn_wide.2 (AnyM.slices_Sort_int_none Shlf.sortI p cap W)⟩
theorem keysI_any (mf : Nat) (w : World) : Calls Tryz.prog 42 #[.map (some mf)] w fun e w' => e = .returned (.func (.func 69) #[] #[.pointer (some ⟨w.heap.size, 0, none⟩)]) ∧ w' = w.alloc (.cells #[.map (some mf)] 88) :=
  callsIn_wide.1 (AnyZI.keys_in Shlf.keysI Fence.wide 5 trivial rfl (some mf) w)
theorem VMap.intKeys {V : Type} {P : Program} {k : TypeId} {ev : V → Value} {w : World} {b : Nat} {M : List (Int × V)} (h : VMap P k (Lit.int .i64) ev w b M) : ∃ n D, w.ownsMap P k Rv b n D ∧ (Go.intKeys D).Perm (M.map (·.1)) ∧ Maps.size D = M.length := by
  obtain ⟨es, clock, hb, hown, hp, F⟩ := h.owns
  have hp2 := (sorted_perm (es.toList.map (rg P k Rv))).trans hp
  refine ⟨_, _, hown, ?_, ?_⟩
  · have h2 := hp2.map (fun p : Lit × DataW Value => Go.intOf p.1)
    rw [List.map_map] at h2
    exact h2
  · exact hp2.length_eq.trans (by simp)
theorem sortedI_any (mf : Nat) (L : List (Int × Bool)) (w : World) (hm : VMap Tryz.prog 3 (Lit.int .i64) Value.bool w mf L) (hl : L.length ≤ 100000) :
    Calls Tryz.prog 41 #[.func (.func 69) #[] #[.pointer (some ⟨w.heap.size, 0, none⟩)]] (w.alloc (.cells #[.map (some mf)] 88)) fun e w' =>
      ∃ (v : Value) (ss : List Int), e = .returned v ∧ ss.Perm (L.map (·.1)) ∧ OwnL 3 1 encJ w' v (ss.mergeSort (fun x y => decide (x ≤ y))) ∧ Fr [] w w' := by
  obtain ⟨nn, D0, hown, hp, hsz⟩ := hm.intKeys
  have hbl := hown.lt
  have hseq : SeqGives Fence.wide 2 Tryz.prog 69 #[.pointer (some ⟨w.heap.size, 0, none⟩)] encZ (fun ss => ss.Perm (intKeys D0)) (Maps.size D0) (w.alloc (.cells #[.map (some mf)] 88)) :=
    AnyZI.keys_gives (ρ := Shlf.keysI_ren) { Shlf.keysI with } Fence.wide _ trivial rfl (by omega) w.heap.size mf nn D0 _ (by simp) (by simp) (by
      obtain ⟨es, clock, hb, Ft, hs, hD⟩ := hown
      exact ⟨es, clock, (Below.heap_alloc _ _ mf hbl).trans hb, Ft, hs, hD⟩)
  have cS := AnyZI.sorted_in Shlf.sortedI Fence.wide 5 trivial trivial trivial trivial rfl (by omega) (sortsI _) (enters_of Tryz.func68 (by kernel_rfl) rfl) 69 #[.pointer (some ⟨w.heap.size, 0, none⟩)] trivial (enters_of Tryz.func69 (by kernel_rfl) rfl) _ _ (by rw [hsz]; simp only [maxLen]; omega) (by rw [hsz]; omega) _ hseq
  change CallsIn _ _ Tryz.prog 41 _ _ _ at cS
  refine (callsIn_wide.1 cS).mono ?_
  rintro e w' ⟨v, ss, rfl, hS, hrow, hnil, hb⟩
  refine ⟨v, ss, rfl, hS.trans hp, ?_, ?_⟩
  · have h1 := ownsRow_base_a hrow (Nat.zero_le _)
    unfold OwnL
    rw [List.length_mergeSort]
    have e2 : (ss.mergeSort (fun x y => decide (x ≤ y))).flatMap encJ = (ss.mergeSort (fun x y => decide (x ≤ y))).map encZ := by
      rw [List.map_eq_flatMap]
      rfl
    rw [e2]
    exact h1
  · have f1 : Fr [] w (w.alloc (.cells #[.map (some mf)] 88)) := (Fr.refl _ _).alloc _
    exact f1.trans ⟨hb.os, hb.tape, hb.output, hb.size, fun k hk _ => hb.block k hk⟩
end Go.Proofs.YtciaallekkdnhaaGreat

/- slices.Sorted(maps.Keys(m)) and slices.Delete of owned rows: contracts. -/
import Derived.Test.YtbbedepojogfmaaTreeLays
import Derived.Test.YtbbedepojogfmaaTree
namespace Go.Proofs.Ytbbedepojogfmaa
open Go.RowKit Go.Sort Go.Shelf Go.Maps
set_option linter.unusedVariables false
theorem keysF_is (mb : Option Nat) (W : World) : Calls Try.prog 79 #[.map mb] W fun e w' => e = .returned (.func (.func 107) #[] #[.pointer (some ⟨W.heap.size, 0, none⟩)]) ∧ w' = W.alloc (.cells #[.map mb] 110) :=
  callsIn_wide.1 (AnyZI.keys_in keysLays Fence.wide 5 trivial rfl mb W)
set_option maxHeartbeats 1000000 in
theorem sortedKeys_is (b nn : Nat) (D0 : DataW Unit) (w : World) (hown : w.ownsMap Try.prog 3 (plainElem Try.prog 49) b nn D0) (hmax : Maps.size D0 ≤ 1000000) :
    Calls Try.prog 78 #[.func (.func 107) #[] #[.pointer (some ⟨w.heap.size, 0, none⟩)]] (w.alloc (.cells #[.map (some b)] 110)) fun e w' => ∃ (v : Value) (ss : List Int), e = .returned v ∧ ss.Perm (intKeys D0) ∧
      w'.ownsRow (w.heap.size + 1) 3 1 v ss.length ((ss.mergeSort (fun x y => decide (x ≤ y))).map (Value.int .i64)) ∧ Below w.heap.size w w' := by
  have hbl := hown.lt
  have hseq : SeqGives Fence.wide 2 Try.prog 107 #[.pointer (some ⟨w.heap.size, 0, none⟩)] encZ (fun ss => ss.Perm (intKeys D0)) (Maps.size D0) (w.alloc (.cells #[.map (some b)] 110)) :=
    AnyZI.keys_gives (ρ := keysLays_ren) { keysLays with } Fence.wide _ trivial rfl (by omega) w.heap.size b nn D0 _ (by simp) (by simp) (by
      obtain ⟨es, clock, hb, Ft, hs, hD⟩ := hown
      exact ⟨es, clock, (Below.heap_alloc _ _ b hbl).trans hb, Ft, hs, hD⟩)
  have cS := AnyZI.sorted_in sortedLays Fence.wide 5 trivial trivial trivial trivial rfl (by omega) (sortsI _) (enters_of Try.func42 (by kernel_rfl) rfl) 107 #[.pointer (some ⟨w.heap.size, 0, none⟩)] trivial (enters_of Try.func107 (by kernel_rfl) rfl) _ (Maps.size D0) (by unfold maxLen; omega) (by omega) _ hseq
  refine (callsIn_wide.1 cS).mono ?_
  rintro e w' ⟨v, ss, rfl, hS, hrow, hnil, hb⟩
  refine ⟨v, ss, rfl, hS, ?_, ((Below.refl _ w).alloc (Nat.le_refl _) _).trans (hb.mono (by simp))⟩
  have e1 : (w.alloc (.cells #[.map (some b)] 110)).heap.size = w.heap.size + 1 := by simp
  rw [e1] at hrow
  exact hrow
theorem heap_put {α : Type} [Inhabited α] {enc : α → Value} {w : World} {g n : Nat} {cur : Array Value} {e : TypeId} {fr : Nat × Nat} (d : Array α) (hb : w.heap[g]? = some (.cells cur e fr)) :
    (putRow enc (Sort.ahead w n) g 0 d).heap[g]? = some (.cells (putCells enc 0 d cur) e fr) := by
  simp [putRow, mapBlock, Sort.ahead, Array.getElem?_modify, hb, onCells]
theorem grownBy_put {α : Type} [Inhabited α] {enc : α → Value} {w : World} {g n : Nat} (d : Array α) : w.grownBy (putRow enc (Sort.ahead w n) g 0 d) (some g) := by
  refine ⟨rfl, rfl, rfl, by simp [putRow, mapBlock, Sort.ahead], fun k hk hne => ?_⟩
  have : g ≠ k := fun e => hne (by rw [e])
  simp [putRow, mapBlock, Sort.ahead, Array.getElem?_modify, this]
theorem take_put {α : Type} [Inhabited α] {enc : α → Value} (cur : Array Value) (ts : List α) (m : Nat) (hm : m ≤ ts.length) (h : ts.length ≤ cur.size) : (putCells enc 0 ts.toArray cur).toList.take m = (ts.take m).map enc := by
  apply List.ext_getElem?
  intro j
  by_cases hj : j < m
  · rw [List.getElem?_take_of_lt hj, Array.getElem?_toList]
    simp [putCells, hj, show j < cur.size by omega, show j < ts.length by omega]
  · rw [List.getElem?_take_eq_none (by omega), List.getElem?_eq_none (by simp; omega)]
theorem erase_take (xs : List Int) (k : Nat) (hk : k < xs.length) : (xs.take k ++ xs.drop (k + 1) ++ List.replicate (k + 1 - k) 0).take (xs.length - 1) = xs.eraseIdx k := by
  rw [List.eraseIdx_eq_take_drop_succ, List.take_append_of_le_length (by simp; omega), List.take_of_length_le (by simp; omega)]
set_option maxHeartbeats 1000000 in
theorem delInts_is (w : World) (base g cap : Nat) (xs : List Int) (k : Nat) (hk : k < xs.length) (ho : w.ownsRow base 3 1 (.slice (some ⟨g, 0, none⟩) xs.length cap) xs.length (xs.map (Value.int .i64))) :
    Calls Try.prog 38 #[.slice (some ⟨g, 0, none⟩) xs.length cap, .int .i64 (k : Nat), .int .i64 ((k + 1 : Nat) : Int)] w fun e w' => e = .returned (.slice (some ⟨g, 0, none⟩) (xs.length - 1) cap) ∧ w'.ownsRow base 3 1 (.slice (some ⟨g, 0, none⟩) (xs.length - 1) cap) (xs.length - 1) ((xs.eraseIdx k).map (Value.int .i64)) ∧ w.grownBy w' (some g) := by
  obtain ⟨i0, hi0, hz0, hz1, hz2⟩ := info_parts infoInt
  rcases ho.2 with ⟨_, h0⟩ | ⟨g', cap', cur, hv, hbase, hcell, hc1, hc2, hc3, htake⟩
  · omega
  · cases hv
    have ht : cur.toList.take xs.length = xs.map (Value.int .i64) := by simpa using htake
    have hH : Holds (Value.int .i64) w g 0 xs.toArray := by
      intro j hj
      have hj' : j < xs.length := by simpa using hj
      have h1 : (cur.toList.take xs.length)[j]? = (xs.map (Value.int .i64))[j]? := by rw [ht]
      rw [List.getElem?_take_of_lt hj'] at h1
      refine ⟨?_, by simp [World.frozen?, hcell]⟩
      simp only [World.cell?, hcell, Nat.zero_add]
      simp only [Option.isSome_none, Bool.false_eq_true, if_false]
      rw [← Array.getElem?_toList, h1]
      simp [hj']
    have hcap : xs.toArray.size ≤ cap := by simpa using hc1
    refine ((AnyE.slices_Delete delInts (Value.int .i64) (fun _ => rfl) 0 (fun w => by kernel_rfl) _ hi0 hz1 g 0 cap k (k + 1) xs.toArray w hH hcap (by unfold maxLen at hc2; omega) (by omega) (by simp; omega))).mono ?_
    rintro e w' ⟨rfl, nn, rfl⟩
    have hs : xs.toArray.size - (k + 1 - k) = xs.length - 1 := by simp
    rw [hs]
    have hl : (xs.take k ++ xs.drop (k + 1) ++ List.replicate (k + 1 - k) (0 : Int)).length = xs.length := by simp; omega
    refine ⟨rfl, ⟨by simp [List.length_eraseIdx_of_lt hk], .inr ⟨g, cap, _, rfl, hbase, heap_put _ hcell, by omega, hc2, by simp [putCells, hc3], ?_⟩⟩, grownBy_put _⟩
    rw [Nat.mul_one, take_put _ _ _ (by rw [hl]; omega) (by rw [hl]; omega), erase_take xs k hk]
theorem infoU : (Try.prog.info? 49).map (fun i => (i.zero, i.size, i.bytes)) = some (some (.int .u64 0), 1, 8) := by kernel_rfl
set_option maxHeartbeats 1000000 in
theorem delHashes_is (w : World) (base g cap : Nat) (xs : List Int) (k : Nat) (hk : k < xs.length) (ho : w.ownsRow base 49 1 (.slice (some ⟨g, 0, none⟩) xs.length cap) xs.length (xs.map (Value.int .u64))) :
    Calls Try.prog 39 #[.slice (some ⟨g, 0, none⟩) xs.length cap, .int .i64 (k : Nat), .int .i64 ((k + 1 : Nat) : Int)] w fun e w' => e = .returned (.slice (some ⟨g, 0, none⟩) (xs.length - 1) cap) ∧ w'.ownsRow base 49 1 (.slice (some ⟨g, 0, none⟩) (xs.length - 1) cap) (xs.length - 1) ((xs.eraseIdx k).map (Value.int .u64)) ∧ w.grownBy w' (some g) := by
  obtain ⟨i0, hi0, hz0, hz1, hz2⟩ := info_parts infoU
  rcases ho.2 with ⟨_, h0⟩ | ⟨g', cap', cur, hv, hbase, hcell, hc1, hc2, hc3, htake⟩
  · omega
  · cases hv
    have ht : cur.toList.take xs.length = xs.map (Value.int .u64) := by simpa using htake
    have hH : Holds (Value.int .u64) w g 0 xs.toArray := by
      intro j hj
      have hj' : j < xs.length := by simpa using hj
      have h1 : (cur.toList.take xs.length)[j]? = (xs.map (Value.int .u64))[j]? := by rw [ht]
      rw [List.getElem?_take_of_lt hj'] at h1
      refine ⟨?_, by simp [World.frozen?, hcell]⟩
      simp only [World.cell?, hcell, Nat.zero_add]
      simp only [Option.isSome_none, Bool.false_eq_true, if_false]
      rw [← Array.getElem?_toList, h1]
      simp [hj']
    have hcap : xs.toArray.size ≤ cap := by simpa using hc1
    refine ((AnyE.slices_Delete delHashes (Value.int .u64) (fun _ => rfl) 0 (fun w => by kernel_rfl) _ hi0 hz1 g 0 cap k (k + 1) xs.toArray w hH hcap (by unfold maxLen at hc2; omega) (by omega) (by simp; omega))).mono ?_
    rintro e w' ⟨rfl, nn, rfl⟩
    have hs : xs.toArray.size - (k + 1 - k) = xs.length - 1 := by simp
    rw [hs]
    have hl : (xs.take k ++ xs.drop (k + 1) ++ List.replicate (k + 1 - k) (0 : Int)).length = xs.length := by simp; omega
    refine ⟨rfl, ⟨by simp [List.length_eraseIdx_of_lt hk], .inr ⟨g, cap, _, rfl, hbase, heap_put _ hcell, by omega, hc2, by simp [putCells, hc3], ?_⟩⟩, grownBy_put _⟩
    rw [Nat.mul_one, take_put _ _ _ (by rw [hl]; omega) (by rw [hl]; omega), erase_take xs k hk]
end Go.Proofs.Ytbbedepojogfmaa

/- slices.Clone and Clip of a photo's slices. -/
import Derived.Test.YtipmegkmkbbklaaFdPh
import Derived.Test.YtipmegkmkbbklaaOwn
import Derived.Deep.AppendLies

namespace Go.Proofs.Ytipmegkmkbbklaa
open Go.RowKit Go.Sort Go.Shelf
set_option linter.unusedVariables false
/-- A slice's cells, k of each element. -/
def RowK (w : World) (a : Option Addr) (n k : Nat) (F : Nat → Value) : Prop := 0 < n → ∃ b off, a = some ⟨b, off, none⟩ ∧ b < w.heap.size ∧ ∀ i, i < n * k → w.cell? ⟨b, off + i, none⟩ = some (F i)
/-- The slice lies in new memory. -/
def NewK (B : Nat) (a : Option Addr) (n : Nat) : Prop := 0 < n → ∃ g, a = some ⟨g, 0, none⟩ ∧ B ≤ g
def ClonePost (w : World) (n k : Nat) (F : Nat → Value) (e : Ending) (w' : World) : Prop := ∃ a' ca', e = .returned (.slice a' n ca') ∧ n ≤ ca' ∧ ca' ≤ 9223372036854775807 ∧ RowK w' a' n k F ∧ NewK w.heap.size a' n ∧ Below w.heap.size w w'
theorem RowK.of_own {w : World} {base g n cap k : Nat} {e : TypeId} {F : Nat → Value} (h : w.ownsRow base e k (.slice (some ⟨g, 0, none⟩) n cap) n ((List.range (n * k)).map F)) : RowK w (some ⟨g, 0, none⟩) n k F := by
  intro _
  refine ⟨g, 0, rfl, (h.lt g rfl).2, fun i hi => ?_⟩
  rw [Nat.zero_add, h.cellAt i hi, List.getElem?_map, List.getElem?_range hi]; rfl
theorem RowK.setNew {w : World} {a : Option Addr} {n k B : Nat} {F : Nat → Value} (h : RowK w a n k F) (hn : NewK B a n) {p : Addr} (hp : p.block < B) (v : Value) : RowK (w.setCell p v) a n k F := by
  intro h0
  obtain ⟨b, off, rfl, hb, hc⟩ := h h0
  obtain ⟨g, hg, hB⟩ := hn h0
  injection hg with hg
  injection hg with hg1 hg2
  subst hg1 hg2
  refine ⟨b, 0, rfl, by simpa using hb, fun i hi => ?_⟩
  have := hc i hi
  unfold World.cell? at this ⊢
  rw [Below.heap_setCell w _ v b (by omega)]
  exact this
theorem NewK.down {B B' : Nat} {a : Option Addr} {n : Nat} (h : NewK B a n) (hB : B' ≤ B) : NewK B' a n := fun h0 => by
  obtain ⟨g, hg, hb⟩ := h h0
  exact ⟨g, hg, by omega⟩
theorem infoIntC : (Try.prog.info? 3).map (fun i => (i.zero, i.size, i.bytes)) = some (some (.int .i64 0), 1, 8) := by kernel_rfl
theorem infoStrC : (Try.prog.info? 9).map (fun i => (i.zero, i.size, i.bytes)) = some (some (.string ByteArray.empty), 1, 16) := by kernel_rfl
theorem infoPlaceC : (Try.prog.info? 71).map (fun i => (i.zero, i.size, i.bytes)) = some (some (.agg #[.int .i64 0, .int .i64 0]), 2, 16) := by kernel_rfl
-- [[]int,int]: the function's type arguments; []int: the slice's type; int: the element's; infoIntC: its info; .int .i64 0: its zero; 1: its size; 8: its bytes; cloneI: the name
set_option maxRecDepth 100000 in
theorem cloneI_none (ca : Nat) (F : Nat → Value) (w : World) : Calls Try.prog 38 #[.slice none 0 ca] w (ClonePost w 0 1 F) := by
  have hnil := fun (W : World) => Lib.run_eql_slice_nil (P := Try.prog) W 24 3 none 0 ca 0 0 Try.underlying24
  go_enter Try.func38, Try.ntmps38
  go_wp2_with fail
  go_ret
  exact ⟨none, 0, rfl, by omega, by omega, fun h => by omega, fun h => by omega, Below.refl _ _⟩
set_option maxRecDepth 100000 in
set_option maxHeartbeats 1000000 in
theorem cloneI_empty (p : Addr) (ca : Nat) (F : Nat → Value) (w : World) : Calls Try.prog 38 #[.slice (some p) 0 ca] w (ClonePost w 0 1 F) := by
  obtain ⟨i0, hi0, hz0, hz1, hz2⟩ := info_parts infoIntC
  have HI0 := Lib.hid hi0; have HI2 := Lib.hid hz1
  clear hi0 hz0 hz1 hz2
  have hnil := fun (W : World) => Lib.run_eql_slice_nil (P := Try.prog) W 24 3 (some p) 0 ca 0 0 Try.underlying24
  have HO : Hid ((w.alloc (.cells #[] 3)).ownsRow w.heap.size 3 1 (.slice (some ⟨w.heap.size, 0, none⟩) 0 0) 0 []) := ⟨rfl, .inr ⟨w.heap.size, 0, #[], rfl, Nat.le_refl _, heap_alloc_new w _, Nat.le_refl _, by simp, by simp, by simp⟩⟩
  go_enter Try.func38, Try.ntmps38
  go_wp2_with (at_builtin; refine wpList_append_fits _ rfl _ _ 24 rfl w.heap.size 3 i0 1 Try.underlying24 HI0.out HI2.out w.heap.size 0 0 [] rfl HO.out p 0 ca [] rfl rfl (fun j u hj => by simp at hj) (by simp) (by omega) ?_; intro w1 hown hgrow)
  go_ret
  exact ⟨_, _, rfl, Nat.le_refl _, by omega, fun h => by omega, fun h => by omega, ((Below.refl _ w).alloc (Nat.le_refl _) _).grown hgrow (by simp) (fun k e => by cases e; exact Nat.le_refl _)⟩
set_option maxRecDepth 100000 in
set_option maxHeartbeats 1000000 in
theorem cloneI_is (a : Option Addr) (n ca : Nat) (F : Nat → Value) (h1 : ∀ i, i < n * 1 → (F i).oneCell' = true) (w : World) (hx : RowK w a n 1 F) (hn2 : n ≤ 1000000) (ha : 0 < n ∨ a = none ∨ ∃ p, a = some p) : Calls Try.prog 38 #[.slice a n ca] w (ClonePost w n 1 F) := by
  rcases Nat.eq_zero_or_pos n with h0 | hn
  · subst h0
    cases a with
    | none => exact cloneI_none ca F w
    | some p => exact cloneI_empty p ca F w
  · obtain ⟨b, off, rfl, hb, hc⟩ := hx hn
    obtain ⟨i0, hi0, hz0, hz1, hz2⟩ := info_parts infoIntC
    have HI0 := Lib.hid hi0; have HI1 := Lib.hid hz0; have HI2 := Lib.hid hz1; have HI3 := Lib.hid hz2
    clear hi0 hz0 hz1 hz2 ha
    have hmx : 0 + n ≤ maxLen := by unfold maxLen; omega
    have hbz : (0 + n) * 8 ≤ 140737488355328 := by omega
    have hnw : ∀ j u, ((List.range (n * 1)).map F)[j]? = some u → (w.alloc (.cells #[] 3)).cell? ((⟨b, off, none⟩ : Addr).add j) = some u := by
      intro j u hj
      have hjn : j < n * 1 := by
        have := (List.getElem?_eq_some_iff.1 hj).1
        simpa using this
      rw [List.getElem?_map, List.getElem?_range hjn] at hj
      have hu : u = F j := by simpa using hj.symm
      rw [hu, show (⟨b, off, none⟩ : Addr).add j = ⟨b, off + j, none⟩ from by unfold Addr.add; split <;> simp_all]
      exact (((Below.refl w.heap.size w).alloc (Nat.le_refl _) (.cells #[] 3)).cell (p := ⟨b, off + j, none⟩) hb).trans (hc j hjn)
    have h1c : ∀ u ∈ (List.range (n * 1)).map F, u.oneCell' = true := by
      intro u hu
      obtain ⟨i, hi, rfl⟩ := List.mem_map.1 hu
      exact h1 i (List.mem_range.1 hi)
    have hnl : ((List.range (n * 1)).map F).length = n * 1 := by simp
    have hnil := fun (W : World) => Lib.run_eql_slice_nil (P := Try.prog) W 24 3 (some ⟨b, off, none⟩) n ca 0 0 Try.underlying24
    have HNW := Lib.hid hnw; have H1C := Lib.hid h1c; have HNL := Lib.hid hnl; clear hnw h1c hnl hc h1
    go_enter Try.func38, Try.ntmps38
    go_wp2_with (at_builtin; refine wpList_append_grows _ rfl _ _ 24 rfl 3 i0 (.int .i64 0) 1 8 Try.underlying24 HI0.out HI1.out HI2.out HI3.out rfl (by decide) (some ⟨w.heap.size, 0, none⟩) 0 0 [] rfl (fun h => by cases h) rfl (fun b hb j u hj => by simp at hj) ⟨b, off, none⟩ n ca ((List.range (n * 1)).map F) rfl HNL.out HNW.out H1C.out (by omega) hmx hbz ?_; intro v' w1 hown hgrow)
    rw [Nat.zero_add, List.nil_append] at hown
    rcases hown.2 with ⟨_, h0⟩ | ⟨g, cap, cur, rfl, hg, hcell, hk, hm, _⟩
    · omega
    have hB1 := ((Below.refl w.heap.size w).alloc (Nat.le_refl _) (.cells #[] 3)).grown hgrow (by simp) (fun k e => by cases e)
    have HOW := Lib.hid hown
    have hm2 : cap ≤ 9223372036854775807 := hm
    have hg2 : w.heap.size ≤ g := by have := hg; simp at this; omega
    clear hown hgrow hcell hm
    go_wp2_with fail
    go_ret
    exact ⟨_, _, rfl, hk, hm2, RowK.of_own HOW.out, fun _ => ⟨g, rfl, hg2⟩, hB1⟩
theorem cloneI_clip (a : Option Addr) (n ca : Nat) (w : World) (h : n ≤ ca) (hc : ca ≤ 9223372036854775807) : Calls Try.prog 87 #[.slice a n ca] w fun e w' => e = .returned (.slice a n n) ∧ w = w' := by
  go_enter Try.func87, Try.ntmps87
  go_wp2_with fail
  go_ret
  exact ⟨rfl, rfl⟩
-- [[]string,string]: the function's type arguments; []string: the slice's type; string: the element's; infoStrC: its info; .string ByteArray.empty: its zero; 1: its size; 16: its bytes; cloneS: the name
set_option maxRecDepth 100000 in
theorem cloneS_none (ca : Nat) (F : Nat → Value) (w : World) : Calls Try.prog 37 #[.slice none 0 ca] w (ClonePost w 0 1 F) := by
  have hnil := fun (W : World) => Lib.run_eql_slice_nil (P := Try.prog) W 23 9 none 0 ca 0 0 Try.underlying23
  go_enter Try.func37, Try.ntmps37
  go_wp2_with fail
  go_ret
  exact ⟨none, 0, rfl, by omega, by omega, fun h => by omega, fun h => by omega, Below.refl _ _⟩
set_option maxRecDepth 100000 in
set_option maxHeartbeats 1000000 in
theorem cloneS_empty (p : Addr) (ca : Nat) (F : Nat → Value) (w : World) : Calls Try.prog 37 #[.slice (some p) 0 ca] w (ClonePost w 0 1 F) := by
  obtain ⟨i0, hi0, hz0, hz1, hz2⟩ := info_parts infoStrC
  have HI0 := Lib.hid hi0; have HI2 := Lib.hid hz1
  clear hi0 hz0 hz1 hz2
  have hnil := fun (W : World) => Lib.run_eql_slice_nil (P := Try.prog) W 23 9 (some p) 0 ca 0 0 Try.underlying23
  have HO : Hid ((w.alloc (.cells #[] 9)).ownsRow w.heap.size 9 1 (.slice (some ⟨w.heap.size, 0, none⟩) 0 0) 0 []) := ⟨rfl, .inr ⟨w.heap.size, 0, #[], rfl, Nat.le_refl _, heap_alloc_new w _, Nat.le_refl _, by simp, by simp, by simp⟩⟩
  go_enter Try.func37, Try.ntmps37
  go_wp2_with (at_builtin; refine wpList_append_fits _ rfl _ _ 23 rfl w.heap.size 9 i0 1 Try.underlying23 HI0.out HI2.out w.heap.size 0 0 [] rfl HO.out p 0 ca [] rfl rfl (fun j u hj => by simp at hj) (by simp) (by omega) ?_; intro w1 hown hgrow)
  go_ret
  exact ⟨_, _, rfl, Nat.le_refl _, by omega, fun h => by omega, fun h => by omega, ((Below.refl _ w).alloc (Nat.le_refl _) _).grown hgrow (by simp) (fun k e => by cases e; exact Nat.le_refl _)⟩
set_option maxRecDepth 100000 in
set_option maxHeartbeats 1000000 in
theorem cloneS_is (a : Option Addr) (n ca : Nat) (F : Nat → Value) (h1 : ∀ i, i < n * 1 → (F i).oneCell' = true) (w : World) (hx : RowK w a n 1 F) (hn2 : n ≤ 1000000) (ha : 0 < n ∨ a = none ∨ ∃ p, a = some p) : Calls Try.prog 37 #[.slice a n ca] w (ClonePost w n 1 F) := by
  rcases Nat.eq_zero_or_pos n with h0 | hn
  · subst h0
    cases a with
    | none => exact cloneS_none ca F w
    | some p => exact cloneS_empty p ca F w
  · obtain ⟨b, off, rfl, hb, hc⟩ := hx hn
    obtain ⟨i0, hi0, hz0, hz1, hz2⟩ := info_parts infoStrC
    have HI0 := Lib.hid hi0; have HI1 := Lib.hid hz0; have HI2 := Lib.hid hz1; have HI3 := Lib.hid hz2
    clear hi0 hz0 hz1 hz2 ha
    have hmx : 0 + n ≤ maxLen := by unfold maxLen; omega
    have hbz : (0 + n) * 16 ≤ 140737488355328 := by omega
    have hnw : ∀ j u, ((List.range (n * 1)).map F)[j]? = some u → (w.alloc (.cells #[] 9)).cell? ((⟨b, off, none⟩ : Addr).add j) = some u := by
      intro j u hj
      have hjn : j < n * 1 := by
        have := (List.getElem?_eq_some_iff.1 hj).1
        simpa using this
      rw [List.getElem?_map, List.getElem?_range hjn] at hj
      have hu : u = F j := by simpa using hj.symm
      rw [hu, show (⟨b, off, none⟩ : Addr).add j = ⟨b, off + j, none⟩ from by unfold Addr.add; split <;> simp_all]
      exact (((Below.refl w.heap.size w).alloc (Nat.le_refl _) (.cells #[] 9)).cell (p := ⟨b, off + j, none⟩) hb).trans (hc j hjn)
    have h1c : ∀ u ∈ (List.range (n * 1)).map F, u.oneCell' = true := by
      intro u hu
      obtain ⟨i, hi, rfl⟩ := List.mem_map.1 hu
      exact h1 i (List.mem_range.1 hi)
    have hnl : ((List.range (n * 1)).map F).length = n * 1 := by simp
    have hnil := fun (W : World) => Lib.run_eql_slice_nil (P := Try.prog) W 23 9 (some ⟨b, off, none⟩) n ca 0 0 Try.underlying23
    have HNW := Lib.hid hnw; have H1C := Lib.hid h1c; have HNL := Lib.hid hnl; clear hnw h1c hnl hc h1
    go_enter Try.func37, Try.ntmps37
    go_wp2_with (at_builtin; refine wpList_append_grows _ rfl _ _ 23 rfl 9 i0 (.string ByteArray.empty) 1 16 Try.underlying23 HI0.out HI1.out HI2.out HI3.out rfl (by decide) (some ⟨w.heap.size, 0, none⟩) 0 0 [] rfl (fun h => by cases h) rfl (fun b hb j u hj => by simp at hj) ⟨b, off, none⟩ n ca ((List.range (n * 1)).map F) rfl HNL.out HNW.out H1C.out (by omega) hmx hbz ?_; intro v' w1 hown hgrow)
    rw [Nat.zero_add, List.nil_append] at hown
    rcases hown.2 with ⟨_, h0⟩ | ⟨g, cap, cur, rfl, hg, hcell, hk, hm, _⟩
    · omega
    have hB1 := ((Below.refl w.heap.size w).alloc (Nat.le_refl _) (.cells #[] 9)).grown hgrow (by simp) (fun k e => by cases e)
    have HOW := Lib.hid hown
    have hm2 : cap ≤ 9223372036854775807 := hm
    have hg2 : w.heap.size ≤ g := by have := hg; simp at this; omega
    clear hown hgrow hcell hm
    go_wp2_with fail
    go_ret
    exact ⟨_, _, rfl, hk, hm2, RowK.of_own HOW.out, fun _ => ⟨g, rfl, hg2⟩, hB1⟩
theorem cloneS_clip (a : Option Addr) (n ca : Nat) (w : World) (h : n ≤ ca) (hc : ca ≤ 9223372036854775807) : Calls Try.prog 86 #[.slice a n ca] w fun e w' => e = .returned (.slice a n n) ∧ w = w' := by
  go_enter Try.func86, Try.ntmps86
  go_wp2_with fail
  go_ret
  exact ⟨rfl, rfl⟩
-- [[]tintype/api.Place,tintype/api.Place]: the function's type arguments; []api.Place: the slice's type; api.Place: the element's; infoPlaceC: its info; .agg #[.int .i64 0, .int .i64 0]: its zero; 2: its size; 16: its bytes; cloneP: the name
set_option maxRecDepth 100000 in
theorem cloneP_none (ca : Nat) (F : Nat → Value) (w : World) : Calls Try.prog 36 #[.slice none 0 ca] w (ClonePost w 0 2 F) := by
  have hnil := fun (W : World) => Lib.run_eql_slice_nil (P := Try.prog) W 22 71 none 0 ca 0 0 Try.underlying22
  go_enter Try.func36, Try.ntmps36
  go_wp2_with fail
  go_ret
  exact ⟨none, 0, rfl, by omega, by omega, fun h => by omega, fun h => by omega, Below.refl _ _⟩
set_option maxRecDepth 100000 in
set_option maxHeartbeats 1000000 in
theorem cloneP_empty (p : Addr) (ca : Nat) (F : Nat → Value) (w : World) : Calls Try.prog 36 #[.slice (some p) 0 ca] w (ClonePost w 0 2 F) := by
  obtain ⟨i0, hi0, hz0, hz1, hz2⟩ := info_parts infoPlaceC
  have HI0 := Lib.hid hi0; have HI2 := Lib.hid hz1
  clear hi0 hz0 hz1 hz2
  have hnil := fun (W : World) => Lib.run_eql_slice_nil (P := Try.prog) W 22 71 (some p) 0 ca 0 0 Try.underlying22
  have HO : Hid ((w.alloc (.cells #[] 71)).ownsRow w.heap.size 71 2 (.slice (some ⟨w.heap.size, 0, none⟩) 0 0) 0 []) := ⟨rfl, .inr ⟨w.heap.size, 0, #[], rfl, Nat.le_refl _, heap_alloc_new w _, Nat.le_refl _, by simp, by simp, by simp⟩⟩
  go_enter Try.func36, Try.ntmps36
  go_wp2_with (at_builtin; refine wpList_append_fits _ rfl _ _ 22 rfl w.heap.size 71 i0 2 Try.underlying22 HI0.out HI2.out w.heap.size 0 0 [] rfl HO.out p 0 ca [] rfl rfl (fun j u hj => by simp at hj) (by simp) (by omega) ?_; intro w1 hown hgrow)
  go_ret
  exact ⟨_, _, rfl, Nat.le_refl _, by omega, fun h => by omega, fun h => by omega, ((Below.refl _ w).alloc (Nat.le_refl _) _).grown hgrow (by simp) (fun k e => by cases e; exact Nat.le_refl _)⟩
set_option maxRecDepth 100000 in
set_option maxHeartbeats 1000000 in
theorem cloneP_is (a : Option Addr) (n ca : Nat) (F : Nat → Value) (h1 : ∀ i, i < n * 2 → (F i).oneCell' = true) (w : World) (hx : RowK w a n 2 F) (hn2 : n ≤ 1000000) (ha : 0 < n ∨ a = none ∨ ∃ p, a = some p) : Calls Try.prog 36 #[.slice a n ca] w (ClonePost w n 2 F) := by
  rcases Nat.eq_zero_or_pos n with h0 | hn
  · subst h0
    cases a with
    | none => exact cloneP_none ca F w
    | some p => exact cloneP_empty p ca F w
  · obtain ⟨b, off, rfl, hb, hc⟩ := hx hn
    obtain ⟨i0, hi0, hz0, hz1, hz2⟩ := info_parts infoPlaceC
    have HI0 := Lib.hid hi0; have HI1 := Lib.hid hz0; have HI2 := Lib.hid hz1; have HI3 := Lib.hid hz2
    clear hi0 hz0 hz1 hz2 ha
    have hmx : 0 + n ≤ maxLen := by unfold maxLen; omega
    have hbz : (0 + n) * 16 ≤ 140737488355328 := by omega
    have hnw : ∀ j u, ((List.range (n * 2)).map F)[j]? = some u → (w.alloc (.cells #[] 71)).cell? ((⟨b, off, none⟩ : Addr).add j) = some u := by
      intro j u hj
      have hjn : j < n * 2 := by
        have := (List.getElem?_eq_some_iff.1 hj).1
        simpa using this
      rw [List.getElem?_map, List.getElem?_range hjn] at hj
      have hu : u = F j := by simpa using hj.symm
      rw [hu, show (⟨b, off, none⟩ : Addr).add j = ⟨b, off + j, none⟩ from by unfold Addr.add; split <;> simp_all]
      exact (((Below.refl w.heap.size w).alloc (Nat.le_refl _) (.cells #[] 71)).cell (p := ⟨b, off + j, none⟩) hb).trans (hc j hjn)
    have h1c : ∀ u ∈ (List.range (n * 2)).map F, u.oneCell' = true := by
      intro u hu
      obtain ⟨i, hi, rfl⟩ := List.mem_map.1 hu
      exact h1 i (List.mem_range.1 hi)
    have hnl : ((List.range (n * 2)).map F).length = n * 2 := by simp
    have hnil := fun (W : World) => Lib.run_eql_slice_nil (P := Try.prog) W 22 71 (some ⟨b, off, none⟩) n ca 0 0 Try.underlying22
    have HNW := Lib.hid hnw; have H1C := Lib.hid h1c; have HNL := Lib.hid hnl; clear hnw h1c hnl hc h1
    go_enter Try.func36, Try.ntmps36
    go_wp2_with (at_builtin; refine wpList_append_grows _ rfl _ _ 22 rfl 71 i0 (.agg #[.int .i64 0, .int .i64 0]) 2 16 Try.underlying22 HI0.out HI1.out HI2.out HI3.out rfl (by decide) (some ⟨w.heap.size, 0, none⟩) 0 0 [] rfl (fun h => by cases h) rfl (fun b hb j u hj => by simp at hj) ⟨b, off, none⟩ n ca ((List.range (n * 2)).map F) rfl HNL.out HNW.out H1C.out (by omega) hmx hbz ?_; intro v' w1 hown hgrow)
    rw [Nat.zero_add, List.nil_append] at hown
    rcases hown.2 with ⟨_, h0⟩ | ⟨g, cap, cur, rfl, hg, hcell, hk, hm, _⟩
    · omega
    have hB1 := ((Below.refl w.heap.size w).alloc (Nat.le_refl _) (.cells #[] 71)).grown hgrow (by simp) (fun k e => by cases e)
    have HOW := Lib.hid hown
    have hm2 : cap ≤ 9223372036854775807 := hm
    have hg2 : w.heap.size ≤ g := by have := hg; simp at this; omega
    clear hown hgrow hcell hm
    go_wp2_with fail
    go_ret
    exact ⟨_, _, rfl, hk, hm2, RowK.of_own HOW.out, fun _ => ⟨g, rfl, hg2⟩, hB1⟩
theorem cloneP_clip (a : Option Addr) (n ca : Nat) (w : World) (h : n ≤ ca) (hc : ca ≤ 9223372036854775807) : Calls Try.prog 85 #[.slice a n ca] w fun e w' => e = .returned (.slice a n n) ∧ w = w' := by
  go_enter Try.func85, Try.ntmps85
  go_wp2_with fail
  go_ret
  exact ⟨rfl, rfl⟩
end Go.Proofs.Ytipmegkmkbbklaa

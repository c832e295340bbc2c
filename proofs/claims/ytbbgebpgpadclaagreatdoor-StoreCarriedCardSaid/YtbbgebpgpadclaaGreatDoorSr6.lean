/- Parts of the proof, no condition: StCln, StCpy, StGd, StApp, DigFix, Digits, StRpA. -/
import Derived.Test.YtbbgebpgpadclaaGreatDoorSr3
import Derived.Test.YtbbgebpgpadclaaGreatDoorSr1
import Derived.Deep.DeepCutAuto
import Derived.Shelf.Abstract
import Derived.Deep.AppendLies
import Derived.Laws.Tables
import Derived.Laws.Rows
import Derived.Laws.CopyOwn
import Derived.Test.YtbbgebpgpadclaaGreatDoorSr5
import Derived.Deep.RegionHeld3
import Derived.Test.YtbbgebpgpadclaaGreatDoorSr4
import Derived.Lib.ConvBytes
import Derived.Lib.AtoiErrMem
set_option maxRecDepth 100000
set_option maxHeartbeats 4000000
set_option linter.unusedSimpArgs false
set_option linter.unusedVariables false
namespace Go.Proofs.YtbbgebpgpadclaaGreatDoor
open Go.RowKit Go.Sort Go.Shelf Go.Maps
theorem RowE.flatAt {α : Type} {E : Enc α} (hk : 0 < E.k) {w : World} {b off : Nat} {L : List α} (h : RowE E w (some ⟨b, off, none⟩) L) : ∀ j u, (E.flat L)[j]? = some u → w.cell? ⟨b, off + j, none⟩ = some u := by
 intro j u hj
 have hlt := (List.getElem?_eq_some_iff.1 hj).1
 rw [E.flat_len] at hlt
 have hdm := Nat.div_add_mod j E.k
 have hmod := Nat.mod_lt j hk
 have hi : j / E.k < L.length := Nat.div_lt_of_lt_mul (by rw [Nat.mul_comm]; exact hlt)
 obtain ⟨b', off', e, hb, hc⟩ := h (Nat.lt_of_le_of_lt (Nat.zero_le _) hi)
 cases e
 have he : j / E.k * E.k + j % E.k = j := by rw [Nat.mul_comm]; exact hdm
 have hg := E.flat_get L (j / E.k) _ (List.getElem?_eq_getElem hi) (j % E.k) hmod
 rw [he, hj] at hg
 have := hc (j / E.k) _ (List.getElem?_eq_getElem hi) (j % E.k) u hg.symm
 rwa [Nat.add_assoc, he] at this
def ClnPost {α : Type} (E : Enc α) (t : TypeId) (w : World) (L : List α) (e : Ending) (w' : World) : Prop := ∃ a ca, e = .returned (.slice a L.length ca) ∧ OwnV w' w.heap.size t E.k (.slice a L.length ca) L.length (E.flat L) ∧ Below w.heap.size w w'
theorem infoTir : (Tryz.prog.info? 65).map (fun i => (i.zero, i.size, i.bytes)) = some (some (.agg #[.string ByteArray.empty, .int .i64 0, .int .i64 0, .bool false]), 4, 40) := by kernel_rfl
theorem infoFil : (Tryz.prog.info? 68).map (fun i => (i.zero, i.size, i.bytes)) = some (some (.agg #[.string ByteArray.empty, .int .i64 0, .int .i64 0, .string ByteArray.empty]), 4, 48) := by kernel_rfl
theorem infoCop : (Tryz.prog.info? 70).map (fun i => (i.zero, i.size, i.bytes)) = some (some (.agg #[.string ByteArray.empty, .string ByteArray.empty, .bool false, .int .i64 0]), 4, 48) := by kernel_rfl
theorem infoGon : (Tryz.prog.info? 72).map (fun i => (i.zero, i.size, i.bytes)) = some (some (.agg #[.string ByteArray.empty, .int .i64 0]), 2, 24) := by kernel_rfl
theorem infoStS : (Tryz.prog.info? 9).map (fun i => (i.zero, i.size, i.bytes)) = some (some (.string ByteArray.empty), 1, 16) := by kernel_rfl

theorem clnT_none (ca : Nat) (w : World) : Calls Tryz.prog 46 #[.slice none 0 ca] w (ClnPost St.eT 65 w []) := by
 have hnil := fun (W : World) => Lib.run_eql_slice_nil (P := Tryz.prog) W 22 65 none 0 ca 0 0 Tryz.underlying22
 go_enter Tryz.func46, Tryz.ntmps46
 go_wp2_with fail
 go_ret
 exact ⟨none, 0, rfl, .inl ⟨rfl, rfl, rfl⟩, Below.refl _ _⟩
theorem clnT_empty (p : Addr) (ca : Nat) (w : World) : Calls Tryz.prog 46 #[.slice (some p) 0 ca] w (ClnPost St.eT 65 w []) := by
 obtain ⟨i0, hi0, hz0, hz1, hz2⟩ := info_parts infoTir
 have HI0 := Lib.hid hi0; have HI2 := Lib.hid hz1
 clear hi0 hz0 hz1 hz2
 have hnil := fun (W : World) => Lib.run_eql_slice_nil (P := Tryz.prog) W 22 65 (some p) 0 ca 0 0 Tryz.underlying22
 have HO : Hid ((w.alloc (.cells #[] 65)).ownsRow w.heap.size 65 4 (.slice (some ⟨w.heap.size, 0, none⟩) 0 0) 0 []) := ⟨rfl, .inr ⟨w.heap.size, 0, #[], rfl, Nat.le_refl _, heap_alloc_new w _, Nat.le_refl _, by simp, by simp, by simp⟩⟩
 go_enter Tryz.func46, Tryz.ntmps46
 go_wp2_with (at_builtin; refine wpList_append_fits _ rfl _ _ 22 rfl w.heap.size 65 i0 4 Tryz.underlying22 HI0.out HI2.out w.heap.size 0 0 [] rfl HO.out p 0 ca [] rfl rfl (fun j u hj => by simp at hj) (by simp) (by omega) ?_; intro w1 hown hgrow)
 go_ret
 exact ⟨_, _, rfl, OwnV.of_own hown, ((Below.refl _ w).alloc (Nat.le_refl _) _).grown hgrow (by simp) (fun k e => by cases e; exact Nat.le_refl _)⟩
theorem clnT_is {L : List _} (a : Option Addr) (ca : Nat) (w : World) (hx : RowE St.eT w a L) (hn2 : L.length ≤ 1000000) : Calls Tryz.prog 46 #[.slice a L.length ca] w (ClnPost St.eT 65 w L) := by
 rcases Nat.eq_zero_or_pos L.length with h0 | hn
 ·obtain rfl := List.length_eq_zero_iff.1 h0
  cases a with
  | none => exact clnT_none ca w
  | some p => exact clnT_empty p ca w
 ·obtain ⟨b, off, rfl, hb, _⟩ := id (hx hn)
  have hc := hx.flatAt (by decide)
  obtain ⟨i0, hi0, hz0, hz1, hz2⟩ := info_parts infoTir
  have HI0 := Lib.hid hi0; have HI1 := Lib.hid hz0; have HI2 := Lib.hid hz1; have HI3 := Lib.hid hz2
  clear hi0 hz0 hz1 hz2
  have hnw : ∀ j u, (Enc.flat St.eT L)[j]? = some u → (w.alloc (.cells #[] 65)).cell? ((⟨b, off, none⟩ : Addr).add j) = some u := by
   intro j u hj
   rw [show (⟨b, off, none⟩ : Addr).add j = ⟨b, off + j, none⟩ from by unfold Addr.add; split <;> simp_all]
   exact (((Below.refl w.heap.size w).alloc (Nat.le_refl _) (.cells #[] 65)).cell (p := ⟨b, off + j, none⟩) hb).trans (hc j u hj)
  have HNW := Lib.hid hnw; have H1C := Lib.hid (Enc.flat_one St.eT L); have HNL : Hid ((Enc.flat St.eT L).length = L.length * 4) := Lib.hid (Enc.flat_len St.eT L)
  clear hnw hc hx hb
  show Calls Tryz.prog 46 #[.slice (some ⟨b, off, none⟩) L.length ca] w fun e w' => ∃ a ca, e = .returned (.slice a L.length ca) ∧ OwnV w' w.heap.size 65 4 (.slice a L.length ca) L.length (Enc.flat St.eT L) ∧ Below w.heap.size w w'
  generalize Enc.flat St.eT L = FL at *
  generalize L.length = n at *
  have hmx : 0 + n ≤ maxLen := by unfold maxLen; omega
  have hbz : (0 + n) * 40 ≤ 140737488355328 := by omega
  have hnil := fun (W : World) => Lib.run_eql_slice_nil (P := Tryz.prog) W 22 65 (some ⟨b, off, none⟩) n ca 0 0 Tryz.underlying22
  go_enter Tryz.func46, Tryz.ntmps46
  go_wp2_with (at_builtin; refine wpList_append_grows _ rfl _ _ 22 rfl 65 i0 (.agg #[.string ByteArray.empty, .int .i64 0, .int .i64 0, .bool false]) 4 40 Tryz.underlying22 HI0.out HI1.out HI2.out HI3.out rfl (by decide) (some ⟨w.heap.size, 0, none⟩) 0 0 [] rfl (fun h => by cases h) rfl (fun b hb j u hj => by simp at hj) ⟨b, off, none⟩ n ca FL rfl HNL.out HNW.out H1C.out (by omega) hmx hbz ?_; intro v' w1 hown hgrow)
  rw [Nat.zero_add, List.nil_append] at hown
  rcases hown.2 with ⟨_, h0⟩ | ⟨g, cap, cur, rfl, hg, hcell, hk, hm, _⟩
  ·omega
  have hB1 := ((Below.refl w.heap.size w).alloc (Nat.le_refl _) (.cells #[] 65)).grown hgrow (by simp) (fun k e => by cases e)
  have HOW := Lib.hid (ownsRow_down hown (show w.heap.size ≤ _ by simp))
  have hm2 : cap ≤ 9223372036854775807 := hm
  clear hown hgrow hcell hm hg
  go_wp2_with fail
  go_ret
  exact ⟨_, _, rfl, OwnV.of_own HOW.out, hB1⟩

theorem clnF_none (ca : Nat) (w : World) : Calls Tryz.prog 48 #[.slice none 0 ca] w (ClnPost St.eF 68 w []) := by
 have hnil := fun (W : World) => Lib.run_eql_slice_nil (P := Tryz.prog) W 23 68 none 0 ca 0 0 Tryz.underlying23
 go_enter Tryz.func48, Tryz.ntmps48
 go_wp2_with fail
 go_ret
 exact ⟨none, 0, rfl, .inl ⟨rfl, rfl, rfl⟩, Below.refl _ _⟩
theorem clnF_empty (p : Addr) (ca : Nat) (w : World) : Calls Tryz.prog 48 #[.slice (some p) 0 ca] w (ClnPost St.eF 68 w []) := by
 obtain ⟨i0, hi0, hz0, hz1, hz2⟩ := info_parts infoFil
 have HI0 := Lib.hid hi0; have HI2 := Lib.hid hz1
 clear hi0 hz0 hz1 hz2
 have hnil := fun (W : World) => Lib.run_eql_slice_nil (P := Tryz.prog) W 23 68 (some p) 0 ca 0 0 Tryz.underlying23
 have HO : Hid ((w.alloc (.cells #[] 68)).ownsRow w.heap.size 68 4 (.slice (some ⟨w.heap.size, 0, none⟩) 0 0) 0 []) := ⟨rfl, .inr ⟨w.heap.size, 0, #[], rfl, Nat.le_refl _, heap_alloc_new w _, Nat.le_refl _, by simp, by simp, by simp⟩⟩
 go_enter Tryz.func48, Tryz.ntmps48
 go_wp2_with (at_builtin; refine wpList_append_fits _ rfl _ _ 23 rfl w.heap.size 68 i0 4 Tryz.underlying23 HI0.out HI2.out w.heap.size 0 0 [] rfl HO.out p 0 ca [] rfl rfl (fun j u hj => by simp at hj) (by simp) (by omega) ?_; intro w1 hown hgrow)
 go_ret
 exact ⟨_, _, rfl, OwnV.of_own hown, ((Below.refl _ w).alloc (Nat.le_refl _) _).grown hgrow (by simp) (fun k e => by cases e; exact Nat.le_refl _)⟩
theorem clnF_is {L : List _} (a : Option Addr) (ca : Nat) (w : World) (hx : RowE St.eF w a L) (hn2 : L.length ≤ 1000000) : Calls Tryz.prog 48 #[.slice a L.length ca] w (ClnPost St.eF 68 w L) := by
 rcases Nat.eq_zero_or_pos L.length with h0 | hn
 ·obtain rfl := List.length_eq_zero_iff.1 h0
  cases a with
  | none => exact clnF_none ca w
  | some p => exact clnF_empty p ca w
 ·obtain ⟨b, off, rfl, hb, _⟩ := id (hx hn)
  have hc := hx.flatAt (by decide)
  obtain ⟨i0, hi0, hz0, hz1, hz2⟩ := info_parts infoFil
  have HI0 := Lib.hid hi0; have HI1 := Lib.hid hz0; have HI2 := Lib.hid hz1; have HI3 := Lib.hid hz2
  clear hi0 hz0 hz1 hz2
  have hnw : ∀ j u, (Enc.flat St.eF L)[j]? = some u → (w.alloc (.cells #[] 68)).cell? ((⟨b, off, none⟩ : Addr).add j) = some u := by
   intro j u hj
   rw [show (⟨b, off, none⟩ : Addr).add j = ⟨b, off + j, none⟩ from by unfold Addr.add; split <;> simp_all]
   exact (((Below.refl w.heap.size w).alloc (Nat.le_refl _) (.cells #[] 68)).cell (p := ⟨b, off + j, none⟩) hb).trans (hc j u hj)
  have HNW := Lib.hid hnw; have H1C := Lib.hid (Enc.flat_one St.eF L); have HNL : Hid ((Enc.flat St.eF L).length = L.length * 4) := Lib.hid (Enc.flat_len St.eF L)
  clear hnw hc hx hb
  show Calls Tryz.prog 48 #[.slice (some ⟨b, off, none⟩) L.length ca] w fun e w' => ∃ a ca, e = .returned (.slice a L.length ca) ∧ OwnV w' w.heap.size 68 4 (.slice a L.length ca) L.length (Enc.flat St.eF L) ∧ Below w.heap.size w w'
  generalize Enc.flat St.eF L = FL at *
  generalize L.length = n at *
  have hmx : 0 + n ≤ maxLen := by unfold maxLen; omega
  have hbz : (0 + n) * 48 ≤ 140737488355328 := by omega
  have hnil := fun (W : World) => Lib.run_eql_slice_nil (P := Tryz.prog) W 23 68 (some ⟨b, off, none⟩) n ca 0 0 Tryz.underlying23
  go_enter Tryz.func48, Tryz.ntmps48
  go_wp2_with (at_builtin; refine wpList_append_grows _ rfl _ _ 23 rfl 68 i0 (.agg #[.string ByteArray.empty, .int .i64 0, .int .i64 0, .string ByteArray.empty]) 4 48 Tryz.underlying23 HI0.out HI1.out HI2.out HI3.out rfl (by decide) (some ⟨w.heap.size, 0, none⟩) 0 0 [] rfl (fun h => by cases h) rfl (fun b hb j u hj => by simp at hj) ⟨b, off, none⟩ n ca FL rfl HNL.out HNW.out H1C.out (by omega) hmx hbz ?_; intro v' w1 hown hgrow)
  rw [Nat.zero_add, List.nil_append] at hown
  rcases hown.2 with ⟨_, h0⟩ | ⟨g, cap, cur, rfl, hg, hcell, hk, hm, _⟩
  ·omega
  have hB1 := ((Below.refl w.heap.size w).alloc (Nat.le_refl _) (.cells #[] 68)).grown hgrow (by simp) (fun k e => by cases e)
  have HOW := Lib.hid (ownsRow_down hown (show w.heap.size ≤ _ by simp))
  have hm2 : cap ≤ 9223372036854775807 := hm
  clear hown hgrow hcell hm hg
  go_wp2_with fail
  go_ret
  exact ⟨_, _, rfl, OwnV.of_own HOW.out, hB1⟩

theorem clnC_none (ca : Nat) (w : World) : Calls Tryz.prog 50 #[.slice none 0 ca] w (ClnPost St.eC 70 w []) := by
 have hnil := fun (W : World) => Lib.run_eql_slice_nil (P := Tryz.prog) W 24 70 none 0 ca 0 0 Tryz.underlying24
 go_enter Tryz.func50, Tryz.ntmps50
 go_wp2_with fail
 go_ret
 exact ⟨none, 0, rfl, .inl ⟨rfl, rfl, rfl⟩, Below.refl _ _⟩
theorem clnC_empty (p : Addr) (ca : Nat) (w : World) : Calls Tryz.prog 50 #[.slice (some p) 0 ca] w (ClnPost St.eC 70 w []) := by
 obtain ⟨i0, hi0, hz0, hz1, hz2⟩ := info_parts infoCop
 have HI0 := Lib.hid hi0; have HI2 := Lib.hid hz1
 clear hi0 hz0 hz1 hz2
 have hnil := fun (W : World) => Lib.run_eql_slice_nil (P := Tryz.prog) W 24 70 (some p) 0 ca 0 0 Tryz.underlying24
 have HO : Hid ((w.alloc (.cells #[] 70)).ownsRow w.heap.size 70 4 (.slice (some ⟨w.heap.size, 0, none⟩) 0 0) 0 []) := ⟨rfl, .inr ⟨w.heap.size, 0, #[], rfl, Nat.le_refl _, heap_alloc_new w _, Nat.le_refl _, by simp, by simp, by simp⟩⟩
 go_enter Tryz.func50, Tryz.ntmps50
 go_wp2_with (at_builtin; refine wpList_append_fits _ rfl _ _ 24 rfl w.heap.size 70 i0 4 Tryz.underlying24 HI0.out HI2.out w.heap.size 0 0 [] rfl HO.out p 0 ca [] rfl rfl (fun j u hj => by simp at hj) (by simp) (by omega) ?_; intro w1 hown hgrow)
 go_ret
 exact ⟨_, _, rfl, OwnV.of_own hown, ((Below.refl _ w).alloc (Nat.le_refl _) _).grown hgrow (by simp) (fun k e => by cases e; exact Nat.le_refl _)⟩
theorem clnC_is {L : List _} (a : Option Addr) (ca : Nat) (w : World) (hx : RowE St.eC w a L) (hn2 : L.length ≤ 1000000) : Calls Tryz.prog 50 #[.slice a L.length ca] w (ClnPost St.eC 70 w L) := by
 rcases Nat.eq_zero_or_pos L.length with h0 | hn
 ·obtain rfl := List.length_eq_zero_iff.1 h0
  cases a with
  | none => exact clnC_none ca w
  | some p => exact clnC_empty p ca w
 ·obtain ⟨b, off, rfl, hb, _⟩ := id (hx hn)
  have hc := hx.flatAt (by decide)
  obtain ⟨i0, hi0, hz0, hz1, hz2⟩ := info_parts infoCop
  have HI0 := Lib.hid hi0; have HI1 := Lib.hid hz0; have HI2 := Lib.hid hz1; have HI3 := Lib.hid hz2
  clear hi0 hz0 hz1 hz2
  have hnw : ∀ j u, (Enc.flat St.eC L)[j]? = some u → (w.alloc (.cells #[] 70)).cell? ((⟨b, off, none⟩ : Addr).add j) = some u := by
   intro j u hj
   rw [show (⟨b, off, none⟩ : Addr).add j = ⟨b, off + j, none⟩ from by unfold Addr.add; split <;> simp_all]
   exact (((Below.refl w.heap.size w).alloc (Nat.le_refl _) (.cells #[] 70)).cell (p := ⟨b, off + j, none⟩) hb).trans (hc j u hj)
  have HNW := Lib.hid hnw; have H1C := Lib.hid (Enc.flat_one St.eC L); have HNL : Hid ((Enc.flat St.eC L).length = L.length * 4) := Lib.hid (Enc.flat_len St.eC L)
  clear hnw hc hx hb
  show Calls Tryz.prog 50 #[.slice (some ⟨b, off, none⟩) L.length ca] w fun e w' => ∃ a ca, e = .returned (.slice a L.length ca) ∧ OwnV w' w.heap.size 70 4 (.slice a L.length ca) L.length (Enc.flat St.eC L) ∧ Below w.heap.size w w'
  generalize Enc.flat St.eC L = FL at *
  generalize L.length = n at *
  have hmx : 0 + n ≤ maxLen := by unfold maxLen; omega
  have hbz : (0 + n) * 48 ≤ 140737488355328 := by omega
  have hnil := fun (W : World) => Lib.run_eql_slice_nil (P := Tryz.prog) W 24 70 (some ⟨b, off, none⟩) n ca 0 0 Tryz.underlying24
  go_enter Tryz.func50, Tryz.ntmps50
  go_wp2_with (at_builtin; refine wpList_append_grows _ rfl _ _ 24 rfl 70 i0 (.agg #[.string ByteArray.empty, .string ByteArray.empty, .bool false, .int .i64 0]) 4 48 Tryz.underlying24 HI0.out HI1.out HI2.out HI3.out rfl (by decide) (some ⟨w.heap.size, 0, none⟩) 0 0 [] rfl (fun h => by cases h) rfl (fun b hb j u hj => by simp at hj) ⟨b, off, none⟩ n ca FL rfl HNL.out HNW.out H1C.out (by omega) hmx hbz ?_; intro v' w1 hown hgrow)
  rw [Nat.zero_add, List.nil_append] at hown
  rcases hown.2 with ⟨_, h0⟩ | ⟨g, cap, cur, rfl, hg, hcell, hk, hm, _⟩
  ·omega
  have hB1 := ((Below.refl w.heap.size w).alloc (Nat.le_refl _) (.cells #[] 70)).grown hgrow (by simp) (fun k e => by cases e)
  have HOW := Lib.hid (ownsRow_down hown (show w.heap.size ≤ _ by simp))
  have hm2 : cap ≤ 9223372036854775807 := hm
  clear hown hgrow hcell hm hg
  go_wp2_with fail
  go_ret
  exact ⟨_, _, rfl, OwnV.of_own HOW.out, hB1⟩

theorem clnS_none (ca : Nat) (w : World) : Calls Tryz.prog 52 #[.slice none 0 ca] w (ClnPost St.eS 9 w []) := by
 have hnil := fun (W : World) => Lib.run_eql_slice_nil (P := Tryz.prog) W 25 9 none 0 ca 0 0 Tryz.underlying25
 go_enter Tryz.func52, Tryz.ntmps52
 go_wp2_with fail
 go_ret
 exact ⟨none, 0, rfl, .inl ⟨rfl, rfl, rfl⟩, Below.refl _ _⟩
theorem clnS_empty (p : Addr) (ca : Nat) (w : World) : Calls Tryz.prog 52 #[.slice (some p) 0 ca] w (ClnPost St.eS 9 w []) := by
 obtain ⟨i0, hi0, hz0, hz1, hz2⟩ := info_parts infoStS
 have HI0 := Lib.hid hi0; have HI2 := Lib.hid hz1
 clear hi0 hz0 hz1 hz2
 have hnil := fun (W : World) => Lib.run_eql_slice_nil (P := Tryz.prog) W 25 9 (some p) 0 ca 0 0 Tryz.underlying25
 have HO : Hid ((w.alloc (.cells #[] 9)).ownsRow w.heap.size 9 1 (.slice (some ⟨w.heap.size, 0, none⟩) 0 0) 0 []) := ⟨rfl, .inr ⟨w.heap.size, 0, #[], rfl, Nat.le_refl _, heap_alloc_new w _, Nat.le_refl _, by simp, by simp, by simp⟩⟩
 go_enter Tryz.func52, Tryz.ntmps52
 go_wp2_with (at_builtin; refine wpList_append_fits _ rfl _ _ 25 rfl w.heap.size 9 i0 1 Tryz.underlying25 HI0.out HI2.out w.heap.size 0 0 [] rfl HO.out p 0 ca [] rfl rfl (fun j u hj => by simp at hj) (by simp) (by omega) ?_; intro w1 hown hgrow)
 go_ret
 exact ⟨_, _, rfl, OwnV.of_own hown, ((Below.refl _ w).alloc (Nat.le_refl _) _).grown hgrow (by simp) (fun k e => by cases e; exact Nat.le_refl _)⟩
theorem clnS_is {L : List _} (a : Option Addr) (ca : Nat) (w : World) (hx : RowE St.eS w a L) (hn2 : L.length ≤ 1000000) : Calls Tryz.prog 52 #[.slice a L.length ca] w (ClnPost St.eS 9 w L) := by
 rcases Nat.eq_zero_or_pos L.length with h0 | hn
 ·obtain rfl := List.length_eq_zero_iff.1 h0
  cases a with
  | none => exact clnS_none ca w
  | some p => exact clnS_empty p ca w
 ·obtain ⟨b, off, rfl, hb, _⟩ := id (hx hn)
  have hc := hx.flatAt (by decide)
  obtain ⟨i0, hi0, hz0, hz1, hz2⟩ := info_parts infoStS
  have HI0 := Lib.hid hi0; have HI1 := Lib.hid hz0; have HI2 := Lib.hid hz1; have HI3 := Lib.hid hz2
  clear hi0 hz0 hz1 hz2
  have hnw : ∀ j u, (Enc.flat St.eS L)[j]? = some u → (w.alloc (.cells #[] 9)).cell? ((⟨b, off, none⟩ : Addr).add j) = some u := by
   intro j u hj
   rw [show (⟨b, off, none⟩ : Addr).add j = ⟨b, off + j, none⟩ from by unfold Addr.add; split <;> simp_all]
   exact (((Below.refl w.heap.size w).alloc (Nat.le_refl _) (.cells #[] 9)).cell (p := ⟨b, off + j, none⟩) hb).trans (hc j u hj)
  have HNW := Lib.hid hnw; have H1C := Lib.hid (Enc.flat_one St.eS L); have HNL : Hid ((Enc.flat St.eS L).length = L.length * 1) := Lib.hid (Enc.flat_len St.eS L)
  clear hnw hc hx hb
  show Calls Tryz.prog 52 #[.slice (some ⟨b, off, none⟩) L.length ca] w fun e w' => ∃ a ca, e = .returned (.slice a L.length ca) ∧ OwnV w' w.heap.size 9 1 (.slice a L.length ca) L.length (Enc.flat St.eS L) ∧ Below w.heap.size w w'
  generalize Enc.flat St.eS L = FL at *
  generalize L.length = n at *
  have hmx : 0 + n ≤ maxLen := by unfold maxLen; omega
  have hbz : (0 + n) * 16 ≤ 140737488355328 := by omega
  have hnil := fun (W : World) => Lib.run_eql_slice_nil (P := Tryz.prog) W 25 9 (some ⟨b, off, none⟩) n ca 0 0 Tryz.underlying25
  go_enter Tryz.func52, Tryz.ntmps52
  go_wp2_with (at_builtin; refine wpList_append_grows _ rfl _ _ 25 rfl 9 i0 (.string ByteArray.empty) 1 16 Tryz.underlying25 HI0.out HI1.out HI2.out HI3.out rfl (by decide) (some ⟨w.heap.size, 0, none⟩) 0 0 [] rfl (fun h => by cases h) rfl (fun b hb j u hj => by simp at hj) ⟨b, off, none⟩ n ca FL rfl HNL.out HNW.out H1C.out (by omega) hmx hbz ?_; intro v' w1 hown hgrow)
  rw [Nat.zero_add, List.nil_append] at hown
  rcases hown.2 with ⟨_, h0⟩ | ⟨g, cap, cur, rfl, hg, hcell, hk, hm, _⟩
  ·omega
  have hB1 := ((Below.refl w.heap.size w).alloc (Nat.le_refl _) (.cells #[] 9)).grown hgrow (by simp) (fun k e => by cases e)
  have HOW := Lib.hid (ownsRow_down hown (show w.heap.size ≤ _ by simp))
  have hm2 : cap ≤ 9223372036854775807 := hm
  clear hown hgrow hcell hm hg
  go_wp2_with fail
  go_ret
  exact ⟨_, _, rfl, OwnV.of_own HOW.out, hB1⟩

theorem clnG_none (ca : Nat) (w : World) : Calls Tryz.prog 54 #[.slice none 0 ca] w (ClnPost St.eG 72 w []) := by
 have hnil := fun (W : World) => Lib.run_eql_slice_nil (P := Tryz.prog) W 26 72 none 0 ca 0 0 Tryz.underlying26
 go_enter Tryz.func54, Tryz.ntmps54
 go_wp2_with fail
 go_ret
 exact ⟨none, 0, rfl, .inl ⟨rfl, rfl, rfl⟩, Below.refl _ _⟩
theorem clnG_empty (p : Addr) (ca : Nat) (w : World) : Calls Tryz.prog 54 #[.slice (some p) 0 ca] w (ClnPost St.eG 72 w []) := by
 obtain ⟨i0, hi0, hz0, hz1, hz2⟩ := info_parts infoGon
 have HI0 := Lib.hid hi0; have HI2 := Lib.hid hz1
 clear hi0 hz0 hz1 hz2
 have hnil := fun (W : World) => Lib.run_eql_slice_nil (P := Tryz.prog) W 26 72 (some p) 0 ca 0 0 Tryz.underlying26
 have HO : Hid ((w.alloc (.cells #[] 72)).ownsRow w.heap.size 72 2 (.slice (some ⟨w.heap.size, 0, none⟩) 0 0) 0 []) := ⟨rfl, .inr ⟨w.heap.size, 0, #[], rfl, Nat.le_refl _, heap_alloc_new w _, Nat.le_refl _, by simp, by simp, by simp⟩⟩
 go_enter Tryz.func54, Tryz.ntmps54
 go_wp2_with (at_builtin; refine wpList_append_fits _ rfl _ _ 26 rfl w.heap.size 72 i0 2 Tryz.underlying26 HI0.out HI2.out w.heap.size 0 0 [] rfl HO.out p 0 ca [] rfl rfl (fun j u hj => by simp at hj) (by simp) (by omega) ?_; intro w1 hown hgrow)
 go_ret
 exact ⟨_, _, rfl, OwnV.of_own hown, ((Below.refl _ w).alloc (Nat.le_refl _) _).grown hgrow (by simp) (fun k e => by cases e; exact Nat.le_refl _)⟩
theorem clnG_is {L : List _} (a : Option Addr) (ca : Nat) (w : World) (hx : RowE St.eG w a L) (hn2 : L.length ≤ 1000000) : Calls Tryz.prog 54 #[.slice a L.length ca] w (ClnPost St.eG 72 w L) := by
 rcases Nat.eq_zero_or_pos L.length with h0 | hn
 ·obtain rfl := List.length_eq_zero_iff.1 h0
  cases a with
  | none => exact clnG_none ca w
  | some p => exact clnG_empty p ca w
 ·obtain ⟨b, off, rfl, hb, _⟩ := id (hx hn)
  have hc := hx.flatAt (by decide)
  obtain ⟨i0, hi0, hz0, hz1, hz2⟩ := info_parts infoGon
  have HI0 := Lib.hid hi0; have HI1 := Lib.hid hz0; have HI2 := Lib.hid hz1; have HI3 := Lib.hid hz2
  clear hi0 hz0 hz1 hz2
  have hnw : ∀ j u, (Enc.flat St.eG L)[j]? = some u → (w.alloc (.cells #[] 72)).cell? ((⟨b, off, none⟩ : Addr).add j) = some u := by
   intro j u hj
   rw [show (⟨b, off, none⟩ : Addr).add j = ⟨b, off + j, none⟩ from by unfold Addr.add; split <;> simp_all]
   exact (((Below.refl w.heap.size w).alloc (Nat.le_refl _) (.cells #[] 72)).cell (p := ⟨b, off + j, none⟩) hb).trans (hc j u hj)
  have HNW := Lib.hid hnw; have H1C := Lib.hid (Enc.flat_one St.eG L); have HNL : Hid ((Enc.flat St.eG L).length = L.length * 2) := Lib.hid (Enc.flat_len St.eG L)
  clear hnw hc hx hb
  show Calls Tryz.prog 54 #[.slice (some ⟨b, off, none⟩) L.length ca] w fun e w' => ∃ a ca, e = .returned (.slice a L.length ca) ∧ OwnV w' w.heap.size 72 2 (.slice a L.length ca) L.length (Enc.flat St.eG L) ∧ Below w.heap.size w w'
  generalize Enc.flat St.eG L = FL at *
  generalize L.length = n at *
  have hmx : 0 + n ≤ maxLen := by unfold maxLen; omega
  have hbz : (0 + n) * 24 ≤ 140737488355328 := by omega
  have hnil := fun (W : World) => Lib.run_eql_slice_nil (P := Tryz.prog) W 26 72 (some ⟨b, off, none⟩) n ca 0 0 Tryz.underlying26
  go_enter Tryz.func54, Tryz.ntmps54
  go_wp2_with (at_builtin; refine wpList_append_grows _ rfl _ _ 26 rfl 72 i0 (.agg #[.string ByteArray.empty, .int .i64 0]) 2 24 Tryz.underlying26 HI0.out HI1.out HI2.out HI3.out rfl (by decide) (some ⟨w.heap.size, 0, none⟩) 0 0 [] rfl (fun h => by cases h) rfl (fun b hb j u hj => by simp at hj) ⟨b, off, none⟩ n ca FL rfl HNL.out HNW.out H1C.out (by omega) hmx hbz ?_; intro v' w1 hown hgrow)
  rw [Nat.zero_add, List.nil_append] at hown
  rcases hown.2 with ⟨_, h0⟩ | ⟨g, cap, cur, rfl, hg, hcell, hk, hm, _⟩
  ·omega
  have hB1 := ((Below.refl w.heap.size w).alloc (Nat.le_refl _) (.cells #[] 72)).grown hgrow (by simp) (fun k e => by cases e)
  have HOW := Lib.hid (ownsRow_down hown (show w.heap.size ≤ _ by simp))
  have hm2 : cap ≤ 9223372036854775807 := hm
  clear hown hgrow hcell hm hg
  go_wp2_with fail
  go_ret
  exact ⟨_, _, rfl, OwnV.of_own HOW.out, hB1⟩
theorem clnT_clip (a : Option Addr) (n ca : Nat) (w : World) (h : n ≤ ca) (hc : ca ≤ 9223372036854775807) : Calls Tryz.prog 45 #[.slice a n ca] w fun e w' => e = .returned (.slice a n n) ∧ w = w' := by
 go_enter Tryz.func45, Tryz.ntmps45
 go_wp2_with fail
 go_ret
 exact ⟨rfl, rfl⟩
theorem clnF_clip (a : Option Addr) (n ca : Nat) (w : World) (h : n ≤ ca) (hc : ca ≤ 9223372036854775807) : Calls Tryz.prog 47 #[.slice a n ca] w fun e w' => e = .returned (.slice a n n) ∧ w = w' := by
 go_enter Tryz.func47, Tryz.ntmps47
 go_wp2_with fail
 go_ret
 exact ⟨rfl, rfl⟩
theorem clnC_clip (a : Option Addr) (n ca : Nat) (w : World) (h : n ≤ ca) (hc : ca ≤ 9223372036854775807) : Calls Tryz.prog 49 #[.slice a n ca] w fun e w' => e = .returned (.slice a n n) ∧ w = w' := by
 go_enter Tryz.func49, Tryz.ntmps49
 go_wp2_with fail
 go_ret
 exact ⟨rfl, rfl⟩
theorem clnS_clip (a : Option Addr) (n ca : Nat) (w : World) (h : n ≤ ca) (hc : ca ≤ 9223372036854775807) : Calls Tryz.prog 51 #[.slice a n ca] w fun e w' => e = .returned (.slice a n n) ∧ w = w' := by
 go_enter Tryz.func51, Tryz.ntmps51
 go_wp2_with fail
 go_ret
 exact ⟨rfl, rfl⟩
theorem clnG_clip (a : Option Addr) (n ca : Nat) (w : World) (h : n ≤ ca) (hc : ca ≤ 9223372036854775807) : Calls Tryz.prog 53 #[.slice a n ca] w fun e w' => e = .returned (.slice a n n) ∧ w = w' := by
 go_enter Tryz.func53, Tryz.ntmps53
 go_wp2_with fail
 go_ret
 exact ⟨rfl, rfl⟩
theorem OwnV.down {w : World} {B B' k n : Nat} {e : TypeId} {v : Value} {xs : List Value} (h : OwnV w B e k v n xs) (hb : B' ≤ B) : OwnV w B' e k v n xs := by
 rcases h with h | ⟨g, cap, h, hc⟩
 ·exact .inl h
 ·exact .inr ⟨g, cap, h, hc.down hb⟩
theorem OwnV.next {V w3 : World} {B k n b i : Nat} {e : TypeId} {v u : Value} {xs : List Value} (h : OwnV V B e k v n xs) (hq : Below V.heap.size V w3) (hb : b < B) : OwnV (w3.setCell ⟨b, i, none⟩ u) B e k v n xs := by
 rcases h with h | ⟨g, cap, h, hc⟩
 ·exact .inl h
 ·refine .inr ⟨g, cap, h, (hc.keep hq).of_block (Below.heap_setCell w3 _ u g ?_)⟩
  have := hc.lt.1
  show g ≠ b
  omega
theorem OwnV.caps {w : World} {B k n ca : Nat} {e : TypeId} {a : Option Addr} {xs : List Value} (h : OwnV w B e k (.slice a n ca) n xs) : n ≤ ca ∧ ca ≤ 9223372036854775807 := by
 obtain ⟨a', ca', e1, h1, h2⟩ := h.form
 cases e1
 exact ⟨h1, h2⟩
structure StSz (s : Sto) : Prop where
 tz : ∀ t ∈ s.tiers, t.name.size ≤ 9223372036854775807
 fz : ∀ f ∈ s.files, f.dig.size ≤ 9223372036854775807 ∧ f.frm.size ≤ 9223372036854775807
 cz : ∀ c ∈ s.copies, c.dig.size ≤ 9223372036854775807 ∧ c.tier.size ≤ 9223372036854775807
 hz : ∀ d ∈ s.held, d.size ≤ 9223372036854775807
 bz : ∀ g ∈ s.bin, g.dig.size ≤ 9223372036854775807
theorem StIn.sz {w : World} {s : Sto} {a : StA} (h : StIn w s a) : StSz s := ⟨h.tz, h.fz, h.cz, h.hz, h.bz⟩
structure StOwn (w : World) (B : Nat) (s : Sto) (a : StA) : Prop where
 ti : OwnV w B 65 4 (.slice a.ta s.tiers.length a.tc) s.tiers.length (St.eT.flat s.tiers)
 fi : OwnV w B 68 4 (.slice a.fa s.files.length a.fc) s.files.length (St.eF.flat s.files)
 co : OwnV w B 70 4 (.slice a.ca s.copies.length a.cc) s.copies.length (St.eC.flat s.copies)
 he : OwnV w B 9 1 (.slice a.ha s.held.length a.hc) s.held.length (St.eS.flat s.held)
 bi : OwnV w B 72 2 (.slice a.ba s.bin.length a.bc) s.bin.length (St.eG.flat s.bin)
theorem RowE.ofV {α : Type} {E : Enc α} {w : World} {B ca : Nat} {e : TypeId} {a : Option Addr} {L : List α} (h : OwnV w B e E.k (.slice a L.length ca) L.length (E.flat L)) : RowE E w a L := by
 obtain ⟨a', ca', e1, _, _, hr⟩ := RowE.of_own h rfl
 cases e1
 exact hr
theorem StOwn.in_ {w : World} {B : Nat} {s : Sto} {a : StA} (h : StOwn w B s a) (z : StSz s) : StIn w s a :=
 ⟨RowE.ofV (E := St.eT) h.ti, RowE.ofV (E := St.eF) h.fi, RowE.ofV (E := St.eC) h.co, RowE.ofV (E := St.eS) h.he, RowE.ofV (E := St.eG) h.bi, h.ti.caps, h.fi.caps, h.co.caps, h.he.caps, h.bi.caps, z.tz, z.fz, z.cz, z.hz, z.bz⟩
theorem StOwn.down {w : World} {B B' : Nat} {s : Sto} {a : StA} (h : StOwn w B s a) (hb : B' ≤ B) : StOwn w B' s a := ⟨h.ti.down hb, h.fi.down hb, h.co.down hb, h.he.down hb, h.bi.down hb⟩
theorem StOwn.keep {w w' : World} {B : Nat} {s : Sto} {a : StA} (h : StOwn w B s a) (hb : Below w.heap.size w w') : StOwn w' B s a := ⟨h.ti.keep hb, h.fi.keep hb, h.co.keep hb, h.he.keep hb, h.bi.keep hb⟩
def StLen (s : Sto) : Prop := s.tiers.length ≤ 8 ∧ s.files.length ≤ 500 ∧ s.copies.length ≤ 4000 ∧ s.held.length ≤ 500 ∧ s.bin.length ≤ 500
theorem Blk.seven {w : World} {b : Nat} {t : TypeId} {x0 x1 x2 x3 x4 x5 x6 : Value} (h : Blk w b #[x0, x1, x2, x3, x4, x5, x6] t) : w.cell? ⟨b, 0, none⟩ = some x0 ∧ w.cell? ⟨b, 1, none⟩ = some x1 ∧ w.cell? ⟨b, 2, none⟩ = some x2 ∧ w.cell? ⟨b, 3, none⟩ = some x3 ∧ w.cell? ⟨b, 4, none⟩ = some x4 ∧ w.cell? ⟨b, 5, none⟩ = some x5 ∧ w.cell? ⟨b, 6, none⟩ = some x6 :=
 ⟨by rw [h.cell]; rfl, by rw [h.cell]; rfl, by rw [h.cell]; rfl, by rw [h.cell]; rfl, by rw [h.cell]; rfl, by rw [h.cell]; rfl, by rw [h.cell]; rfl⟩
theorem infoSto : (Tryz.prog.info? 28).map (·.size) = some 7 := by kernel_rfl
theorem OwnV.setRow {w : World} {B k n b : Nat} {e : TypeId} {v : Value} {xs : List Value} (h : OwnV w B e k v n xs) (hb : b < B) (cs : Array Value) : OwnV (w.setRow b cs) B e k v n xs := by
 rcases h with h | ⟨g, cap, h, hc⟩
 ·exact .inl h
 ·refine .inr ⟨g, cap, h, hc.of_block (setRow_other w b g cs ?_)⟩
  have := hc.lt.1
  omega
theorem StOwn.setRow {w : World} {B b : Nat} {s : Sto} {a : StA} (h : StOwn w B s a) (hb : b < B) (cs : Array Value) : StOwn (w.setRow b cs) B s a := ⟨h.ti.setRow hb cs, h.fi.setRow hb cs, h.co.setRow hb cs, h.he.setRow hb cs, h.bi.setRow hb cs⟩
def CpyPost (w : World) (s : Sto) (e : Ending) (w' : World) : Prop := ∃ a' : StA, e = .returned (.agg #[.int .i64 s.least, .int .i64 s.wait, .slice a'.ta s.tiers.length a'.tc, .slice a'.fa s.files.length a'.fc, .slice a'.ca s.copies.length a'.cc, .slice a'.ha s.held.length a'.hc, .slice a'.ba s.bin.length a'.bc]) ∧ StOwn w' w.heap.size s a' ∧ Below w.heap.size w w'
theorem copyStore_is (s : Sto) (a : StA) (w : World) (hI : StIn w s a) (hn : StLen s) : Calls Tryz.prog 18 #[.agg #[.int .i64 s.least, .int .i64 s.wait, .slice a.ta s.tiers.length a.tc, .slice a.fa s.files.length a.fc, .slice a.ca s.copies.length a.cc, .slice a.ha s.held.length a.hc, .slice a.ba s.bin.length a.bc]] w (CpyPost w s) := by
 obtain ⟨n2, n3, n4, n5, n6⟩ := hn
 have z := Lib.hid hI.sz
 have HC2 : Hid (∀ V, Below w.heap.size w V → Calls Tryz.prog 46 #[.slice a.ta s.tiers.length a.tc] V (ClnPost St.eT 65 V s.tiers)) := Lib.hid fun V hV => clnT_is a.ta a.tc V (hI.ti.keep hV) (by omega)
 have HC3 : Hid (∀ V, Below w.heap.size w V → Calls Tryz.prog 48 #[.slice a.fa s.files.length a.fc] V (ClnPost St.eF 68 V s.files)) := Lib.hid fun V hV => clnF_is a.fa a.fc V (hI.fi.keep hV) (by omega)
 have HC4 : Hid (∀ V, Below w.heap.size w V → Calls Tryz.prog 50 #[.slice a.ca s.copies.length a.cc] V (ClnPost St.eC 70 V s.copies)) := Lib.hid fun V hV => clnC_is a.ca a.cc V (hI.co.keep hV) (by omega)
 have HC5 : Hid (∀ V, Below w.heap.size w V → Calls Tryz.prog 52 #[.slice a.ha s.held.length a.hc] V (ClnPost St.eS 9 V s.held)) := Lib.hid fun V hV => clnS_is a.ha a.hc V (hI.he.keep hV) (by omega)
 have HC6 : Hid (∀ V, Below w.heap.size w V → Calls Tryz.prog 54 #[.slice a.ba s.bin.length a.bc] V (ClnPost St.eG 72 V s.bin)) := Lib.hid fun V hV => clnG_is a.ba a.bc V (hI.bi.keep hV) (by omega)
 clear hI
 obtain ⟨W1, hW1, hP, hz1, hB1⟩ := box w #[.int .i64 s.least, .int .i64 s.wait, .slice a.ta s.tiers.length a.tc, .slice a.fa s.files.length a.fc, .slice a.ca s.copies.length a.cc, .slice a.ha s.held.length a.hc, .slice a.ba s.bin.length a.bc] 28
 obtain ⟨W2, hW2, hQ, hz2, hB2⟩ := box W1 #[.int .i64 0, .int .i64 0, .slice none 0 0, .slice none 0 0, .slice none 0 0, .slice none 0 0, .slice none 0 0] 28
 have HW1 := Lib.hid hW1; have HW2 := Lib.hid hW2
 have hP := hP.keep hB2
 rw [hz1] at hQ hz2
 have hB := below_up hB1 hB2
 have hs : w.heap.size + 2 ≤ W2.heap.size := by omega
 clear hW1 hW2 hz1 hz2 hB1 hB2
 go_enter Tryz.func18, Tryz.ntmps18
 go_upto_region 1 with fail
 rw [HW1.out, HW2.out]
 obtain ⟨q0, q1, q2, q3, q4, q5, q6⟩ := hP.seven
 have qf := hP.free
 go_wp2_with fail
 go_at_call 46
 refine (HC2.out _ hB).mono ?_
 rintro e w2 ⟨b2, d2, rfl, ho, hq⟩
 obtain ⟨l1, l2⟩ := ho.caps
 clear q0 q1 q2 q3 q4 q5 q6 qf
 obtain ⟨q0, q1, q2, q3, q4, q5, q6⟩ := (hP.keep hq).seven
 have qf := (hP.keep hq).free
 go_upto_region 2 with (go_at_call 45; (with_reducible refine (clnT_clip _ _ _ _ l1 l2).mono ?_); rintro e wc ⟨rfl, rfl⟩)
 have hPs := (hP.keep hq).set 2 (.slice b2 s.tiers.length s.tiers.length)
 have hQs := (hQ.keep hq).setOther (a := ⟨w.heap.size, 2, none⟩) (by simp) (.slice b2 s.tiers.length s.tiers.length)
 have hBs := (below_up hB hq).setCell (p := ⟨w.heap.size, 2, none⟩) (by simp) (.slice b2 s.tiers.length s.tiers.length)
 have o2 := ((ho.clip.down hs).next (i := 2) (b := w.heap.size) (u := .slice b2 s.tiers.length s.tiers.length) (Below.refl _ _) (by omega))
 have hs' : w.heap.size + 2 ≤ (w2.setCell ⟨w.heap.size, 2, none⟩ (.slice b2 s.tiers.length s.tiers.length)).heap.size := by have := hq.size; simp; omega
 obtain ⟨V2, hV2⟩ : ∃ V, w2.setCell ⟨w.heap.size, 2, none⟩ (.slice b2 s.tiers.length s.tiers.length) = V := ⟨_, rfl⟩
 rw [hV2] at hPs hQs hBs hs' o2 ⊢
 clear q0 q1 q2 q3 q4 q5 q6 qf hV2 hP hQ hB hs ho hq l1 l2
 have hP : Blk V2 w.heap.size #[.int .i64 s.least, .int .i64 s.wait, .slice b2 s.tiers.length s.tiers.length, .slice a.fa s.files.length a.fc, .slice a.ca s.copies.length a.cc, .slice a.ha s.held.length a.hc, .slice a.ba s.bin.length a.bc] 28 := hPs
 have hQ := hQs; have hB := hBs; have hs := hs'
 clear hPs hQs hBs hs'
 obtain ⟨q0, q1, q2, q3, q4, q5, q6⟩ := hP.seven
 have qf := hP.free
 go_wp2_with fail
 go_at_call 48
 refine (HC3.out _ hB).mono ?_
 rintro e w3 ⟨b3, d3, rfl, ho, hq⟩
 obtain ⟨l1, l2⟩ := ho.caps
 clear q0 q1 q2 q3 q4 q5 q6 qf
 obtain ⟨q0, q1, q2, q3, q4, q5, q6⟩ := (hP.keep hq).seven
 have qf := (hP.keep hq).free
 go_upto_region 3 with (go_at_call 47; (with_reducible refine (clnF_clip _ _ _ _ l1 l2).mono ?_); rintro e wc ⟨rfl, rfl⟩)
 have hPs := (hP.keep hq).set 3 (.slice b3 s.files.length s.files.length)
 have hQs := (hQ.keep hq).setOther (a := ⟨w.heap.size, 3, none⟩) (by simp) (.slice b3 s.files.length s.files.length)
 have hBs := (below_up hB hq).setCell (p := ⟨w.heap.size, 3, none⟩) (by simp) (.slice b3 s.files.length s.files.length)
 have o3 := ((ho.clip.down hs).next (i := 3) (b := w.heap.size) (u := .slice b3 s.files.length s.files.length) (Below.refl _ _) (by omega))
 have o2 := o2.next (i := 3) (b := w.heap.size) (u := .slice b3 s.files.length s.files.length) hq (by omega)
 have hs' : w.heap.size + 2 ≤ (w3.setCell ⟨w.heap.size, 3, none⟩ (.slice b3 s.files.length s.files.length)).heap.size := by have := hq.size; simp; omega
 obtain ⟨V3, hV3⟩ : ∃ V, w3.setCell ⟨w.heap.size, 3, none⟩ (.slice b3 s.files.length s.files.length) = V := ⟨_, rfl⟩
 rw [hV3] at hPs hQs hBs hs' o2 o3 ⊢
 clear q0 q1 q2 q3 q4 q5 q6 qf hV3 hP hQ hB hs ho hq l1 l2
 have hP : Blk V3 w.heap.size #[.int .i64 s.least, .int .i64 s.wait, .slice b2 s.tiers.length s.tiers.length, .slice b3 s.files.length s.files.length, .slice a.ca s.copies.length a.cc, .slice a.ha s.held.length a.hc, .slice a.ba s.bin.length a.bc] 28 := hPs
 have hQ := hQs; have hB := hBs; have hs := hs'
 clear hPs hQs hBs hs'
 obtain ⟨q0, q1, q2, q3, q4, q5, q6⟩ := hP.seven
 have qf := hP.free
 go_wp2_with fail
 go_at_call 50
 refine (HC4.out _ hB).mono ?_
 rintro e w4 ⟨b4, d4, rfl, ho, hq⟩
 obtain ⟨l1, l2⟩ := ho.caps
 clear q0 q1 q2 q3 q4 q5 q6 qf
 obtain ⟨q0, q1, q2, q3, q4, q5, q6⟩ := (hP.keep hq).seven
 have qf := (hP.keep hq).free
 go_upto_region 4 with (go_at_call 49; (with_reducible refine (clnC_clip _ _ _ _ l1 l2).mono ?_); rintro e wc ⟨rfl, rfl⟩)
 have hPs := (hP.keep hq).set 4 (.slice b4 s.copies.length s.copies.length)
 have hQs := (hQ.keep hq).setOther (a := ⟨w.heap.size, 4, none⟩) (by simp) (.slice b4 s.copies.length s.copies.length)
 have hBs := (below_up hB hq).setCell (p := ⟨w.heap.size, 4, none⟩) (by simp) (.slice b4 s.copies.length s.copies.length)
 have o4 := ((ho.clip.down hs).next (i := 4) (b := w.heap.size) (u := .slice b4 s.copies.length s.copies.length) (Below.refl _ _) (by omega))
 have o2 := o2.next (i := 4) (b := w.heap.size) (u := .slice b4 s.copies.length s.copies.length) hq (by omega)
 have o3 := o3.next (i := 4) (b := w.heap.size) (u := .slice b4 s.copies.length s.copies.length) hq (by omega)
 have hs' : w.heap.size + 2 ≤ (w4.setCell ⟨w.heap.size, 4, none⟩ (.slice b4 s.copies.length s.copies.length)).heap.size := by have := hq.size; simp; omega
 obtain ⟨V4, hV4⟩ : ∃ V, w4.setCell ⟨w.heap.size, 4, none⟩ (.slice b4 s.copies.length s.copies.length) = V := ⟨_, rfl⟩
 rw [hV4] at hPs hQs hBs hs' o2 o3 o4 ⊢
 clear q0 q1 q2 q3 q4 q5 q6 qf hV4 hP hQ hB hs ho hq l1 l2
 have hP : Blk V4 w.heap.size #[.int .i64 s.least, .int .i64 s.wait, .slice b2 s.tiers.length s.tiers.length, .slice b3 s.files.length s.files.length, .slice b4 s.copies.length s.copies.length, .slice a.ha s.held.length a.hc, .slice a.ba s.bin.length a.bc] 28 := hPs
 have hQ := hQs; have hB := hBs; have hs := hs'
 clear hPs hQs hBs hs'
 obtain ⟨q0, q1, q2, q3, q4, q5, q6⟩ := hP.seven
 have qf := hP.free
 go_wp2_with fail
 go_at_call 52
 refine (HC5.out _ hB).mono ?_
 rintro e w5 ⟨b5, d5, rfl, ho, hq⟩
 obtain ⟨l1, l2⟩ := ho.caps
 clear q0 q1 q2 q3 q4 q5 q6 qf
 obtain ⟨q0, q1, q2, q3, q4, q5, q6⟩ := (hP.keep hq).seven
 have qf := (hP.keep hq).free
 go_upto_region 5 with (go_at_call 51; (with_reducible refine (clnS_clip _ _ _ _ l1 l2).mono ?_); rintro e wc ⟨rfl, rfl⟩)
 have hPs := (hP.keep hq).set 5 (.slice b5 s.held.length s.held.length)
 have hQs := (hQ.keep hq).setOther (a := ⟨w.heap.size, 5, none⟩) (by simp) (.slice b5 s.held.length s.held.length)
 have hBs := (below_up hB hq).setCell (p := ⟨w.heap.size, 5, none⟩) (by simp) (.slice b5 s.held.length s.held.length)
 have o5 := ((ho.clip.down hs).next (i := 5) (b := w.heap.size) (u := .slice b5 s.held.length s.held.length) (Below.refl _ _) (by omega))
 have o2 := o2.next (i := 5) (b := w.heap.size) (u := .slice b5 s.held.length s.held.length) hq (by omega)
 have o3 := o3.next (i := 5) (b := w.heap.size) (u := .slice b5 s.held.length s.held.length) hq (by omega)
 have o4 := o4.next (i := 5) (b := w.heap.size) (u := .slice b5 s.held.length s.held.length) hq (by omega)
 have hs' : w.heap.size + 2 ≤ (w5.setCell ⟨w.heap.size, 5, none⟩ (.slice b5 s.held.length s.held.length)).heap.size := by have := hq.size; simp; omega
 obtain ⟨V5, hV5⟩ : ∃ V, w5.setCell ⟨w.heap.size, 5, none⟩ (.slice b5 s.held.length s.held.length) = V := ⟨_, rfl⟩
 rw [hV5] at hPs hQs hBs hs' o2 o3 o4 o5 ⊢
 clear q0 q1 q2 q3 q4 q5 q6 qf hV5 hP hQ hB hs ho hq l1 l2
 have hP : Blk V5 w.heap.size #[.int .i64 s.least, .int .i64 s.wait, .slice b2 s.tiers.length s.tiers.length, .slice b3 s.files.length s.files.length, .slice b4 s.copies.length s.copies.length, .slice b5 s.held.length s.held.length, .slice a.ba s.bin.length a.bc] 28 := hPs
 have hQ := hQs; have hB := hBs; have hs := hs'
 clear hPs hQs hBs hs'
 obtain ⟨q0, q1, q2, q3, q4, q5, q6⟩ := hP.seven
 have qf := hP.free
 go_wp2_with fail
 go_at_call 54
 refine (HC6.out _ hB).mono ?_
 rintro e w6 ⟨b6, d6, rfl, ho, hq⟩
 obtain ⟨l1, l2⟩ := ho.caps
 clear q0 q1 q2 q3 q4 q5 q6 qf
 obtain ⟨q0, q1, q2, q3, q4, q5, q6⟩ := (hP.keep hq).seven
 have qf := (hP.keep hq).free
 go_upto_region 6 with (go_at_call 53; (with_reducible refine (clnG_clip _ _ _ _ l1 l2).mono ?_); rintro e wc ⟨rfl, rfl⟩)
 have hPs := (hP.keep hq).set 6 (.slice b6 s.bin.length s.bin.length)
 have hQs := (hQ.keep hq).setOther (a := ⟨w.heap.size, 6, none⟩) (by simp) (.slice b6 s.bin.length s.bin.length)
 have hBs := (below_up hB hq).setCell (p := ⟨w.heap.size, 6, none⟩) (by simp) (.slice b6 s.bin.length s.bin.length)
 have o6 := ((ho.clip.down hs).next (i := 6) (b := w.heap.size) (u := .slice b6 s.bin.length s.bin.length) (Below.refl _ _) (by omega))
 have o2 := o2.next (i := 6) (b := w.heap.size) (u := .slice b6 s.bin.length s.bin.length) hq (by omega)
 have o3 := o3.next (i := 6) (b := w.heap.size) (u := .slice b6 s.bin.length s.bin.length) hq (by omega)
 have o4 := o4.next (i := 6) (b := w.heap.size) (u := .slice b6 s.bin.length s.bin.length) hq (by omega)
 have o5 := o5.next (i := 6) (b := w.heap.size) (u := .slice b6 s.bin.length s.bin.length) hq (by omega)
 have hs' : w.heap.size + 2 ≤ (w6.setCell ⟨w.heap.size, 6, none⟩ (.slice b6 s.bin.length s.bin.length)).heap.size := by have := hq.size; simp; omega
 obtain ⟨V6, hV6⟩ : ∃ V, w6.setCell ⟨w.heap.size, 6, none⟩ (.slice b6 s.bin.length s.bin.length) = V := ⟨_, rfl⟩
 rw [hV6] at hPs hQs hBs hs' o2 o3 o4 o5 o6 ⊢
 clear q0 q1 q2 q3 q4 q5 q6 qf hV6 hP hQ hB hs ho hq l1 l2
 have hP : Blk V6 w.heap.size #[.int .i64 s.least, .int .i64 s.wait, .slice b2 s.tiers.length s.tiers.length, .slice b3 s.files.length s.files.length, .slice b4 s.copies.length s.copies.length, .slice b5 s.held.length s.held.length, .slice b6 s.bin.length s.bin.length] 28 := hPs
 have hQ := hQs; have hB := hBs; have hs := hs'
 clear hPs hQs hBs hs'
 obtain ⟨q0, q1, q2, q3, q4, q5, q6⟩ := hP.seven
 go_wp2_with (refine wpList_store_row rfl 28 _ _ rfl (w.heap.size + 1) #[.int .i64 s.least, .int .i64 s.wait, .slice b2 s.tiers.length s.tiers.length, .slice b3 s.files.length s.files.length, .slice b4 s.copies.length s.copies.length, .slice b5 s.held.length s.held.length, .slice b6 s.bin.length s.bin.length] rfl rfl 28 _ hQ infoSto rfl (by simp [Value.oneCell']) ?_)
 have hrow := setRow_heap V6 (w.heap.size + 1) _ #[.int .i64 s.least, .int .i64 s.wait, .slice b2 s.tiers.length s.tiers.length, .slice b3 s.files.length s.files.length, .slice b4 s.copies.length s.copies.length, .slice b5 s.held.length s.held.length, .slice b6 s.bin.length s.bin.length] 28 (0, 0) hQ
 refine bodyPost_ret (v := .agg #[.int .i64 s.least, .int .i64 s.wait, .slice b2 s.tiers.length s.tiers.length, .slice b3 s.files.length s.files.length, .slice b4 s.copies.length s.copies.length, .slice b5 s.held.length s.held.length, .slice b6 s.bin.length s.bin.length]) (results_cell_row rfl _ _ (w.heap.size + 1) 28 _ (0, 0) _ rfl hrow Tryz.underlying28 rfl infoSto) rfl ⟨⟨b2, s.tiers.length, b3, s.files.length, b4, s.copies.length, b5, s.held.length, b6, s.bin.length⟩, rfl, ⟨(o2.setRow (by omega) _).down (by omega), (o3.setRow (by omega) _).down (by omega), (o4.setRow (by omega) _).down (by omega), (o5.setRow (by omega) _).down (by omega), (o6.setRow (by omega) _).down (by omega)⟩, below_setRow hB (by omega) _⟩
theorem grown_self (w : World) (b : Nat) : w.grownBy w (some b) := ⟨rfl, rfl, rfl, Nat.le_refl _, fun _ _ _ => rfl⟩
theorem grown_set {w w' : World} {b : Nat} (h : w.grownBy w' (some b)) (i : Nat) (v : Value) : w.grownBy (w'.setCell ⟨b, i, none⟩ v) (some b) :=
 ⟨h.os, h.tape, h.output, by have := h.size; simp; omega, fun k hk hne => (Below.heap_setCell w' _ v k (by intro e; exact hne (by rw [e]))).trans (h.block k hk hne)⟩
theorem own_keepE {w w' : World} {B : Nat} {e : TypeId} {k : Nat} {v : Value} {n : Nat} {xs : List Value} (h : w.ownsRow B e k v n xs) (hb : Below w.heap.size w w') : w'.ownsRow B e k v n xs :=
 h.kept (row := none) ⟨hb.os, hb.tape, hb.output, hb.size, fun k hk _ => hb.block k hk⟩ (by cases hv : v.ownBlock; exact .inl rfl; exact .inr (by simp))
theorem below_grownE {B : Nat} {a w w' : World} {v : Value} {n k : Nat} {e : TypeId} {xs : List Value} (h : Below B a w) (ho : w.ownsRow B e k v n xs) (hg : w.grownBy w' v.ownBlock) (hB : B ≤ w.heap.size) : Below B a w' := by
 refine h.trans ⟨hg.os, hg.tape, hg.output, hg.size, fun j hj => ?_⟩
 refine hg.block j (by omega) fun e2 => ?_
 have h1 := (ho.lt j e2.symm).1
 omega

theorem step_appT {ops : Array Oper} {o : Oper} {a : Act} {V : World} {cs : Array Value} {K : Act → World → Prop} {Q : Exit → Act → World → Prop} {E : Prop} (hgd : o.guard = none) (s x : Operand)
  (ho : o.op = .call { callee := .builtin .append, args := #[s, x], argTypes := #[22, 22] }) (base : Nat) (v : Value) (n : Nat) (xs : List Value) (hs : a.eval s = v) (hx : a.eval x = .slice (some ⟨V.heap.size, 0, none⟩) 1 1)
  (hown : V.ownsRow base 65 4 v n xs) (hn : n ≤ 1000000) (hb : base ≤ V.heap.size) (hcs : cs.toList.length = 1 * 4) (h1 : ∀ u ∈ cs.toList, u.oneCell' = true)
  (h : ∀ g cap w', w'.ownsRow base 65 4 (.slice (some ⟨g, 0, none⟩) (n + 1) cap) (n + 1) (xs ++ cs.toList) → (V.alloc (.cells cs 65)).grownBy w' v.ownBlock → K (a.put o.dst (.slice (some ⟨g, 0, none⟩) (n + 1) cap)) w') :
  if Region.wanted o (yielded ops a.tmps) = true then Oper.wp Tryz.prog o a (V.alloc (.cells cs 65)) K Q else E := by
 obtain ⟨i0, hi0, hi1, hi2, hi3⟩ := info_parts infoTir
 exact step_append_lies _ hgd s x _ ho base 65 i0 (.agg #[.string ByteArray.empty, .int .i64 0, .int .i64 0, .bool false]) 4 40 Tryz.underlying22 hi0 hi1 hi2 hi3 rfl (by decide) v n xs hs (hown.alloc _) ⟨V.heap.size, 0, none⟩ 1 1 cs.toList hx hcs
  (World.news_of_block (cs := cs) (t := 65) (fr := (0, 0)) (Blk.new V cs 65)) h1 (by decide) (by unfold maxLen; omega) (by omega) (by simp; omega) _ rfl (fun g cap w' h1 h2 _ _ => h g cap w' h1 h2)

theorem step_appC {ops : Array Oper} {o : Oper} {a : Act} {V : World} {cs : Array Value} {K : Act → World → Prop} {Q : Exit → Act → World → Prop} {E : Prop} (hgd : o.guard = none) (s x : Operand)
  (ho : o.op = .call { callee := .builtin .append, args := #[s, x], argTypes := #[24, 24] }) (base : Nat) (v : Value) (n : Nat) (xs : List Value) (hs : a.eval s = v) (hx : a.eval x = .slice (some ⟨V.heap.size, 0, none⟩) 1 1)
  (hown : V.ownsRow base 70 4 v n xs) (hn : n ≤ 1000000) (hb : base ≤ V.heap.size) (hcs : cs.toList.length = 1 * 4) (h1 : ∀ u ∈ cs.toList, u.oneCell' = true)
  (h : ∀ g cap w', w'.ownsRow base 70 4 (.slice (some ⟨g, 0, none⟩) (n + 1) cap) (n + 1) (xs ++ cs.toList) → (V.alloc (.cells cs 70)).grownBy w' v.ownBlock → K (a.put o.dst (.slice (some ⟨g, 0, none⟩) (n + 1) cap)) w') :
  if Region.wanted o (yielded ops a.tmps) = true then Oper.wp Tryz.prog o a (V.alloc (.cells cs 70)) K Q else E := by
 obtain ⟨i0, hi0, hi1, hi2, hi3⟩ := info_parts infoCop
 exact step_append_lies _ hgd s x _ ho base 70 i0 (.agg #[.string ByteArray.empty, .string ByteArray.empty, .bool false, .int .i64 0]) 4 48 Tryz.underlying24 hi0 hi1 hi2 hi3 rfl (by decide) v n xs hs (hown.alloc _) ⟨V.heap.size, 0, none⟩ 1 1 cs.toList hx hcs
  (World.news_of_block (cs := cs) (t := 70) (fr := (0, 0)) (Blk.new V cs 70)) h1 (by decide) (by unfold maxLen; omega) (by omega) (by simp; omega) _ rfl (fun g cap w' h1 h2 _ _ => h g cap w' h1 h2)

theorem step_appS {ops : Array Oper} {o : Oper} {a : Act} {V : World} {cs : Array Value} {K : Act → World → Prop} {Q : Exit → Act → World → Prop} {E : Prop} (hgd : o.guard = none) (s x : Operand)
  (ho : o.op = .call { callee := .builtin .append, args := #[s, x], argTypes := #[25, 25] }) (base : Nat) (v : Value) (n : Nat) (xs : List Value) (hs : a.eval s = v) (hx : a.eval x = .slice (some ⟨V.heap.size, 0, none⟩) 1 1)
  (hown : V.ownsRow base 9 1 v n xs) (hn : n ≤ 1000000) (hb : base ≤ V.heap.size) (hcs : cs.toList.length = 1 * 1) (h1 : ∀ u ∈ cs.toList, u.oneCell' = true)
  (h : ∀ g cap w', w'.ownsRow base 9 1 (.slice (some ⟨g, 0, none⟩) (n + 1) cap) (n + 1) (xs ++ cs.toList) → (V.alloc (.cells cs 9)).grownBy w' v.ownBlock → K (a.put o.dst (.slice (some ⟨g, 0, none⟩) (n + 1) cap)) w') :
  if Region.wanted o (yielded ops a.tmps) = true then Oper.wp Tryz.prog o a (V.alloc (.cells cs 9)) K Q else E := by
 obtain ⟨i0, hi0, hi1, hi2, hi3⟩ := info_parts infoStS
 exact step_append_lies _ hgd s x _ ho base 9 i0 (.string ByteArray.empty) 1 16 Tryz.underlying25 hi0 hi1 hi2 hi3 rfl (by decide) v n xs hs (hown.alloc _) ⟨V.heap.size, 0, none⟩ 1 1 cs.toList hx hcs
  (World.news_of_block (cs := cs) (t := 9) (fr := (0, 0)) (Blk.new V cs 9)) h1 (by decide) (by unfold maxLen; omega) (by omega) (by simp; omega) _ rfl (fun g cap w' h1 h2 _ _ => h g cap w' h1 h2)
end Go.Proofs.YtbbgebpgpadclaaGreatDoor
namespace Go.Proofs.YtbbgebpgpadclaaGreatDoor
open Go.RowKit Go.Sort
namespace Dg
theorem allD_snoc {l : List UInt8} {j : Nat} (h : allD (l.take j) = true) {b : UInt8} (hb : l[j]? = some b) (hd : isD b = true) : allD (l.take (j + 1)) = true := by
 rw [List.take_add_one, hb]
 unfold allD at *
 simp [List.all_append, h, hd]
theorem valF_snoc (l : List UInt8) (b : UInt8) : ∀ n, valF n (l ++ [b]) = 10 * valF n l + (b.toNat - 48) := by
 induction l with
 | nil => intro n; rfl
 | cons a r ih => intro n; exact ih _
theorem val_snoc {l : List UInt8} {j : Nat} {b : UInt8} (hb : l[j]? = some b) : val (l.take (j + 1)) = 10 * val (l.take j) + (b.toNat - 48) := by
 rw [List.take_add_one, hb]
 exact valF_snoc _ _ _
theorem allD_no {l : List UInt8} {j : Nat} {b : UInt8} (hb : l[j]? = some b) (hd : isD b = false) : allD l = false := by
 unfold allD
 rw [List.all_eq_false]
 exact ⟨b, List.mem_of_getElem? hb, by rw [hd]; simp⟩
end Dg
theorem strIdx (l : List UInt8) (j : Nat) (b : UInt8) (hb : l[j]? = some b) (V : World) : (Instr.index 9 (.string (Tx.mk l)) (.int .i64 (j : Int))).run Tryz.prog V = .ok (.int .u8 (b.toNat : Int)) V := by
 obtain ⟨hj, e⟩ := List.getElem?_eq_some_iff.1 hb
 have h0 : (0 : Int) ≤ (j : Int) := by omega
 have hsz := Tx.mk_size l
 have h1 : (j : Int) < ((Tx.mk l).size : Int) := by rw [hsz]; omega
 have h2 : (j : Int) < (l.length : Int) := by omega
 go_simp
 have h3 : (Tx.mk l)[j]'(by rw [hsz]; exact hj) = b := by
  show l.toArray[j]'(by simpa using hj) = b
  simpa using e
 rw [h3]
theorem fixed_is (l : List UInt8) (many : Nat) (hm : many ≤ 18) (hl : l.length ≤ 9223372036854775807) (w : World) :
  Calls Tryz.prog 90 #[.string (Tx.mk l), .int .i64 many] w fun e w' => e = .returned (.int .i64 (if l.length = many ∧ Dg.allD l = true then (Dg.val l : Int) else -1)) ∧ w' = w := by
 have hsz := Tx.mk_size l
 obtain ⟨q, hq⟩ : ∃ q : Int, (if l.length = many ∧ Dg.allD l = true then (Dg.val l : Int) else -1) = q := ⟨_, rfl⟩
 rw [hq]
 have HQ := Lib.hid hq
 clear hq
 by_cases h0 : l.length = many
 ·have HL := Lib.hid h0
  go_enter Tryz.func90, Tryz.ntmps90
  go_wp2_with fail
  go_loopg [5, 13] many (fun gk v i wr => ∃ j : Nat, j ≤ many ∧ gk = many - j ∧ v = .int .i64 (Dg.val (l.take j)) ∧ i = .int .i64 j ∧ Dg.allD (l.take j) = true ∧ w = wr)
  case atStart => exact ⟨0, by omega, rfl, rfl, rfl, rfl, rfl⟩
  case round =>
   obtain ⟨j, hj, rfl, rfl, rfl, had, rfl⟩ := hrel
   by_cases hlt : j < many
   ·have hjl : j < l.length := by rw [HL.out]; exact hlt
    obtain ⟨b, hb⟩ : ∃ b, l[j]? = some b := ⟨_, List.getElem?_eq_getElem hjl⟩
    have hidx := strIdx l j b hb
    have hbt := b.toNat_lt
    have hlti : (j : Int) < (many : Int) := by omega
    have hs1 := Dg.val_snoc hb
    have hvb : Dg.val (l.take j) < 100000000000000000 := by
     have h1 := Dg.val_lt had
     have h2 : (l.take j).length ≤ 17 := by rw [List.length_take]; omega
     exact Nat.lt_of_lt_of_le h1 (Nat.pow_le_pow_right (by omega) h2)
    cases hd : Dg.isD b
    ·have hn := Dg.allD_no hb hd
     have HR : Hid ((-1 : Int) = q) := by show _ = _; rw [← HQ.out, if_neg (by rw [hn]; simp)]
     have hd' : ¬ (48 ≤ b.toNat ∧ b.toNat ≤ 57) := by simpa [Dg.isD] using hd
     have HB := Lib.hid hb
     generalize Dg.val (l.take j) = v at *
     clear hb hs1 hn hd had
     by_cases c1 : b.toNat < 48
     ·generalize b.toNat = u at *
      go_wp2_with fail
      go_ret
      exact ⟨ret_int HR.out, rfl⟩
     ·have c2 : 57 < b.toNat := by omega
      generalize b.toNat = u at *
      go_wp2_with fail
      go_ret
      exact ⟨ret_int HR.out, rfl⟩
    ·have hd' : 48 ≤ b.toNat ∧ b.toNat ≤ 57 := by simpa [Dg.isD] using hd
     have had2 := Lib.hid (Dg.allD_snoc had hb hd)
     have HS1 := Lib.hid hs1
     have HB := Lib.hid hb
     clear hs1 hb hd had
     generalize Dg.val (l.take j) = v at *
     generalize b.toNat = u at *
     go_wp2_with fail
     go_roundg (many - (j + 1))
     case rel => exact ⟨j + 1, by omega, rfl, by rw [HS1.out]; refine congrArg _ ?_; first | omega | (unfold wrap64; omega), by go_num, had2.out, rfl⟩
     case measure => omega
   ·obtain rfl : j = many := by omega
    have e : l.take j = l := by rw [← HL.out, List.take_length]
    rw [e] at had
    have HR : Hid ((Dg.val (l.take j) : Int) = q) := by show _ = _; rw [e, ← HQ.out, if_pos ⟨HL.out, had⟩]
    clear e had
    go_wp2_with fail
    go_ret
    exact ⟨ret_int HR.out, rfl⟩
 ·have HR : Hid ((-1 : Int) = q) := by show _ = _; rw [← HQ.out, if_neg (fun h => h0 h.1)]
  have h1 : ¬ (l.length : Int) = (many : Int) := by omega
  have h2 : ((l.length : Int) == (many : Int)) = false := by simp; omega
  have h3 : ((l.length : Int) != (many : Int)) = true := by simp; omega
  go_enter Tryz.func90, Tryz.ntmps90
  go_wp2_with fail
  go_ret
  exact ⟨ret_int HR.out, rfl⟩
end Go.Proofs.YtbbgebpgpadclaaGreatDoor
namespace Go.Proofs.YtbbgebpgpadclaaGreatDoor
open Go.RowKit Go.Sort Go.Shelf
theorem trim_is (l : List UInt8) (h0 : l ≠ []) (hl : l.length ≤ 9223372036854775807) (w : World) :
  Calls Tryz.prog 77 #[.string (Tx.mk l), .string ⟨#[48, 49, 50, 51, 52, 53, 54, 55, 56, 57]⟩] w fun e w' => e = .returned (.string (Tx.mk (Lib.trimS l Dg.digits))) ∧ Below w.heap.size w w' := by
 have hp : 0 < l.length := by cases l with | nil => exact absurd rfl h0 | cons a r => simp
 refine (Any.strings_Trim_set Lay.trimS Tryz.zeroValue132 (by kernel_rfl) (Tx.mk l) (Tx.mk Dg.digits) w (by rw [Tx.mk_size]; decide) (by rw [Tx.mk_size]; exact hp) (by rw [Tx.mk_size]; exact hl) (by rw [Tx.mk_size]; decide) (fun j b hb => ?_)).mono ?_
 ·rw [Tx.mk_toList] at hb
  have hm : b ∈ Dg.digits := List.mem_of_getElem? hb
  have hd : Dg.isD b = true := by rw [← Dg.mem_digits]; exact List.contains_iff_mem.2 hm
  have := of_decide_eq_true hd
  omega
 ·rintro e w' ⟨he, q, rfl⟩
  exact ⟨he, below_drewN (((Below.refl _ _).alloc (Nat.le_refl _) _).alloc (by simp) _) q⟩
theorem atoi_is (l : List UInt8) (h0 : l ≠ []) (h : Dg.allD l = true) (hl : l.length ≤ 18) (w : World) :
  Calls Tryz.prog 78 #[.string (Tx.mk l)] w fun e w' => e = .returned (.tuple #[.int .i64 (Dg.val l : Int), .nilIface]) ∧ Below w.heap.size w w' := by
 refine (Any.strconv_Atoi Lay.atoiS (Tx.mk l) (Dg.val l) (by rw [Tx.mk_size]; exact hl) (by rw [Tx.mk_toList]; exact Dg.atoi_val h0 h) w).mono ?_
 rintro e w' ⟨he, t, rfl⟩
 exact ⟨he, Lib.bytesWorld_below _ _ _⟩
theorem mkEmpty_no (l : List UInt8) (h : l ≠ []) : (Tx.mk l).toList.isEmpty = false := by
 have e : (Tx.mk l).toList = l := by rw [ByteArray.toList_eq]
 rw [e]; cases l with | nil => exact absurd rfl h | cons a r => rfl
end Go.Proofs.YtbbgebpgpadclaaGreatDoor
namespace Go.Proofs.YtbbgebpgpadclaaGreatDoor
open Go.RowKit Go.Sort Go.Shelf Go.Maps
def RdIn (W : World) (K B rb : Nat) (R : List (List UInt8)) (bad : Bool) : Prop :=
 ∃ a c, Blk W rb #[.slice a R.length c, .bool bad] 44 ∧ RowE St.eS W a (R.map Tx.mk) ∧ (R.length ≤ c ∧ c ≤ 9223372036854775807) ∧ rb < B ∧ ∀ b o, a = some ⟨b, o, none⟩ → K ≤ b ∧ b < B ∧ b ≠ rb
theorem RowE.offB {α : Type} {E : Enc α} {W W' : World} {a : Option Addr} {L : List α} {q : Option Nat} (h : RowE E W a L) (hg : W.grownBy W' q) (hne : ∀ b o, a = some ⟨b, o, none⟩ → some b ≠ q) : RowE E W' a L := by
 intro h0
 obtain ⟨b, off, rfl, hlt, hc⟩ := h h0
 refine ⟨b, off, rfl, Nat.lt_of_lt_of_le hlt hg.size, fun i x hx j v hv => ?_⟩
 have := hc i x hx j v hv
 unfold World.cell? at this ⊢
 rw [hg.block b hlt (hne b off rfl)]
 exact this
theorem RowE.tail {W : World} {b off : Nat} {x : ByteArray} {L : List ByteArray} (h : RowE St.eS W (some ⟨b, off, none⟩) (x :: L)) : RowE St.eS W (some ⟨b, off + 1, none⟩) L := by
 intro h0
 obtain ⟨b', off', e, hlt, hc⟩ := h (by simp)
 cases e
 refine ⟨b, off + 1, rfl, hlt, fun i y hy j v hv => ?_⟩
 have := hc (i + 1) y (by simpa using hy) j v hv
 rw [show off + (i + 1) * St.eS.k + j = off + 1 + i * St.eS.k + j by simp [St.eS]; omega] at this
 exact this
theorem RdIn.keep {W W' : World} {K B rb : Nat} {R : List (List UInt8)} {bad : Bool} (h : RdIn W K B rb R bad) (hb : Below W.heap.size W W') : RdIn W' K B rb R bad := by
 obtain ⟨a, c, h1, h2, h3, h4⟩ := h
 exact ⟨a, c, h1.keep hb, h2.keep hb, h3, h4⟩
theorem RdIn.setBad {W : World} {K B rb : Nat} {R : List (List UInt8)} {bad : Bool} (h : RdIn W K B rb R bad) (b : Bool) : RdIn (W.setCell ⟨rb, 1, none⟩ (.bool b)) K B rb R b := by
 obtain ⟨a, c, h1, h2, h3, h4⟩ := h
 refine ⟨a, c, h1.set 1 (.bool b), h2.offB (q := some rb) (grown_set (grown_self W rb) 1 (.bool b)) (fun b o e => ?_), h3, h4⟩
 intro e2
 exact (h4.2 b o e).2.2 (Option.some.inj e2)
theorem RdIn.grow {W W' : World} {K B rb q : Nat} {R : List (List UInt8)} {bad : Bool} (h : RdIn W K B rb R bad) (hg : W.grownBy W' (some q)) (hq : B ≤ q) : RdIn W' K B rb R bad := by
 obtain ⟨a, c, h1, h2, h3, h4, h5⟩ := h
 refine ⟨a, c, h1.of_block (hg.block rb (Array.getElem?_eq_some_iff.1 h1).1 (fun e => by have := Option.some.inj e; omega)), h2.offB hg (fun b o e e2 => by have := (h5 b o e).2.1; have := Option.some.inj e2; omega), h3, h4, h5⟩
theorem RdIn.low {W W' : World} {K B rb q : Nat} {R : List (List UInt8)} {bad : Bool} (h : RdIn W K B rb R bad) (hg : W.grownBy W' (some q)) (hq : q < K) (hr : q ≠ rb) : RdIn W' K B rb R bad := by
 obtain ⟨a, c, h1, h2, h3, h4, h5⟩ := h
 refine ⟨a, c, h1.of_block (hg.block rb (Array.getElem?_eq_some_iff.1 h1).1 (fun e => hr (Option.some.inj e).symm)), h2.offB hg (fun b o e e2 => by have := (h5 b o e).1; have := Option.some.inj e2; omega), h3, h4, h5⟩
theorem RdIn.lt {W : World} {K B rb : Nat} {R : List (List UInt8)} {bad : Bool} (h : RdIn W K B rb R bad) : rb < B := by
 obtain ⟨a, c, h1, h2, h3, h4, h5⟩ := h
 exact h4
def WordOk (R : List (List UInt8)) (bad : Bool) (x : List UInt8) (R' : List (List UInt8)) (bad' : Bool) : Prop :=
 (x ≠ [] ∧ R = x :: R' ∧ bad' = bad) ∨ (bad' = true ∧ x = [] ∧ ∀ y R2, R = y :: R2 → y = [])
def WordPost (w : World) (K B rb : Nat) (R : List (List UInt8)) (bad : Bool) (e : Ending) (w' : World) : Prop :=
 ∃ x R' bad', WordOk R bad x R' bad' ∧ (∀ y ∈ R', y ∈ R) ∧ e = .returned (.string (Tx.mk x)) ∧ RdIn w' K B rb R' bad' ∧ w.grownBy w' (some rb)
theorem rdWord_is (R : List (List UInt8)) (bad : Bool) (K B rb : Nat) (w : World) (h : RdIn w K B rb R bad) :
  Calls Tryz.prog 15 #[.pointer (some ⟨rb, 0, none⟩)] w (WordPost w K B rb R bad) := by
 have HH := Lib.hid h
 obtain ⟨a, c, hb, hr, hc, hne⟩ := h
 obtain ⟨r0, r1⟩ := hb.two
 have rf := hb.free
 cases R with
 | nil =>
   go_enter Tryz.func15, Tryz.ntmps15
   go_wp2_with fail
   go_ret
   exact ⟨[], [], true, .inr ⟨rfl, rfl, fun y R2 e => by cases e⟩, fun y h => h, rfl, HH.out.setBad true, grown_set (grown_self w rb) 1 (.bool true)⟩
 | cons x R =>
   obtain ⟨b, off, rfl, hlt, hcell⟩ := hr (by simp)
   have c0 : w.cell? ⟨b, off, none⟩ = some (.string (Tx.mk x)) := by have := hcell 0 (Tx.mk x) rfl 0 (.string (Tx.mk x)) rfl; simpa using this
   have HR := Lib.hid hr
   have HB := Lib.hid hb
   have HNE := Lib.hid hne
   have hnz : (((R.length : Nat) : Int) + 1 == 0) = false := by simp; omega
   by_cases hx : x = []
   ·subst hx
    clear hr hb hne hcell
    go_enter Tryz.func15, Tryz.ntmps15
    go_wp2_with fail
    go_ret
    exact ⟨[], [] :: R, true, .inr ⟨rfl, rfl, fun y R2 e => (List.head_eq_of_cons_eq e).symm⟩, fun y h => h, rfl, HH.out.setBad true, grown_set (grown_self w rb) 1 (.bool true)⟩
   ·have hxe := mkEmpty_no x hx
    have hxi : x.isEmpty = false := by cases x with | nil => exact absurd rfl hx | cons a r => rfl
    have HX := Lib.hid hx
    obtain ⟨hc1, hc2⟩ := hc
    simp only [List.length_cons] at r0 hc1
    clear hr hb hne hcell hx
    go_enter Tryz.func15, Tryz.ntmps15
    by_cases hc3 : c = 1
    ·subst hc3
     have hR0 : R = [] := List.eq_nil_of_length_eq_zero (by omega)
     subst hR0
     go_wp2_with fail
     go_ret
     exact ⟨x, [], bad, .inl ⟨HX.out, rfl, rfl⟩, fun y h => List.mem_cons_of_mem _ h, rfl, ⟨_, 0, HB.out.set 0 _, RowE.nil _ _ _, ⟨Nat.le_refl _, by decide⟩, HNE.out.1, fun b' o e => by cases e; exact HNE.out.2 b off rfl⟩, grown_set (grown_self w rb) 0 _⟩
    ·go_wp2_with fail
     go_ret
     exact ⟨x, R, bad, .inl ⟨HX.out, rfl, rfl⟩, fun y h => List.mem_cons_of_mem _ h, rfl, ⟨_, c - 1, HB.out.set 0 _, HR.out.tail.offB (grown_set (grown_self w rb) 0 _) (fun b' o e => by cases e; intro e2; exact (HNE.out.2 b off rfl).2.2 (Option.some.inj e2)), ⟨by omega, by omega⟩, HNE.out.1, fun b' o e => by cases e; exact HNE.out.2 b off rfl⟩, grown_set (grown_self w rb) 0 _⟩
end Go.Proofs.YtbbgebpgpadclaaGreatDoor

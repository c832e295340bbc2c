/- Parts of the proof, no condition: StCln, StCpy. -/
import Derived.Test.YthdiccdnggloiaaGreatDoorPl3
import Derived.Test.YthdiccdnggloiaaGreatDoorPl1
import Derived.Deep.DeepCutAuto
import Derived.Shelf.Abstract
import Derived.Deep.AppendLies
import Derived.Laws.Tables
import Derived.Laws.Rows
import Derived.Laws.CopyOwn
import Derived.Test.YthdiccdnggloiaaGreatDoorPl5
import Derived.Maps.RangeWalk
set_option maxRecDepth 100000
set_option maxHeartbeats 4000000
set_option linter.unusedSimpArgs false
set_option linter.unusedVariables false
namespace Go.Proofs.YthdiccdnggloiaaGreatDoor
open Go.RowKit Go.Sort Go.Shelf Go.Maps
theorem RowE.flatAt {α : Type} {E : Enc α} (hk : 0 < E.k) {w : World} {b off : Nat} {L : List α} (h : RowE E w (some ⟨b, off, none⟩) L) : ∀ j u, (E.flat L)[j]? = some u → w.cell? ⟨b, off + j, none⟩ = some u := by
 intro j u hj
 have hlt := (List.getElem?_eq_some_iff.1 hj).1
 rw [E.flat_len] at hlt
 have hdm := Nat.div_add_mod j E.k
 have hmod := Nat.mod_lt j hk
 have hi : j / E.k < L.length := Nat.div_lt_of_lt_mul (by rw [Nat.mul_comm]; exact hlt)
 obtain ⟨b', off', e, hb, hc⟩ := h (Nat.lt_of_le_of_lt (Nat.zero_le _) hi)
 cases e
 have he : j / E.k * E.k + j % E.k = j := by rw [Nat.mul_comm]; exact hdm
 have hg := E.flat_get L (j / E.k) _ (List.getElem?_eq_getElem hi) (j % E.k) hmod
 rw [he, hj] at hg
 have := hc (j / E.k) _ (List.getElem?_eq_getElem hi) (j % E.k) u hg.symm
 rwa [Nat.add_assoc, he] at this
def ClnPost {α : Type} (E : Enc α) (t : TypeId) (w : World) (L : List α) (e : Ending) (w' : World) : Prop := ∃ a ca, e = .returned (.slice a L.length ca) ∧ OwnV w' w.heap.size t E.k (.slice a L.length ca) L.length (E.flat L) ∧ Below w.heap.size w w'
theorem infoTir : (Tryz.prog.info? 46).map (fun i => (i.zero, i.size, i.bytes)) = some (some (.agg #[.string ByteArray.empty, .int .i64 0, .int .i64 0, .bool false]), 4, 40) := by kernel_rfl
theorem infoFil : (Tryz.prog.info? 30).map (fun i => (i.zero, i.size, i.bytes)) = some (some (.agg #[.string ByteArray.empty, .int .i64 0, .int .i64 0, .string ByteArray.empty]), 4, 48) := by kernel_rfl
theorem infoCop : (Tryz.prog.info? 74).map (fun i => (i.zero, i.size, i.bytes)) = some (some (.agg #[.string ByteArray.empty, .string ByteArray.empty, .bool false, .int .i64 0]), 4, 48) := by kernel_rfl
theorem infoGon : (Tryz.prog.info? 112).map (fun i => (i.zero, i.size, i.bytes)) = some (some (.agg #[.string ByteArray.empty, .int .i64 0]), 2, 24) := by kernel_rfl
theorem infoStS : (Tryz.prog.info? 9).map (fun i => (i.zero, i.size, i.bytes)) = some (some (.string ByteArray.empty), 1, 16) := by kernel_rfl

theorem clnT_none (ca : Nat) (w : World) : Calls Tryz.prog 135 #[.slice none 0 ca] w (ClnPost St.eT 46 w []) := by
 have hnil := fun (W : World) => Lib.run_eql_slice_nil (P := Tryz.prog) W 22 46 none 0 ca 0 0 Tryz.underlying22
 go_enter Tryz.func135, Tryz.ntmps135
 go_wp2_with fail
 go_ret
 exact ⟨none, 0, rfl, .inl ⟨rfl, rfl, rfl⟩, Below.refl _ _⟩
theorem clnT_empty (p : Addr) (ca : Nat) (w : World) : Calls Tryz.prog 135 #[.slice (some p) 0 ca] w (ClnPost St.eT 46 w []) := by
 obtain ⟨i0, hi0, hz0, hz1, hz2⟩ := info_parts infoTir
 have HI0 := Lib.hid hi0; have HI2 := Lib.hid hz1
 clear hi0 hz0 hz1 hz2
 have hnil := fun (W : World) => Lib.run_eql_slice_nil (P := Tryz.prog) W 22 46 (some p) 0 ca 0 0 Tryz.underlying22
 have HO : Hid ((w.alloc (.cells #[] 46)).ownsRow w.heap.size 46 4 (.slice (some ⟨w.heap.size, 0, none⟩) 0 0) 0 []) := ⟨rfl, .inr ⟨w.heap.size, 0, #[], rfl, Nat.le_refl _, heap_alloc_new w _, Nat.le_refl _, by simp, by simp, by simp⟩⟩
 go_enter Tryz.func135, Tryz.ntmps135
 go_wp2_with (at_builtin; refine wpList_append_fits _ rfl _ _ 22 rfl w.heap.size 46 i0 4 Tryz.underlying22 HI0.out HI2.out w.heap.size 0 0 [] rfl HO.out p 0 ca [] rfl rfl (fun j u hj => by simp at hj) (by simp) (by omega) ?_; intro w1 hown hgrow)
 go_ret
 exact ⟨_, _, rfl, OwnV.of_own hown, ((Below.refl _ w).alloc (Nat.le_refl _) _).grown hgrow (by simp) (fun k e => by cases e; exact Nat.le_refl _)⟩
theorem clnT_is {L : List _} (a : Option Addr) (ca : Nat) (w : World) (hx : RowE St.eT w a L) (hn2 : L.length ≤ 1000000) : Calls Tryz.prog 135 #[.slice a L.length ca] w (ClnPost St.eT 46 w L) := by
 rcases Nat.eq_zero_or_pos L.length with h0 | hn
 ·obtain rfl := List.length_eq_zero_iff.1 h0
  cases a with
  | none => exact clnT_none ca w
  | some p => exact clnT_empty p ca w
 ·obtain ⟨b, off, rfl, hb, _⟩ := id (hx hn)
  have hc := hx.flatAt (by decide)
  obtain ⟨i0, hi0, hz0, hz1, hz2⟩ := info_parts infoTir
  have HI0 := Lib.hid hi0; have HI1 := Lib.hid hz0; have HI2 := Lib.hid hz1; have HI3 := Lib.hid hz2
  clear hi0 hz0 hz1 hz2
  have hnw : ∀ j u, (Enc.flat St.eT L)[j]? = some u → (w.alloc (.cells #[] 46)).cell? ((⟨b, off, none⟩ : Addr).add j) = some u := by
   intro j u hj
   rw [show (⟨b, off, none⟩ : Addr).add j = ⟨b, off + j, none⟩ from by unfold Addr.add; split <;> simp_all]
   exact (((Below.refl w.heap.size w).alloc (Nat.le_refl _) (.cells #[] 46)).cell (p := ⟨b, off + j, none⟩) hb).trans (hc j u hj)
  have HNW := Lib.hid hnw; have H1C := Lib.hid (Enc.flat_one St.eT L); have HNL : Hid ((Enc.flat St.eT L).length = L.length * 4) := Lib.hid (Enc.flat_len St.eT L)
  clear hnw hc hx hb
  show Calls Tryz.prog 135 #[.slice (some ⟨b, off, none⟩) L.length ca] w fun e w' => ∃ a ca, e = .returned (.slice a L.length ca) ∧ OwnV w' w.heap.size 46 4 (.slice a L.length ca) L.length (Enc.flat St.eT L) ∧ Below w.heap.size w w'
  generalize Enc.flat St.eT L = FL at *
  generalize L.length = n at *
  have hmx : 0 + n ≤ maxLen := by unfold maxLen; omega
  have hbz : (0 + n) * 40 ≤ 140737488355328 := by omega
  have hnil := fun (W : World) => Lib.run_eql_slice_nil (P := Tryz.prog) W 22 46 (some ⟨b, off, none⟩) n ca 0 0 Tryz.underlying22
  go_enter Tryz.func135, Tryz.ntmps135
  go_wp2_with (at_builtin; refine wpList_append_grows _ rfl _ _ 22 rfl 46 i0 (.agg #[.string ByteArray.empty, .int .i64 0, .int .i64 0, .bool false]) 4 40 Tryz.underlying22 HI0.out HI1.out HI2.out HI3.out rfl (by decide) (some ⟨w.heap.size, 0, none⟩) 0 0 [] rfl (fun h => by cases h) rfl (fun b hb j u hj => by simp at hj) ⟨b, off, none⟩ n ca FL rfl HNL.out HNW.out H1C.out (by omega) hmx hbz ?_; intro v' w1 hown hgrow)
  rw [Nat.zero_add, List.nil_append] at hown
  rcases hown.2 with ⟨_, h0⟩ | ⟨g, cap, cur, rfl, hg, hcell, hk, hm, _⟩
  ·omega
  have hB1 := ((Below.refl w.heap.size w).alloc (Nat.le_refl _) (.cells #[] 46)).grown hgrow (by simp) (fun k e => by cases e)
  have HOW := Lib.hid (ownsRow_down hown (show w.heap.size ≤ _ by simp))
  have hm2 : cap ≤ 9223372036854775807 := hm
  clear hown hgrow hcell hm hg
  go_wp2_with fail
  go_ret
  exact ⟨_, _, rfl, OwnV.of_own HOW.out, hB1⟩

theorem clnF_none (ca : Nat) (w : World) : Calls Tryz.prog 137 #[.slice none 0 ca] w (ClnPost St.eF 30 w []) := by
 have hnil := fun (W : World) => Lib.run_eql_slice_nil (P := Tryz.prog) W 23 30 none 0 ca 0 0 Tryz.underlying23
 go_enter Tryz.func137, Tryz.ntmps137
 go_wp2_with fail
 go_ret
 exact ⟨none, 0, rfl, .inl ⟨rfl, rfl, rfl⟩, Below.refl _ _⟩
theorem clnF_empty (p : Addr) (ca : Nat) (w : World) : Calls Tryz.prog 137 #[.slice (some p) 0 ca] w (ClnPost St.eF 30 w []) := by
 obtain ⟨i0, hi0, hz0, hz1, hz2⟩ := info_parts infoFil
 have HI0 := Lib.hid hi0; have HI2 := Lib.hid hz1
 clear hi0 hz0 hz1 hz2
 have hnil := fun (W : World) => Lib.run_eql_slice_nil (P := Tryz.prog) W 23 30 (some p) 0 ca 0 0 Tryz.underlying23
 have HO : Hid ((w.alloc (.cells #[] 30)).ownsRow w.heap.size 30 4 (.slice (some ⟨w.heap.size, 0, none⟩) 0 0) 0 []) := ⟨rfl, .inr ⟨w.heap.size, 0, #[], rfl, Nat.le_refl _, heap_alloc_new w _, Nat.le_refl _, by simp, by simp, by simp⟩⟩
 go_enter Tryz.func137, Tryz.ntmps137
 go_wp2_with (at_builtin; refine wpList_append_fits _ rfl _ _ 23 rfl w.heap.size 30 i0 4 Tryz.underlying23 HI0.out HI2.out w.heap.size 0 0 [] rfl HO.out p 0 ca [] rfl rfl (fun j u hj => by simp at hj) (by simp) (by omega) ?_; intro w1 hown hgrow)
 go_ret
 exact ⟨_, _, rfl, OwnV.of_own hown, ((Below.refl _ w).alloc (Nat.le_refl _) _).grown hgrow (by simp) (fun k e => by cases e; exact Nat.le_refl _)⟩
theorem clnF_is {L : List _} (a : Option Addr) (ca : Nat) (w : World) (hx : RowE St.eF w a L) (hn2 : L.length ≤ 1000000) : Calls Tryz.prog 137 #[.slice a L.length ca] w (ClnPost St.eF 30 w L) := by
 rcases Nat.eq_zero_or_pos L.length with h0 | hn
 ·obtain rfl := List.length_eq_zero_iff.1 h0
  cases a with
  | none => exact clnF_none ca w
  | some p => exact clnF_empty p ca w
 ·obtain ⟨b, off, rfl, hb, _⟩ := id (hx hn)
  have hc := hx.flatAt (by decide)
  obtain ⟨i0, hi0, hz0, hz1, hz2⟩ := info_parts infoFil
  have HI0 := Lib.hid hi0; have HI1 := Lib.hid hz0; have HI2 := Lib.hid hz1; have HI3 := Lib.hid hz2
  clear hi0 hz0 hz1 hz2
  have hnw : ∀ j u, (Enc.flat St.eF L)[j]? = some u → (w.alloc (.cells #[] 30)).cell? ((⟨b, off, none⟩ : Addr).add j) = some u := by
   intro j u hj
   rw [show (⟨b, off, none⟩ : Addr).add j = ⟨b, off + j, none⟩ from by unfold Addr.add; split <;> simp_all]
   exact (((Below.refl w.heap.size w).alloc (Nat.le_refl _) (.cells #[] 30)).cell (p := ⟨b, off + j, none⟩) hb).trans (hc j u hj)
  have HNW := Lib.hid hnw; have H1C := Lib.hid (Enc.flat_one St.eF L); have HNL : Hid ((Enc.flat St.eF L).length = L.length * 4) := Lib.hid (Enc.flat_len St.eF L)
  clear hnw hc hx hb
  show Calls Tryz.prog 137 #[.slice (some ⟨b, off, none⟩) L.length ca] w fun e w' => ∃ a ca, e = .returned (.slice a L.length ca) ∧ OwnV w' w.heap.size 30 4 (.slice a L.length ca) L.length (Enc.flat St.eF L) ∧ Below w.heap.size w w'
  generalize Enc.flat St.eF L = FL at *
  generalize L.length = n at *
  have hmx : 0 + n ≤ maxLen := by unfold maxLen; omega
  have hbz : (0 + n) * 48 ≤ 140737488355328 := by omega
  have hnil := fun (W : World) => Lib.run_eql_slice_nil (P := Tryz.prog) W 23 30 (some ⟨b, off, none⟩) n ca 0 0 Tryz.underlying23
  go_enter Tryz.func137, Tryz.ntmps137
  go_wp2_with (at_builtin; refine wpList_append_grows _ rfl _ _ 23 rfl 30 i0 (.agg #[.string ByteArray.empty, .int .i64 0, .int .i64 0, .string ByteArray.empty]) 4 48 Tryz.underlying23 HI0.out HI1.out HI2.out HI3.out rfl (by decide) (some ⟨w.heap.size, 0, none⟩) 0 0 [] rfl (fun h => by cases h) rfl (fun b hb j u hj => by simp at hj) ⟨b, off, none⟩ n ca FL rfl HNL.out HNW.out H1C.out (by omega) hmx hbz ?_; intro v' w1 hown hgrow)
  rw [Nat.zero_add, List.nil_append] at hown
  rcases hown.2 with ⟨_, h0⟩ | ⟨g, cap, cur, rfl, hg, hcell, hk, hm, _⟩
  ·omega
  have hB1 := ((Below.refl w.heap.size w).alloc (Nat.le_refl _) (.cells #[] 30)).grown hgrow (by simp) (fun k e => by cases e)
  have HOW := Lib.hid (ownsRow_down hown (show w.heap.size ≤ _ by simp))
  have hm2 : cap ≤ 9223372036854775807 := hm
  clear hown hgrow hcell hm hg
  go_wp2_with fail
  go_ret
  exact ⟨_, _, rfl, OwnV.of_own HOW.out, hB1⟩

theorem clnC_none (ca : Nat) (w : World) : Calls Tryz.prog 139 #[.slice none 0 ca] w (ClnPost St.eC 74 w []) := by
 have hnil := fun (W : World) => Lib.run_eql_slice_nil (P := Tryz.prog) W 24 74 none 0 ca 0 0 Tryz.underlying24
 go_enter Tryz.func139, Tryz.ntmps139
 go_wp2_with fail
 go_ret
 exact ⟨none, 0, rfl, .inl ⟨rfl, rfl, rfl⟩, Below.refl _ _⟩
theorem clnC_empty (p : Addr) (ca : Nat) (w : World) : Calls Tryz.prog 139 #[.slice (some p) 0 ca] w (ClnPost St.eC 74 w []) := by
 obtain ⟨i0, hi0, hz0, hz1, hz2⟩ := info_parts infoCop
 have HI0 := Lib.hid hi0; have HI2 := Lib.hid hz1
 clear hi0 hz0 hz1 hz2
 have hnil := fun (W : World) => Lib.run_eql_slice_nil (P := Tryz.prog) W 24 74 (some p) 0 ca 0 0 Tryz.underlying24
 have HO : Hid ((w.alloc (.cells #[] 74)).ownsRow w.heap.size 74 4 (.slice (some ⟨w.heap.size, 0, none⟩) 0 0) 0 []) := ⟨rfl, .inr ⟨w.heap.size, 0, #[], rfl, Nat.le_refl _, heap_alloc_new w _, Nat.le_refl _, by simp, by simp, by simp⟩⟩
 go_enter Tryz.func139, Tryz.ntmps139
 go_wp2_with (at_builtin; refine wpList_append_fits _ rfl _ _ 24 rfl w.heap.size 74 i0 4 Tryz.underlying24 HI0.out HI2.out w.heap.size 0 0 [] rfl HO.out p 0 ca [] rfl rfl (fun j u hj => by simp at hj) (by simp) (by omega) ?_; intro w1 hown hgrow)
 go_ret
 exact ⟨_, _, rfl, OwnV.of_own hown, ((Below.refl _ w).alloc (Nat.le_refl _) _).grown hgrow (by simp) (fun k e => by cases e; exact Nat.le_refl _)⟩
theorem clnC_is {L : List _} (a : Option Addr) (ca : Nat) (w : World) (hx : RowE St.eC w a L) (hn2 : L.length ≤ 1000000) : Calls Tryz.prog 139 #[.slice a L.length ca] w (ClnPost St.eC 74 w L) := by
 rcases Nat.eq_zero_or_pos L.length with h0 | hn
 ·obtain rfl := List.length_eq_zero_iff.1 h0
  cases a with
  | none => exact clnC_none ca w
  | some p => exact clnC_empty p ca w
 ·obtain ⟨b, off, rfl, hb, _⟩ := id (hx hn)
  have hc := hx.flatAt (by decide)
  obtain ⟨i0, hi0, hz0, hz1, hz2⟩ := info_parts infoCop
  have HI0 := Lib.hid hi0; have HI1 := Lib.hid hz0; have HI2 := Lib.hid hz1; have HI3 := Lib.hid hz2
  clear hi0 hz0 hz1 hz2
  have hnw : ∀ j u, (Enc.flat St.eC L)[j]? = some u → (w.alloc (.cells #[] 74)).cell? ((⟨b, off, none⟩ : Addr).add j) = some u := by
   intro j u hj
   rw [show (⟨b, off, none⟩ : Addr).add j = ⟨b, off + j, none⟩ from by unfold Addr.add; split <;> simp_all]
   exact (((Below.refl w.heap.size w).alloc (Nat.le_refl _) (.cells #[] 74)).cell (p := ⟨b, off + j, none⟩) hb).trans (hc j u hj)
  have HNW := Lib.hid hnw; have H1C := Lib.hid (Enc.flat_one St.eC L); have HNL : Hid ((Enc.flat St.eC L).length = L.length * 4) := Lib.hid (Enc.flat_len St.eC L)
  clear hnw hc hx hb
  show Calls Tryz.prog 139 #[.slice (some ⟨b, off, none⟩) L.length ca] w fun e w' => ∃ a ca, e = .returned (.slice a L.length ca) ∧ OwnV w' w.heap.size 74 4 (.slice a L.length ca) L.length (Enc.flat St.eC L) ∧ Below w.heap.size w w'
  generalize Enc.flat St.eC L = FL at *
  generalize L.length = n at *
  have hmx : 0 + n ≤ maxLen := by unfold maxLen; omega
  have hbz : (0 + n) * 48 ≤ 140737488355328 := by omega
  have hnil := fun (W : World) => Lib.run_eql_slice_nil (P := Tryz.prog) W 24 74 (some ⟨b, off, none⟩) n ca 0 0 Tryz.underlying24
  go_enter Tryz.func139, Tryz.ntmps139
  go_wp2_with (at_builtin; refine wpList_append_grows _ rfl _ _ 24 rfl 74 i0 (.agg #[.string ByteArray.empty, .string ByteArray.empty, .bool false, .int .i64 0]) 4 48 Tryz.underlying24 HI0.out HI1.out HI2.out HI3.out rfl (by decide) (some ⟨w.heap.size, 0, none⟩) 0 0 [] rfl (fun h => by cases h) rfl (fun b hb j u hj => by simp at hj) ⟨b, off, none⟩ n ca FL rfl HNL.out HNW.out H1C.out (by omega) hmx hbz ?_; intro v' w1 hown hgrow)
  rw [Nat.zero_add, List.nil_append] at hown
  rcases hown.2 with ⟨_, h0⟩ | ⟨g, cap, cur, rfl, hg, hcell, hk, hm, _⟩
  ·omega
  have hB1 := ((Below.refl w.heap.size w).alloc (Nat.le_refl _) (.cells #[] 74)).grown hgrow (by simp) (fun k e => by cases e)
  have HOW := Lib.hid (ownsRow_down hown (show w.heap.size ≤ _ by simp))
  have hm2 : cap ≤ 9223372036854775807 := hm
  clear hown hgrow hcell hm hg
  go_wp2_with fail
  go_ret
  exact ⟨_, _, rfl, OwnV.of_own HOW.out, hB1⟩

theorem clnS_none (ca : Nat) (w : World) : Calls Tryz.prog 140 #[.slice none 0 ca] w (ClnPost St.eS 9 w []) := by
 have hnil := fun (W : World) => Lib.run_eql_slice_nil (P := Tryz.prog) W 25 9 none 0 ca 0 0 Tryz.underlying25
 go_enter Tryz.func140, Tryz.ntmps140
 go_wp2_with fail
 go_ret
 exact ⟨none, 0, rfl, .inl ⟨rfl, rfl, rfl⟩, Below.refl _ _⟩
theorem clnS_empty (p : Addr) (ca : Nat) (w : World) : Calls Tryz.prog 140 #[.slice (some p) 0 ca] w (ClnPost St.eS 9 w []) := by
 obtain ⟨i0, hi0, hz0, hz1, hz2⟩ := info_parts infoStS
 have HI0 := Lib.hid hi0; have HI2 := Lib.hid hz1
 clear hi0 hz0 hz1 hz2
 have hnil := fun (W : World) => Lib.run_eql_slice_nil (P := Tryz.prog) W 25 9 (some p) 0 ca 0 0 Tryz.underlying25
 have HO : Hid ((w.alloc (.cells #[] 9)).ownsRow w.heap.size 9 1 (.slice (some ⟨w.heap.size, 0, none⟩) 0 0) 0 []) := ⟨rfl, .inr ⟨w.heap.size, 0, #[], rfl, Nat.le_refl _, heap_alloc_new w _, Nat.le_refl _, by simp, by simp, by simp⟩⟩
 go_enter Tryz.func140, Tryz.ntmps140
 go_wp2_with (at_builtin; refine wpList_append_fits _ rfl _ _ 25 rfl w.heap.size 9 i0 1 Tryz.underlying25 HI0.out HI2.out w.heap.size 0 0 [] rfl HO.out p 0 ca [] rfl rfl (fun j u hj => by simp at hj) (by simp) (by omega) ?_; intro w1 hown hgrow)
 go_ret
 exact ⟨_, _, rfl, OwnV.of_own hown, ((Below.refl _ w).alloc (Nat.le_refl _) _).grown hgrow (by simp) (fun k e => by cases e; exact Nat.le_refl _)⟩
theorem clnS_is {L : List _} (a : Option Addr) (ca : Nat) (w : World) (hx : RowE St.eS w a L) (hn2 : L.length ≤ 1000000) : Calls Tryz.prog 140 #[.slice a L.length ca] w (ClnPost St.eS 9 w L) := by
 rcases Nat.eq_zero_or_pos L.length with h0 | hn
 ·obtain rfl := List.length_eq_zero_iff.1 h0
  cases a with
  | none => exact clnS_none ca w
  | some p => exact clnS_empty p ca w
 ·obtain ⟨b, off, rfl, hb, _⟩ := id (hx hn)
  have hc := hx.flatAt (by decide)
  obtain ⟨i0, hi0, hz0, hz1, hz2⟩ := info_parts infoStS
  have HI0 := Lib.hid hi0; have HI1 := Lib.hid hz0; have HI2 := Lib.hid hz1; have HI3 := Lib.hid hz2
  clear hi0 hz0 hz1 hz2
  have hnw : ∀ j u, (Enc.flat St.eS L)[j]? = some u → (w.alloc (.cells #[] 9)).cell? ((⟨b, off, none⟩ : Addr).add j) = some u := by
   intro j u hj
   rw [show (⟨b, off, none⟩ : Addr).add j = ⟨b, off + j, none⟩ from by unfold Addr.add; split <;> simp_all]
   exact (((Below.refl w.heap.size w).alloc (Nat.le_refl _) (.cells #[] 9)).cell (p := ⟨b, off + j, none⟩) hb).trans (hc j u hj)
  have HNW := Lib.hid hnw; have H1C := Lib.hid (Enc.flat_one St.eS L); have HNL : Hid ((Enc.flat St.eS L).length = L.length * 1) := Lib.hid (Enc.flat_len St.eS L)
  clear hnw hc hx hb
  show Calls Tryz.prog 140 #[.slice (some ⟨b, off, none⟩) L.length ca] w fun e w' => ∃ a ca, e = .returned (.slice a L.length ca) ∧ OwnV w' w.heap.size 9 1 (.slice a L.length ca) L.length (Enc.flat St.eS L) ∧ Below w.heap.size w w'
  generalize Enc.flat St.eS L = FL at *
  generalize L.length = n at *
  have hmx : 0 + n ≤ maxLen := by unfold maxLen; omega
  have hbz : (0 + n) * 16 ≤ 140737488355328 := by omega
  have hnil := fun (W : World) => Lib.run_eql_slice_nil (P := Tryz.prog) W 25 9 (some ⟨b, off, none⟩) n ca 0 0 Tryz.underlying25
  go_enter Tryz.func140, Tryz.ntmps140
  go_wp2_with (at_builtin; refine wpList_append_grows _ rfl _ _ 25 rfl 9 i0 (.string ByteArray.empty) 1 16 Tryz.underlying25 HI0.out HI1.out HI2.out HI3.out rfl (by decide) (some ⟨w.heap.size, 0, none⟩) 0 0 [] rfl (fun h => by cases h) rfl (fun b hb j u hj => by simp at hj) ⟨b, off, none⟩ n ca FL rfl HNL.out HNW.out H1C.out (by omega) hmx hbz ?_; intro v' w1 hown hgrow)
  rw [Nat.zero_add, List.nil_append] at hown
  rcases hown.2 with ⟨_, h0⟩ | ⟨g, cap, cur, rfl, hg, hcell, hk, hm, _⟩
  ·omega
  have hB1 := ((Below.refl w.heap.size w).alloc (Nat.le_refl _) (.cells #[] 9)).grown hgrow (by simp) (fun k e => by cases e)
  have HOW := Lib.hid (ownsRow_down hown (show w.heap.size ≤ _ by simp))
  have hm2 : cap ≤ 9223372036854775807 := hm
  clear hown hgrow hcell hm hg
  go_wp2_with fail
  go_ret
  exact ⟨_, _, rfl, OwnV.of_own HOW.out, hB1⟩

theorem clnG_none (ca : Nat) (w : World) : Calls Tryz.prog 141 #[.slice none 0 ca] w (ClnPost St.eG 112 w []) := by
 have hnil := fun (W : World) => Lib.run_eql_slice_nil (P := Tryz.prog) W 26 112 none 0 ca 0 0 Tryz.underlying26
 go_enter Tryz.func141, Tryz.ntmps141
 go_wp2_with fail
 go_ret
 exact ⟨none, 0, rfl, .inl ⟨rfl, rfl, rfl⟩, Below.refl _ _⟩
theorem clnG_empty (p : Addr) (ca : Nat) (w : World) : Calls Tryz.prog 141 #[.slice (some p) 0 ca] w (ClnPost St.eG 112 w []) := by
 obtain ⟨i0, hi0, hz0, hz1, hz2⟩ := info_parts infoGon
 have HI0 := Lib.hid hi0; have HI2 := Lib.hid hz1
 clear hi0 hz0 hz1 hz2
 have hnil := fun (W : World) => Lib.run_eql_slice_nil (P := Tryz.prog) W 26 112 (some p) 0 ca 0 0 Tryz.underlying26
 have HO : Hid ((w.alloc (.cells #[] 112)).ownsRow w.heap.size 112 2 (.slice (some ⟨w.heap.size, 0, none⟩) 0 0) 0 []) := ⟨rfl, .inr ⟨w.heap.size, 0, #[], rfl, Nat.le_refl _, heap_alloc_new w _, Nat.le_refl _, by simp, by simp, by simp⟩⟩
 go_enter Tryz.func141, Tryz.ntmps141
 go_wp2_with (at_builtin; refine wpList_append_fits _ rfl _ _ 26 rfl w.heap.size 112 i0 2 Tryz.underlying26 HI0.out HI2.out w.heap.size 0 0 [] rfl HO.out p 0 ca [] rfl rfl (fun j u hj => by simp at hj) (by simp) (by omega) ?_; intro w1 hown hgrow)
 go_ret
 exact ⟨_, _, rfl, OwnV.of_own hown, ((Below.refl _ w).alloc (Nat.le_refl _) _).grown hgrow (by simp) (fun k e => by cases e; exact Nat.le_refl _)⟩
theorem clnG_is {L : List _} (a : Option Addr) (ca : Nat) (w : World) (hx : RowE St.eG w a L) (hn2 : L.length ≤ 1000000) : Calls Tryz.prog 141 #[.slice a L.length ca] w (ClnPost St.eG 112 w L) := by
 rcases Nat.eq_zero_or_pos L.length with h0 | hn
 ·obtain rfl := List.length_eq_zero_iff.1 h0
  cases a with
  | none => exact clnG_none ca w
  | some p => exact clnG_empty p ca w
 ·obtain ⟨b, off, rfl, hb, _⟩ := id (hx hn)
  have hc := hx.flatAt (by decide)
  obtain ⟨i0, hi0, hz0, hz1, hz2⟩ := info_parts infoGon
  have HI0 := Lib.hid hi0; have HI1 := Lib.hid hz0; have HI2 := Lib.hid hz1; have HI3 := Lib.hid hz2
  clear hi0 hz0 hz1 hz2
  have hnw : ∀ j u, (Enc.flat St.eG L)[j]? = some u → (w.alloc (.cells #[] 112)).cell? ((⟨b, off, none⟩ : Addr).add j) = some u := by
   intro j u hj
   rw [show (⟨b, off, none⟩ : Addr).add j = ⟨b, off + j, none⟩ from by unfold Addr.add; split <;> simp_all]
   exact (((Below.refl w.heap.size w).alloc (Nat.le_refl _) (.cells #[] 112)).cell (p := ⟨b, off + j, none⟩) hb).trans (hc j u hj)
  have HNW := Lib.hid hnw; have H1C := Lib.hid (Enc.flat_one St.eG L); have HNL : Hid ((Enc.flat St.eG L).length = L.length * 2) := Lib.hid (Enc.flat_len St.eG L)
  clear hnw hc hx hb
  show Calls Tryz.prog 141 #[.slice (some ⟨b, off, none⟩) L.length ca] w fun e w' => ∃ a ca, e = .returned (.slice a L.length ca) ∧ OwnV w' w.heap.size 112 2 (.slice a L.length ca) L.length (Enc.flat St.eG L) ∧ Below w.heap.size w w'
  generalize Enc.flat St.eG L = FL at *
  generalize L.length = n at *
  have hmx : 0 + n ≤ maxLen := by unfold maxLen; omega
  have hbz : (0 + n) * 24 ≤ 140737488355328 := by omega
  have hnil := fun (W : World) => Lib.run_eql_slice_nil (P := Tryz.prog) W 26 112 (some ⟨b, off, none⟩) n ca 0 0 Tryz.underlying26
  go_enter Tryz.func141, Tryz.ntmps141
  go_wp2_with (at_builtin; refine wpList_append_grows _ rfl _ _ 26 rfl 112 i0 (.agg #[.string ByteArray.empty, .int .i64 0]) 2 24 Tryz.underlying26 HI0.out HI1.out HI2.out HI3.out rfl (by decide) (some ⟨w.heap.size, 0, none⟩) 0 0 [] rfl (fun h => by cases h) rfl (fun b hb j u hj => by simp at hj) ⟨b, off, none⟩ n ca FL rfl HNL.out HNW.out H1C.out (by omega) hmx hbz ?_; intro v' w1 hown hgrow)
  rw [Nat.zero_add, List.nil_append] at hown
  rcases hown.2 with ⟨_, h0⟩ | ⟨g, cap, cur, rfl, hg, hcell, hk, hm, _⟩
  ·omega
  have hB1 := ((Below.refl w.heap.size w).alloc (Nat.le_refl _) (.cells #[] 112)).grown hgrow (by simp) (fun k e => by cases e)
  have HOW := Lib.hid (ownsRow_down hown (show w.heap.size ≤ _ by simp))
  have hm2 : cap ≤ 9223372036854775807 := hm
  clear hown hgrow hcell hm hg
  go_wp2_with fail
  go_ret
  exact ⟨_, _, rfl, OwnV.of_own HOW.out, hB1⟩
theorem clnT_clip (a : Option Addr) (n ca : Nat) (w : World) (h : n ≤ ca) (hc : ca ≤ 9223372036854775807) : Calls Tryz.prog 134 #[.slice a n ca] w fun e w' => e = .returned (.slice a n n) ∧ w = w' := by
 go_enter Tryz.func134, Tryz.ntmps134
 go_wp2_with fail
 go_ret
 exact ⟨rfl, rfl⟩
theorem clnF_clip (a : Option Addr) (n ca : Nat) (w : World) (h : n ≤ ca) (hc : ca ≤ 9223372036854775807) : Calls Tryz.prog 136 #[.slice a n ca] w fun e w' => e = .returned (.slice a n n) ∧ w = w' := by
 go_enter Tryz.func136, Tryz.ntmps136
 go_wp2_with fail
 go_ret
 exact ⟨rfl, rfl⟩
theorem clnC_clip (a : Option Addr) (n ca : Nat) (w : World) (h : n ≤ ca) (hc : ca ≤ 9223372036854775807) : Calls Tryz.prog 138 #[.slice a n ca] w fun e w' => e = .returned (.slice a n n) ∧ w = w' := by
 go_enter Tryz.func138, Tryz.ntmps138
 go_wp2_with fail
 go_ret
 exact ⟨rfl, rfl⟩
theorem clnS_clip (a : Option Addr) (n ca : Nat) (w : World) (h : n ≤ ca) (hc : ca ≤ 9223372036854775807) : Calls Tryz.prog 104 #[.slice a n ca] w fun e w' => e = .returned (.slice a n n) ∧ w = w' := by
 go_enter Tryz.func104, Tryz.ntmps104
 go_wp2_with fail
 go_ret
 exact ⟨rfl, rfl⟩
theorem clnG_clip (a : Option Addr) (n ca : Nat) (w : World) (h : n ≤ ca) (hc : ca ≤ 9223372036854775807) : Calls Tryz.prog 67 #[.slice a n ca] w fun e w' => e = .returned (.slice a n n) ∧ w = w' := by
 go_enter Tryz.func67, Tryz.ntmps67
 go_wp2_with fail
 go_ret
 exact ⟨rfl, rfl⟩
theorem OwnV.down {w : World} {B B' k n : Nat} {e : TypeId} {v : Value} {xs : List Value} (h : OwnV w B e k v n xs) (hb : B' ≤ B) : OwnV w B' e k v n xs := by
 rcases h with h | ⟨g, cap, h, hc⟩
 ·exact .inl h
 ·exact .inr ⟨g, cap, h, hc.down hb⟩
theorem OwnV.next {V w3 : World} {B k n b i : Nat} {e : TypeId} {v u : Value} {xs : List Value} (h : OwnV V B e k v n xs) (hq : Below V.heap.size V w3) (hb : b < B) : OwnV (w3.setCell ⟨b, i, none⟩ u) B e k v n xs := by
 rcases h with h | ⟨g, cap, h, hc⟩
 ·exact .inl h
 ·refine .inr ⟨g, cap, h, (hc.keep hq).of_block (Below.heap_setCell w3 _ u g ?_)⟩
  have := hc.lt.1
  show g ≠ b
  omega
theorem OwnV.caps {w : World} {B k n ca : Nat} {e : TypeId} {a : Option Addr} {xs : List Value} (h : OwnV w B e k (.slice a n ca) n xs) : n ≤ ca ∧ ca ≤ 9223372036854775807 := by
 obtain ⟨a', ca', e1, h1, h2⟩ := h.form
 cases e1
 exact ⟨h1, h2⟩
structure StSz (s : Sto) : Prop where
 tz : ∀ t ∈ s.tiers, t.name.size ≤ 9223372036854775807
 fz : ∀ f ∈ s.files, f.dig.size ≤ 9223372036854775807 ∧ f.frm.size ≤ 9223372036854775807
 cz : ∀ c ∈ s.copies, c.dig.size ≤ 9223372036854775807 ∧ c.tier.size ≤ 9223372036854775807
 hz : ∀ d ∈ s.held, d.size ≤ 9223372036854775807
 bz : ∀ g ∈ s.bin, g.dig.size ≤ 9223372036854775807
theorem StIn.sz {w : World} {s : Sto} {a : StA} (h : StIn w s a) : StSz s := ⟨h.tz, h.fz, h.cz, h.hz, h.bz⟩
structure StOwn (w : World) (B : Nat) (s : Sto) (a : StA) : Prop where
 ti : OwnV w B 46 4 (.slice a.ta s.tiers.length a.tc) s.tiers.length (St.eT.flat s.tiers)
 fi : OwnV w B 30 4 (.slice a.fa s.files.length a.fc) s.files.length (St.eF.flat s.files)
 co : OwnV w B 74 4 (.slice a.ca s.copies.length a.cc) s.copies.length (St.eC.flat s.copies)
 he : OwnV w B 9 1 (.slice a.ha s.held.length a.hc) s.held.length (St.eS.flat s.held)
 bi : OwnV w B 112 2 (.slice a.ba s.bin.length a.bc) s.bin.length (St.eG.flat s.bin)
theorem RowE.ofV {α : Type} {E : Enc α} {w : World} {B ca : Nat} {e : TypeId} {a : Option Addr} {L : List α} (h : OwnV w B e E.k (.slice a L.length ca) L.length (E.flat L)) : RowE E w a L := by
 obtain ⟨a', ca', e1, _, _, hr⟩ := RowE.of_own h rfl
 cases e1
 exact hr
theorem StOwn.in_ {w : World} {B : Nat} {s : Sto} {a : StA} (h : StOwn w B s a) (z : StSz s) : StIn w s a :=
 ⟨RowE.ofV (E := St.eT) h.ti, RowE.ofV (E := St.eF) h.fi, RowE.ofV (E := St.eC) h.co, RowE.ofV (E := St.eS) h.he, RowE.ofV (E := St.eG) h.bi, h.ti.caps, h.fi.caps, h.co.caps, h.he.caps, h.bi.caps, z.tz, z.fz, z.cz, z.hz, z.bz⟩
theorem StOwn.down {w : World} {B B' : Nat} {s : Sto} {a : StA} (h : StOwn w B s a) (hb : B' ≤ B) : StOwn w B' s a := ⟨h.ti.down hb, h.fi.down hb, h.co.down hb, h.he.down hb, h.bi.down hb⟩
theorem StOwn.keep {w w' : World} {B : Nat} {s : Sto} {a : StA} (h : StOwn w B s a) (hb : Below w.heap.size w w') : StOwn w' B s a := ⟨h.ti.keep hb, h.fi.keep hb, h.co.keep hb, h.he.keep hb, h.bi.keep hb⟩
def StLen (s : Sto) : Prop := s.tiers.length ≤ 8 ∧ s.files.length ≤ 500 ∧ s.copies.length ≤ 4000 ∧ s.held.length ≤ 500 ∧ s.bin.length ≤ 500
theorem Blk.seven {w : World} {b : Nat} {t : TypeId} {x0 x1 x2 x3 x4 x5 x6 : Value} (h : Blk w b #[x0, x1, x2, x3, x4, x5, x6] t) : w.cell? ⟨b, 0, none⟩ = some x0 ∧ w.cell? ⟨b, 1, none⟩ = some x1 ∧ w.cell? ⟨b, 2, none⟩ = some x2 ∧ w.cell? ⟨b, 3, none⟩ = some x3 ∧ w.cell? ⟨b, 4, none⟩ = some x4 ∧ w.cell? ⟨b, 5, none⟩ = some x5 ∧ w.cell? ⟨b, 6, none⟩ = some x6 :=
 ⟨by rw [h.cell]; rfl, by rw [h.cell]; rfl, by rw [h.cell]; rfl, by rw [h.cell]; rfl, by rw [h.cell]; rfl, by rw [h.cell]; rfl, by rw [h.cell]; rfl⟩
theorem infoSto : (Tryz.prog.info? 28).map (·.size) = some 7 := by kernel_rfl
theorem OwnV.setRow {w : World} {B k n b : Nat} {e : TypeId} {v : Value} {xs : List Value} (h : OwnV w B e k v n xs) (hb : b < B) (cs : Array Value) : OwnV (w.setRow b cs) B e k v n xs := by
 rcases h with h | ⟨g, cap, h, hc⟩
 ·exact .inl h
 ·refine .inr ⟨g, cap, h, hc.of_block (setRow_other w b g cs ?_)⟩
  have := hc.lt.1
  omega
theorem StOwn.setRow {w : World} {B b : Nat} {s : Sto} {a : StA} (h : StOwn w B s a) (hb : b < B) (cs : Array Value) : StOwn (w.setRow b cs) B s a := ⟨h.ti.setRow hb cs, h.fi.setRow hb cs, h.co.setRow hb cs, h.he.setRow hb cs, h.bi.setRow hb cs⟩
def CpyPost (w : World) (s : Sto) (e : Ending) (w' : World) : Prop := ∃ a' : StA, e = .returned (.agg #[.int .i64 s.least, .int .i64 s.wait, .slice a'.ta s.tiers.length a'.tc, .slice a'.fa s.files.length a'.fc, .slice a'.ca s.copies.length a'.cc, .slice a'.ha s.held.length a'.hc, .slice a'.ba s.bin.length a'.bc]) ∧ StOwn w' w.heap.size s a' ∧ Below w.heap.size w w'
theorem copyStore_is (s : Sto) (a : StA) (w : World) (hI : StIn w s a) (hn : StLen s) : Calls Tryz.prog 51 #[.agg #[.int .i64 s.least, .int .i64 s.wait, .slice a.ta s.tiers.length a.tc, .slice a.fa s.files.length a.fc, .slice a.ca s.copies.length a.cc, .slice a.ha s.held.length a.hc, .slice a.ba s.bin.length a.bc]] w (CpyPost w s) := by
 obtain ⟨n2, n3, n4, n5, n6⟩ := hn
 have z := Lib.hid hI.sz
 have HC2 : Hid (∀ V, Below w.heap.size w V → Calls Tryz.prog 135 #[.slice a.ta s.tiers.length a.tc] V (ClnPost St.eT 46 V s.tiers)) := Lib.hid fun V hV => clnT_is a.ta a.tc V (hI.ti.keep hV) (by omega)
 have HC3 : Hid (∀ V, Below w.heap.size w V → Calls Tryz.prog 137 #[.slice a.fa s.files.length a.fc] V (ClnPost St.eF 30 V s.files)) := Lib.hid fun V hV => clnF_is a.fa a.fc V (hI.fi.keep hV) (by omega)
 have HC4 : Hid (∀ V, Below w.heap.size w V → Calls Tryz.prog 139 #[.slice a.ca s.copies.length a.cc] V (ClnPost St.eC 74 V s.copies)) := Lib.hid fun V hV => clnC_is a.ca a.cc V (hI.co.keep hV) (by omega)
 have HC5 : Hid (∀ V, Below w.heap.size w V → Calls Tryz.prog 140 #[.slice a.ha s.held.length a.hc] V (ClnPost St.eS 9 V s.held)) := Lib.hid fun V hV => clnS_is a.ha a.hc V (hI.he.keep hV) (by omega)
 have HC6 : Hid (∀ V, Below w.heap.size w V → Calls Tryz.prog 141 #[.slice a.ba s.bin.length a.bc] V (ClnPost St.eG 112 V s.bin)) := Lib.hid fun V hV => clnG_is a.ba a.bc V (hI.bi.keep hV) (by omega)
 clear hI
 obtain ⟨W1, hW1, hP, hz1, hB1⟩ := box w #[.int .i64 s.least, .int .i64 s.wait, .slice a.ta s.tiers.length a.tc, .slice a.fa s.files.length a.fc, .slice a.ca s.copies.length a.cc, .slice a.ha s.held.length a.hc, .slice a.ba s.bin.length a.bc] 28
 obtain ⟨W2, hW2, hQ, hz2, hB2⟩ := box W1 #[.int .i64 0, .int .i64 0, .slice none 0 0, .slice none 0 0, .slice none 0 0, .slice none 0 0, .slice none 0 0] 28
 have HW1 := Lib.hid hW1; have HW2 := Lib.hid hW2
 have hP := hP.keep hB2
 rw [hz1] at hQ hz2
 have hB := below_up hB1 hB2
 have hs : w.heap.size + 2 ≤ W2.heap.size := by omega
 clear hW1 hW2 hz1 hz2 hB1 hB2
 go_enter Tryz.func51, Tryz.ntmps51
 go_upto_region 1 with fail
 rw [HW1.out, HW2.out]
 obtain ⟨q0, q1, q2, q3, q4, q5, q6⟩ := hP.seven
 have qf := hP.free
 go_wp2_with fail
 go_at_call 135
 refine (HC2.out _ hB).mono ?_
 rintro e w2 ⟨b2, d2, rfl, ho, hq⟩
 obtain ⟨l1, l2⟩ := ho.caps
 clear q0 q1 q2 q3 q4 q5 q6 qf
 obtain ⟨q0, q1, q2, q3, q4, q5, q6⟩ := (hP.keep hq).seven
 have qf := (hP.keep hq).free
 go_upto_region 2 with (go_at_call 134; (with_reducible refine (clnT_clip _ _ _ _ l1 l2).mono ?_); rintro e wc ⟨rfl, rfl⟩)
 have hPs := (hP.keep hq).set 2 (.slice b2 s.tiers.length s.tiers.length)
 have hQs := (hQ.keep hq).setOther (a := ⟨w.heap.size, 2, none⟩) (by simp) (.slice b2 s.tiers.length s.tiers.length)
 have hBs := (below_up hB hq).setCell (p := ⟨w.heap.size, 2, none⟩) (by simp) (.slice b2 s.tiers.length s.tiers.length)
 have o2 := ((ho.clip.down hs).next (i := 2) (b := w.heap.size) (u := .slice b2 s.tiers.length s.tiers.length) (Below.refl _ _) (by omega))
 have hs' : w.heap.size + 2 ≤ (w2.setCell ⟨w.heap.size, 2, none⟩ (.slice b2 s.tiers.length s.tiers.length)).heap.size := by have := hq.size; simp; omega
 obtain ⟨V2, hV2⟩ : ∃ V, w2.setCell ⟨w.heap.size, 2, none⟩ (.slice b2 s.tiers.length s.tiers.length) = V := ⟨_, rfl⟩
 rw [hV2] at hPs hQs hBs hs' o2 ⊢
 clear q0 q1 q2 q3 q4 q5 q6 qf hV2 hP hQ hB hs ho hq l1 l2
 have hP : Blk V2 w.heap.size #[.int .i64 s.least, .int .i64 s.wait, .slice b2 s.tiers.length s.tiers.length, .slice a.fa s.files.length a.fc, .slice a.ca s.copies.length a.cc, .slice a.ha s.held.length a.hc, .slice a.ba s.bin.length a.bc] 28 := hPs
 have hQ := hQs; have hB := hBs; have hs := hs'
 clear hPs hQs hBs hs'
 obtain ⟨q0, q1, q2, q3, q4, q5, q6⟩ := hP.seven
 have qf := hP.free
 go_wp2_with fail
 go_at_call 137
 refine (HC3.out _ hB).mono ?_
 rintro e w3 ⟨b3, d3, rfl, ho, hq⟩
 obtain ⟨l1, l2⟩ := ho.caps
 clear q0 q1 q2 q3 q4 q5 q6 qf
 obtain ⟨q0, q1, q2, q3, q4, q5, q6⟩ := (hP.keep hq).seven
 have qf := (hP.keep hq).free
 go_upto_region 3 with (go_at_call 136; (with_reducible refine (clnF_clip _ _ _ _ l1 l2).mono ?_); rintro e wc ⟨rfl, rfl⟩)
 have hPs := (hP.keep hq).set 3 (.slice b3 s.files.length s.files.length)
 have hQs := (hQ.keep hq).setOther (a := ⟨w.heap.size, 3, none⟩) (by simp) (.slice b3 s.files.length s.files.length)
 have hBs := (below_up hB hq).setCell (p := ⟨w.heap.size, 3, none⟩) (by simp) (.slice b3 s.files.length s.files.length)
 have o3 := ((ho.clip.down hs).next (i := 3) (b := w.heap.size) (u := .slice b3 s.files.length s.files.length) (Below.refl _ _) (by omega))
 have o2 := o2.next (i := 3) (b := w.heap.size) (u := .slice b3 s.files.length s.files.length) hq (by omega)
 have hs' : w.heap.size + 2 ≤ (w3.setCell ⟨w.heap.size, 3, none⟩ (.slice b3 s.files.length s.files.length)).heap.size := by have := hq.size; simp; omega
 obtain ⟨V3, hV3⟩ : ∃ V, w3.setCell ⟨w.heap.size, 3, none⟩ (.slice b3 s.files.length s.files.length) = V := ⟨_, rfl⟩
 rw [hV3] at hPs hQs hBs hs' o2 o3 ⊢
 clear q0 q1 q2 q3 q4 q5 q6 qf hV3 hP hQ hB hs ho hq l1 l2
 have hP : Blk V3 w.heap.size #[.int .i64 s.least, .int .i64 s.wait, .slice b2 s.tiers.length s.tiers.length, .slice b3 s.files.length s.files.length, .slice a.ca s.copies.length a.cc, .slice a.ha s.held.length a.hc, .slice a.ba s.bin.length a.bc] 28 := hPs
 have hQ := hQs; have hB := hBs; have hs := hs'
 clear hPs hQs hBs hs'
 obtain ⟨q0, q1, q2, q3, q4, q5, q6⟩ := hP.seven
 have qf := hP.free
 go_wp2_with fail
 go_at_call 139
 refine (HC4.out _ hB).mono ?_
 rintro e w4 ⟨b4, d4, rfl, ho, hq⟩
 obtain ⟨l1, l2⟩ := ho.caps
 clear q0 q1 q2 q3 q4 q5 q6 qf
 obtain ⟨q0, q1, q2, q3, q4, q5, q6⟩ := (hP.keep hq).seven
 have qf := (hP.keep hq).free
 go_upto_region 4 with (go_at_call 138; (with_reducible refine (clnC_clip _ _ _ _ l1 l2).mono ?_); rintro e wc ⟨rfl, rfl⟩)
 have hPs := (hP.keep hq).set 4 (.slice b4 s.copies.length s.copies.length)
 have hQs := (hQ.keep hq).setOther (a := ⟨w.heap.size, 4, none⟩) (by simp) (.slice b4 s.copies.length s.copies.length)
 have hBs := (below_up hB hq).setCell (p := ⟨w.heap.size, 4, none⟩) (by simp) (.slice b4 s.copies.length s.copies.length)
 have o4 := ((ho.clip.down hs).next (i := 4) (b := w.heap.size) (u := .slice b4 s.copies.length s.copies.length) (Below.refl _ _) (by omega))
 have o2 := o2.next (i := 4) (b := w.heap.size) (u := .slice b4 s.copies.length s.copies.length) hq (by omega)
 have o3 := o3.next (i := 4) (b := w.heap.size) (u := .slice b4 s.copies.length s.copies.length) hq (by omega)
 have hs' : w.heap.size + 2 ≤ (w4.setCell ⟨w.heap.size, 4, none⟩ (.slice b4 s.copies.length s.copies.length)).heap.size := by have := hq.size; simp; omega
 obtain ⟨V4, hV4⟩ : ∃ V, w4.setCell ⟨w.heap.size, 4, none⟩ (.slice b4 s.copies.length s.copies.length) = V := ⟨_, rfl⟩
 rw [hV4] at hPs hQs hBs hs' o2 o3 o4 ⊢
 clear q0 q1 q2 q3 q4 q5 q6 qf hV4 hP hQ hB hs ho hq l1 l2
 have hP : Blk V4 w.heap.size #[.int .i64 s.least, .int .i64 s.wait, .slice b2 s.tiers.length s.tiers.length, .slice b3 s.files.length s.files.length, .slice b4 s.copies.length s.copies.length, .slice a.ha s.held.length a.hc, .slice a.ba s.bin.length a.bc] 28 := hPs
 have hQ := hQs; have hB := hBs; have hs := hs'
 clear hPs hQs hBs hs'
 obtain ⟨q0, q1, q2, q3, q4, q5, q6⟩ := hP.seven
 have qf := hP.free
 go_wp2_with fail
 go_at_call 140
 refine (HC5.out _ hB).mono ?_
 rintro e w5 ⟨b5, d5, rfl, ho, hq⟩
 obtain ⟨l1, l2⟩ := ho.caps
 clear q0 q1 q2 q3 q4 q5 q6 qf
 obtain ⟨q0, q1, q2, q3, q4, q5, q6⟩ := (hP.keep hq).seven
 have qf := (hP.keep hq).free
 go_upto_region 5 with (go_at_call 104; (with_reducible refine (clnS_clip _ _ _ _ l1 l2).mono ?_); rintro e wc ⟨rfl, rfl⟩)
 have hPs := (hP.keep hq).set 5 (.slice b5 s.held.length s.held.length)
 have hQs := (hQ.keep hq).setOther (a := ⟨w.heap.size, 5, none⟩) (by simp) (.slice b5 s.held.length s.held.length)
 have hBs := (below_up hB hq).setCell (p := ⟨w.heap.size, 5, none⟩) (by simp) (.slice b5 s.held.length s.held.length)
 have o5 := ((ho.clip.down hs).next (i := 5) (b := w.heap.size) (u := .slice b5 s.held.length s.held.length) (Below.refl _ _) (by omega))
 have o2 := o2.next (i := 5) (b := w.heap.size) (u := .slice b5 s.held.length s.held.length) hq (by omega)
 have o3 := o3.next (i := 5) (b := w.heap.size) (u := .slice b5 s.held.length s.held.length) hq (by omega)
 have o4 := o4.next (i := 5) (b := w.heap.size) (u := .slice b5 s.held.length s.held.length) hq (by omega)
 have hs' : w.heap.size + 2 ≤ (w5.setCell ⟨w.heap.size, 5, none⟩ (.slice b5 s.held.length s.held.length)).heap.size := by have := hq.size; simp; omega
 obtain ⟨V5, hV5⟩ : ∃ V, w5.setCell ⟨w.heap.size, 5, none⟩ (.slice b5 s.held.length s.held.length) = V := ⟨_, rfl⟩
 rw [hV5] at hPs hQs hBs hs' o2 o3 o4 o5 ⊢
 clear q0 q1 q2 q3 q4 q5 q6 qf hV5 hP hQ hB hs ho hq l1 l2
 have hP : Blk V5 w.heap.size #[.int .i64 s.least, .int .i64 s.wait, .slice b2 s.tiers.length s.tiers.length, .slice b3 s.files.length s.files.length, .slice b4 s.copies.length s.copies.length, .slice b5 s.held.length s.held.length, .slice a.ba s.bin.length a.bc] 28 := hPs
 have hQ := hQs; have hB := hBs; have hs := hs'
 clear hPs hQs hBs hs'
 obtain ⟨q0, q1, q2, q3, q4, q5, q6⟩ := hP.seven
 have qf := hP.free
 go_wp2_with fail
 go_at_call 141
 refine (HC6.out _ hB).mono ?_
 rintro e w6 ⟨b6, d6, rfl, ho, hq⟩
 obtain ⟨l1, l2⟩ := ho.caps
 clear q0 q1 q2 q3 q4 q5 q6 qf
 obtain ⟨q0, q1, q2, q3, q4, q5, q6⟩ := (hP.keep hq).seven
 have qf := (hP.keep hq).free
 go_upto_region 6 with (go_at_call 67; (with_reducible refine (clnG_clip _ _ _ _ l1 l2).mono ?_); rintro e wc ⟨rfl, rfl⟩)
 have hPs := (hP.keep hq).set 6 (.slice b6 s.bin.length s.bin.length)
 have hQs := (hQ.keep hq).setOther (a := ⟨w.heap.size, 6, none⟩) (by simp) (.slice b6 s.bin.length s.bin.length)
 have hBs := (below_up hB hq).setCell (p := ⟨w.heap.size, 6, none⟩) (by simp) (.slice b6 s.bin.length s.bin.length)
 have o6 := ((ho.clip.down hs).next (i := 6) (b := w.heap.size) (u := .slice b6 s.bin.length s.bin.length) (Below.refl _ _) (by omega))
 have o2 := o2.next (i := 6) (b := w.heap.size) (u := .slice b6 s.bin.length s.bin.length) hq (by omega)
 have o3 := o3.next (i := 6) (b := w.heap.size) (u := .slice b6 s.bin.length s.bin.length) hq (by omega)
 have o4 := o4.next (i := 6) (b := w.heap.size) (u := .slice b6 s.bin.length s.bin.length) hq (by omega)
 have o5 := o5.next (i := 6) (b := w.heap.size) (u := .slice b6 s.bin.length s.bin.length) hq (by omega)
 have hs' : w.heap.size + 2 ≤ (w6.setCell ⟨w.heap.size, 6, none⟩ (.slice b6 s.bin.length s.bin.length)).heap.size := by have := hq.size; simp; omega
 obtain ⟨V6, hV6⟩ : ∃ V, w6.setCell ⟨w.heap.size, 6, none⟩ (.slice b6 s.bin.length s.bin.length) = V := ⟨_, rfl⟩
 rw [hV6] at hPs hQs hBs hs' o2 o3 o4 o5 o6 ⊢
 clear q0 q1 q2 q3 q4 q5 q6 qf hV6 hP hQ hB hs ho hq l1 l2
 have hP : Blk V6 w.heap.size #[.int .i64 s.least, .int .i64 s.wait, .slice b2 s.tiers.length s.tiers.length, .slice b3 s.files.length s.files.length, .slice b4 s.copies.length s.copies.length, .slice b5 s.held.length s.held.length, .slice b6 s.bin.length s.bin.length] 28 := hPs
 have hQ := hQs; have hB := hBs; have hs := hs'
 clear hPs hQs hBs hs'
 obtain ⟨q0, q1, q2, q3, q4, q5, q6⟩ := hP.seven
 go_wp2_with (refine wpList_store_row rfl 28 _ _ rfl (w.heap.size + 1) #[.int .i64 s.least, .int .i64 s.wait, .slice b2 s.tiers.length s.tiers.length, .slice b3 s.files.length s.files.length, .slice b4 s.copies.length s.copies.length, .slice b5 s.held.length s.held.length, .slice b6 s.bin.length s.bin.length] rfl rfl 28 _ hQ infoSto rfl (by simp [Value.oneCell']) ?_)
 have hrow := setRow_heap V6 (w.heap.size + 1) _ #[.int .i64 s.least, .int .i64 s.wait, .slice b2 s.tiers.length s.tiers.length, .slice b3 s.files.length s.files.length, .slice b4 s.copies.length s.copies.length, .slice b5 s.held.length s.held.length, .slice b6 s.bin.length s.bin.length] 28 (0, 0) hQ
 refine bodyPost_ret (v := .agg #[.int .i64 s.least, .int .i64 s.wait, .slice b2 s.tiers.length s.tiers.length, .slice b3 s.files.length s.files.length, .slice b4 s.copies.length s.copies.length, .slice b5 s.held.length s.held.length, .slice b6 s.bin.length s.bin.length]) (results_cell_row rfl _ _ (w.heap.size + 1) 28 _ (0, 0) _ rfl hrow Tryz.underlying28 rfl infoSto) rfl ⟨⟨b2, s.tiers.length, b3, s.files.length, b4, s.copies.length, b5, s.held.length, b6, s.bin.length⟩, rfl, ⟨(o2.setRow (by omega) _).down (by omega), (o3.setRow (by omega) _).down (by omega), (o4.setRow (by omega) _).down (by omega), (o5.setRow (by omega) _).down (by omega), (o6.setRow (by omega) _).down (by omega)⟩, below_setRow hB (by omega) _⟩
theorem twin_is (s : Sto) (a : StA) (w : World) (hI : StIn w s a) (hn : StLen s) : Calls Tryz.prog 81 #[.agg #[.int .i64 s.least, .int .i64 s.wait, .slice a.ta s.tiers.length a.tc, .slice a.fa s.files.length a.fc, .slice a.ca s.copies.length a.cc, .slice a.ha s.held.length a.hc, .slice a.ba s.bin.length a.bc]] w (CpyPost w s) := by
 obtain ⟨n2, n3, n4, n5, n6⟩ := hn
 have z := Lib.hid hI.sz
 have HC2 : Hid (∀ V, Below w.heap.size w V → Calls Tryz.prog 135 #[.slice a.ta s.tiers.length a.tc] V (ClnPost St.eT 46 V s.tiers)) := Lib.hid fun V hV => clnT_is a.ta a.tc V (hI.ti.keep hV) (by omega)
 have HC3 : Hid (∀ V, Below w.heap.size w V → Calls Tryz.prog 137 #[.slice a.fa s.files.length a.fc] V (ClnPost St.eF 30 V s.files)) := Lib.hid fun V hV => clnF_is a.fa a.fc V (hI.fi.keep hV) (by omega)
 have HC4 : Hid (∀ V, Below w.heap.size w V → Calls Tryz.prog 139 #[.slice a.ca s.copies.length a.cc] V (ClnPost St.eC 74 V s.copies)) := Lib.hid fun V hV => clnC_is a.ca a.cc V (hI.co.keep hV) (by omega)
 have HC5 : Hid (∀ V, Below w.heap.size w V → Calls Tryz.prog 140 #[.slice a.ha s.held.length a.hc] V (ClnPost St.eS 9 V s.held)) := Lib.hid fun V hV => clnS_is a.ha a.hc V (hI.he.keep hV) (by omega)
 have HC6 : Hid (∀ V, Below w.heap.size w V → Calls Tryz.prog 141 #[.slice a.ba s.bin.length a.bc] V (ClnPost St.eG 112 V s.bin)) := Lib.hid fun V hV => clnG_is a.ba a.bc V (hI.bi.keep hV) (by omega)
 clear hI
 obtain ⟨W1, hW1, hP, hz1, hB1⟩ := box w #[.int .i64 s.least, .int .i64 s.wait, .slice a.ta s.tiers.length a.tc, .slice a.fa s.files.length a.fc, .slice a.ca s.copies.length a.cc, .slice a.ha s.held.length a.hc, .slice a.ba s.bin.length a.bc] 28
 obtain ⟨W2, hW2, hQ, hz2, hB2⟩ := box W1 #[.int .i64 0, .int .i64 0, .slice none 0 0, .slice none 0 0, .slice none 0 0, .slice none 0 0, .slice none 0 0] 28
 have HW1 := Lib.hid hW1; have HW2 := Lib.hid hW2
 have hP := hP.keep hB2
 rw [hz1] at hQ hz2
 have hB := below_up hB1 hB2
 have hs : w.heap.size + 2 ≤ W2.heap.size := by omega
 clear hW1 hW2 hz1 hz2 hB1 hB2
 go_enter Tryz.func81, Tryz.ntmps81
 go_upto_region 1 with fail
 rw [HW1.out, HW2.out]
 have hHeld : (W2.drew).cell? ⟨w.heap.size, 2, none⟩ = some (.slice a.ta s.tiers.length a.tc) ∧ (W2.drew).cell? ⟨w.heap.size, 3, none⟩ = some (.slice a.fa s.files.length a.fc) ∧ (W2.drew).cell? ⟨w.heap.size, 4, none⟩ = some (.slice a.ca s.copies.length a.cc) ∧ (W2.drew).cell? ⟨w.heap.size, 5, none⟩ = some (.slice a.ha s.held.length a.hc) ∧ (W2.drew).cell? ⟨w.heap.size, 6, none⟩ = some (.slice a.ba s.bin.length a.bc) := hP.seven.2.2
 have hBd := hB.drew
 have hPd := hP.drew; have hQd := hQ.drew
 have hsz : w.heap.size + 2 ≤ (W2.drew).heap.size := hs
 refine wp_region_until (fun w' => w'.cell? ⟨w.heap.size, 2, none⟩ = some (.slice a.ta s.tiers.length a.tc) ∧ w'.cell? ⟨w.heap.size, 3, none⟩ = some (.slice a.fa s.files.length a.fc) ∧ w'.cell? ⟨w.heap.size, 4, none⟩ = some (.slice a.ca s.copies.length a.cc) ∧ w'.cell? ⟨w.heap.size, 5, none⟩ = some (.slice a.ha s.held.length a.hc) ∧ w'.cell? ⟨w.heap.size, 6, none⟩ = some (.slice a.ba s.bin.length a.bc)) 16 (by kernel_rfl) ?_
 refine anyM_take (i := 0) (v := ?_) rfl rfl (by kernel_rfl) (by decide) (by kernel_rfl) (by kernel_rfl) (by kernel_rfl) (fun _ _ _ h => h) (Or.inl ⟨by rfl, ?_⟩) (by rfl) (by assumption) ?_
 rotate_left
 ·(intro w hSw; (try dsimp only at hSw); (try obtain ⟨hs1, hs2, hs3, hs4, hs5⟩ := hSw); go_simp; try (with_reducible rfl))
 try go_frame
 refine anyM_take (i := 1) (v := ?_) rfl rfl (by kernel_rfl) (by decide) (by kernel_rfl) (by kernel_rfl) (by kernel_rfl) (fun _ _ _ h => h) (Or.inl ⟨by rfl, ?_⟩) (by rfl) (by assumption) ?_
 rotate_left
 ·(intro w hSw; (try dsimp only at hSw); (try obtain ⟨hs1, hs2, hs3, hs4, hs5⟩ := hSw); go_simp; try (with_reducible rfl))
 try go_frame
 refine anyM_take (i := 3) (v := ?_) rfl rfl (by kernel_rfl) (by decide) (by kernel_rfl) (by kernel_rfl) (by kernel_rfl) (fun _ _ _ h => h) (Or.inl ⟨by rfl, ?_⟩) (by rfl) (by assumption) ?_
 rotate_left
 ·(intro w hSw; (try dsimp only at hSw); (try obtain ⟨hs1, hs2, hs3, hs4, hs5⟩ := hSw); go_simp; try (with_reducible rfl))
 try go_frame
 refine anyM_take (i := 4) (v := ?_) rfl rfl (by kernel_rfl) (by decide) (by kernel_rfl) (by kernel_rfl) (by kernel_rfl) (fun _ _ _ h => h) (Or.inl ⟨by rfl, ?_⟩) (by rfl) (by assumption) ?_
 rotate_left
 ·(intro w hSw; (try dsimp only at hSw); (try obtain ⟨hs1, hs2, hs3, hs4, hs5⟩ := hSw); go_simp; try (with_reducible rfl))
 try go_frame
 refine anyM_take (i := 6) (v := ?_) rfl rfl (by kernel_rfl) (by decide) (by kernel_rfl) (by kernel_rfl) (by kernel_rfl) (fun _ _ _ h => h) (Or.inl ⟨by rfl, ?_⟩) (by rfl) (by assumption) ?_
 rotate_left
 ·(intro w hSw; (try dsimp only at hSw); (try obtain ⟨hs1, hs2, hs3, hs4, hs5⟩ := hSw); go_simp; try (with_reducible rfl))
 try go_frame
 refine anyM_take (i := 7) (v := ?_) rfl rfl (by kernel_rfl) (by decide) (by kernel_rfl) (by kernel_rfl) (by kernel_rfl) (fun _ _ _ h => h) (Or.inl ⟨by rfl, ?_⟩) (by rfl) (by assumption) ?_
 rotate_left
 ·(intro w hSw; (try dsimp only at hSw); (try obtain ⟨hs1, hs2, hs3, hs4, hs5⟩ := hSw); go_simp; try (with_reducible rfl))
 try go_frame
 refine anyM_take (i := 9) (v := ?_) rfl rfl (by kernel_rfl) (by decide) (by kernel_rfl) (by kernel_rfl) (by kernel_rfl) (fun _ _ _ h => h) (Or.inl ⟨by rfl, ?_⟩) (by rfl) (by assumption) ?_
 rotate_left
 ·(intro w hSw; (try dsimp only at hSw); (try obtain ⟨hs1, hs2, hs3, hs4, hs5⟩ := hSw); go_simp; try (with_reducible rfl))
 try go_frame
 refine anyM_take (i := 10) (v := ?_) rfl rfl (by kernel_rfl) (by decide) (by kernel_rfl) (by kernel_rfl) (by kernel_rfl) (fun _ _ _ h => h) (Or.inl ⟨by rfl, ?_⟩) (by rfl) (by assumption) ?_
 rotate_left
 ·(intro w hSw; (try dsimp only at hSw); (try obtain ⟨hs1, hs2, hs3, hs4, hs5⟩ := hSw); go_simp; try (with_reducible rfl))
 try go_frame
 refine anyM_take (i := 12) (v := ?_) rfl rfl (by kernel_rfl) (by decide) (by kernel_rfl) (by kernel_rfl) (by kernel_rfl) (fun _ _ _ h => h) (Or.inl ⟨by rfl, ?_⟩) (by rfl) (by assumption) ?_
 rotate_left
 ·(intro w hSw; (try dsimp only at hSw); (try obtain ⟨hs1, hs2, hs3, hs4, hs5⟩ := hSw); go_simp; try (with_reducible rfl))
 try go_frame
 refine anyM_take (i := 13) (v := ?_) rfl rfl (by kernel_rfl) (by decide) (by kernel_rfl) (by kernel_rfl) (by kernel_rfl) (fun _ _ _ h => h) (Or.inl ⟨by rfl, ?_⟩) (by rfl) (by assumption) ?_
 rotate_left
 ·(intro w hSw; (try dsimp only at hSw); (try obtain ⟨hs1, hs2, hs3, hs4, hs5⟩ := hSw); go_simp; try (with_reducible rfl))
 try go_frame
 refine anyM_ready (rs := [2]) (by kernel_rfl) (by simp) ?_
 refine ReadyM.cons rfl (fun K hK => ?_) ReadyM.nil
 go_simp
 refine (HC2.out _ hBd).mono ?_
 rintro e w2 ⟨b2, d2, rfl, o2, hq2⟩; have o2 := o2.down hsz
 have hPd := hPd.keep hq2; have hQd := hQd.keep hq2
 have hBd := below_up hBd hq2
 have hsz := Nat.le_trans hsz hq2.size
 have hHeld := hPd.seven.2.2
 refine hK.out _ _ (fun _ => hHeld) ?_
 clear hK K
 try go_frame
 refine anyM_take (i := 15) (v := ?_) rfl rfl (by kernel_rfl) (by decide) (by kernel_rfl) (by kernel_rfl) (by kernel_rfl) (fun _ _ _ h => h) (Or.inl ⟨by rfl, ?_⟩) (by rfl) (by assumption) ?_
 rotate_left
 ·(intro w hSw; (try dsimp only at hSw); (try obtain ⟨hs1, hs2, hs3, hs4, hs5⟩ := hSw); go_simp; try (with_reducible rfl))
 try go_frame
 refine anyM_ready (rs := [5]) (by kernel_rfl) (by simp) ?_
 refine ReadyM.cons rfl (fun K hK => ?_) ReadyM.nil
 go_simp
 refine (HC3.out _ hBd).mono ?_
 rintro e w3 ⟨b3, d3, rfl, o3, hq3⟩; have o3 := o3.down hsz
 have hPd := hPd.keep hq3; have hQd := hQd.keep hq3
 have hBd := below_up hBd hq3
 have hsz := Nat.le_trans hsz hq3.size
 have hHeld := hPd.seven.2.2
 refine hK.out _ _ (fun _ => hHeld) ?_
 clear hK K
 try go_frame
 refine anyM_ready (rs := [8]) (by kernel_rfl) (by simp) ?_
 refine ReadyM.cons rfl (fun K hK => ?_) ReadyM.nil
 go_simp
 refine (HC4.out _ hBd).mono ?_
 rintro e w4 ⟨b4, d4, rfl, o4, hq4⟩; have o4 := o4.down hsz
 have hPd := hPd.keep hq4; have hQd := hQd.keep hq4
 have hBd := below_up hBd hq4
 have hsz := Nat.le_trans hsz hq4.size
 have hHeld := hPd.seven.2.2
 refine hK.out _ _ (fun _ => hHeld) ?_
 clear hK K
 try go_frame
 refine anyM_ready (rs := [11]) (by kernel_rfl) (by simp) ?_
 refine ReadyM.cons rfl (fun K hK => ?_) ReadyM.nil
 go_simp
 refine (HC5.out _ hBd).mono ?_
 rintro e w5 ⟨b5, d5, rfl, o5, hq5⟩; have o5 := o5.down hsz
 have hPd := hPd.keep hq5; have hQd := hQd.keep hq5
 have hBd := below_up hBd hq5
 have hsz := Nat.le_trans hsz hq5.size
 have hHeld := hPd.seven.2.2
 refine hK.out _ _ (fun _ => hHeld) ?_
 clear hK K
 try go_frame
 refine anyM_ready (rs := [14]) (by kernel_rfl) (by simp) ?_
 refine ReadyM.cons rfl (fun K hK => ?_) ReadyM.nil
 go_simp
 refine (HC6.out _ hBd).mono ?_
 rintro e w6 ⟨b6, d6, rfl, o6, hq6⟩; have o6 := o6.down hsz
 have hPd := hPd.keep hq6; have hQd := hQd.keep hq6
 have hBd := below_up hBd hq6
 have hsz := Nat.le_trans hsz hq6.size
 have hHeld := hPd.seven.2.2
 refine hK.out _ _ (fun _ => hHeld) ?_
 clear hK K
 try go_frame
 have o2 := o2.keep hq3
 have o2 := o2.keep hq4
 have o2 := o2.keep hq5
 have o2 := o2.keep hq6
 have o3 := o3.keep hq4
 have o3 := o3.keep hq5
 have o3 := o3.keep hq6
 have o4 := o4.keep hq5
 have o4 := o4.keep hq6
 have o5 := o5.keep hq6
 clear hHeld
 obtain ⟨y0, y1, y2, y3, y4, y5, y6⟩ := hPd.seven
 have yf := hPd.free
 refine anyM_ready (rs := [16]) (by kernel_rfl) (by simp) ?_
 refine ReadyM.cons rfl (fun K hK => ?_) ReadyM.nil
 go_simp
 refine hK.out _ _ (fun h => absurd h (by simp)) ?_
 clear hK K y0 y1 y2 y3 y4 y5 y6 yf
 try go_frame
 have hPs := hPd.set 2 (.slice b2 s.tiers.length d2)
 have hQs := hQd.setOther (a := ⟨w.heap.size, 2, none⟩) (by simp) (.slice b2 s.tiers.length d2)
 have hBs := hBd.setCell (p := ⟨w.heap.size, 2, none⟩) (by simp) (.slice b2 s.tiers.length d2)
 have o2 := o2.next (i := 2) (b := w.heap.size) (u := .slice b2 s.tiers.length d2) (Below.refl _ _) (by omega)
 have o3 := o3.next (i := 2) (b := w.heap.size) (u := .slice b2 s.tiers.length d2) (Below.refl _ _) (by omega)
 have o4 := o4.next (i := 2) (b := w.heap.size) (u := .slice b2 s.tiers.length d2) (Below.refl _ _) (by omega)
 have o5 := o5.next (i := 2) (b := w.heap.size) (u := .slice b2 s.tiers.length d2) (Below.refl _ _) (by omega)
 have o6 := o6.next (i := 2) (b := w.heap.size) (u := .slice b2 s.tiers.length d2) (Below.refl _ _) (by omega)
 have hsz := show w.heap.size + 2 ≤ (w6.setCell ⟨w.heap.size, 2, none⟩ (.slice b2 s.tiers.length d2)).heap.size by simp; omega
 generalize w6.setCell ⟨w.heap.size, 2, none⟩ (.slice b2 s.tiers.length d2) = V2 at *
 clear hPd hQd hBd
 have hPd : Blk V2 w.heap.size #[.int .i64 s.least, .int .i64 s.wait, .slice b2 s.tiers.length d2, .slice a.fa s.files.length a.fc, .slice a.ca s.copies.length a.cc, .slice a.ha s.held.length a.hc, .slice a.ba s.bin.length a.bc] 28 := hPs
 have hQd := hQs; have hBd := hBs
 clear hPs hQs hBs
 refine anyM_ready (rs := [17]) (by kernel_rfl) (by simp) ?_
 refine ReadyM.cons rfl (fun K hK => ?_) ReadyM.nil
 go_simp
 refine hK.out _ _ (fun h => absurd h (by simp)) ?_
 clear hK K
 try go_frame
 obtain ⟨y0, y1, y2, y3, y4, y5, y6⟩ := hPd.seven
 have yf := hPd.free
 refine anyM_ready (rs := [18]) (by kernel_rfl) (by simp) ?_
 refine ReadyM.cons rfl (fun K hK => ?_) ReadyM.nil
 go_simp
 refine hK.out _ _ (fun h => absurd h (by simp)) ?_
 clear hK K y0 y1 y2 y3 y4 y5 y6 yf
 try go_frame
 have hPs := hPd.set 3 (.slice b3 s.files.length d3)
 have hQs := hQd.setOther (a := ⟨w.heap.size, 3, none⟩) (by simp) (.slice b3 s.files.length d3)
 have hBs := hBd.setCell (p := ⟨w.heap.size, 3, none⟩) (by simp) (.slice b3 s.files.length d3)
 have o2 := o2.next (i := 3) (b := w.heap.size) (u := .slice b3 s.files.length d3) (Below.refl _ _) (by omega)
 have o3 := o3.next (i := 3) (b := w.heap.size) (u := .slice b3 s.files.length d3) (Below.refl _ _) (by omega)
 have o4 := o4.next (i := 3) (b := w.heap.size) (u := .slice b3 s.files.length d3) (Below.refl _ _) (by omega)
 have o5 := o5.next (i := 3) (b := w.heap.size) (u := .slice b3 s.files.length d3) (Below.refl _ _) (by omega)
 have o6 := o6.next (i := 3) (b := w.heap.size) (u := .slice b3 s.files.length d3) (Below.refl _ _) (by omega)
 have hsz := show w.heap.size + 2 ≤ (V2.setCell ⟨w.heap.size, 3, none⟩ (.slice b3 s.files.length d3)).heap.size by simp; omega
 generalize V2.setCell ⟨w.heap.size, 3, none⟩ (.slice b3 s.files.length d3) = V3 at *
 clear hPd hQd hBd
 have hPd : Blk V3 w.heap.size #[.int .i64 s.least, .int .i64 s.wait, .slice b2 s.tiers.length d2, .slice b3 s.files.length d3, .slice a.ca s.copies.length a.cc, .slice a.ha s.held.length a.hc, .slice a.ba s.bin.length a.bc] 28 := hPs
 have hQd := hQs; have hBd := hBs
 clear hPs hQs hBs
 refine anyM_ready (rs := [19]) (by kernel_rfl) (by simp) ?_
 refine ReadyM.cons rfl (fun K hK => ?_) ReadyM.nil
 go_simp
 refine hK.out _ _ (fun h => absurd h (by simp)) ?_
 clear hK K
 try go_frame
 obtain ⟨y0, y1, y2, y3, y4, y5, y6⟩ := hPd.seven
 have yf := hPd.free
 refine anyM_ready (rs := [20]) (by kernel_rfl) (by simp) ?_
 refine ReadyM.cons rfl (fun K hK => ?_) ReadyM.nil
 go_simp
 refine hK.out _ _ (fun h => absurd h (by simp)) ?_
 clear hK K y0 y1 y2 y3 y4 y5 y6 yf
 try go_frame
 have hPs := hPd.set 4 (.slice b4 s.copies.length d4)
 have hQs := hQd.setOther (a := ⟨w.heap.size, 4, none⟩) (by simp) (.slice b4 s.copies.length d4)
 have hBs := hBd.setCell (p := ⟨w.heap.size, 4, none⟩) (by simp) (.slice b4 s.copies.length d4)
 have o2 := o2.next (i := 4) (b := w.heap.size) (u := .slice b4 s.copies.length d4) (Below.refl _ _) (by omega)
 have o3 := o3.next (i := 4) (b := w.heap.size) (u := .slice b4 s.copies.length d4) (Below.refl _ _) (by omega)
 have o4 := o4.next (i := 4) (b := w.heap.size) (u := .slice b4 s.copies.length d4) (Below.refl _ _) (by omega)
 have o5 := o5.next (i := 4) (b := w.heap.size) (u := .slice b4 s.copies.length d4) (Below.refl _ _) (by omega)
 have o6 := o6.next (i := 4) (b := w.heap.size) (u := .slice b4 s.copies.length d4) (Below.refl _ _) (by omega)
 have hsz := show w.heap.size + 2 ≤ (V3.setCell ⟨w.heap.size, 4, none⟩ (.slice b4 s.copies.length d4)).heap.size by simp; omega
 generalize V3.setCell ⟨w.heap.size, 4, none⟩ (.slice b4 s.copies.length d4) = V4 at *
 clear hPd hQd hBd
 have hPd : Blk V4 w.heap.size #[.int .i64 s.least, .int .i64 s.wait, .slice b2 s.tiers.length d2, .slice b3 s.files.length d3, .slice b4 s.copies.length d4, .slice a.ha s.held.length a.hc, .slice a.ba s.bin.length a.bc] 28 := hPs
 have hQd := hQs; have hBd := hBs
 clear hPs hQs hBs
 refine anyM_ready (rs := [21]) (by kernel_rfl) (by simp) ?_
 refine ReadyM.cons rfl (fun K hK => ?_) ReadyM.nil
 go_simp
 refine hK.out _ _ (fun h => absurd h (by simp)) ?_
 clear hK K
 try go_frame
 obtain ⟨y0, y1, y2, y3, y4, y5, y6⟩ := hPd.seven
 have yf := hPd.free
 refine anyM_ready (rs := [22]) (by kernel_rfl) (by simp) ?_
 refine ReadyM.cons rfl (fun K hK => ?_) ReadyM.nil
 go_simp
 refine hK.out _ _ (fun h => absurd h (by simp)) ?_
 clear hK K y0 y1 y2 y3 y4 y5 y6 yf
 try go_frame
 have hPs := hPd.set 5 (.slice b5 s.held.length d5)
 have hQs := hQd.setOther (a := ⟨w.heap.size, 5, none⟩) (by simp) (.slice b5 s.held.length d5)
 have hBs := hBd.setCell (p := ⟨w.heap.size, 5, none⟩) (by simp) (.slice b5 s.held.length d5)
 have o2 := o2.next (i := 5) (b := w.heap.size) (u := .slice b5 s.held.length d5) (Below.refl _ _) (by omega)
 have o3 := o3.next (i := 5) (b := w.heap.size) (u := .slice b5 s.held.length d5) (Below.refl _ _) (by omega)
 have o4 := o4.next (i := 5) (b := w.heap.size) (u := .slice b5 s.held.length d5) (Below.refl _ _) (by omega)
 have o5 := o5.next (i := 5) (b := w.heap.size) (u := .slice b5 s.held.length d5) (Below.refl _ _) (by omega)
 have o6 := o6.next (i := 5) (b := w.heap.size) (u := .slice b5 s.held.length d5) (Below.refl _ _) (by omega)
 have hsz := show w.heap.size + 2 ≤ (V4.setCell ⟨w.heap.size, 5, none⟩ (.slice b5 s.held.length d5)).heap.size by simp; omega
 generalize V4.setCell ⟨w.heap.size, 5, none⟩ (.slice b5 s.held.length d5) = V5 at *
 clear hPd hQd hBd
 have hPd : Blk V5 w.heap.size #[.int .i64 s.least, .int .i64 s.wait, .slice b2 s.tiers.length d2, .slice b3 s.files.length d3, .slice b4 s.copies.length d4, .slice b5 s.held.length d5, .slice a.ba s.bin.length a.bc] 28 := hPs
 have hQd := hQs; have hBd := hBs
 clear hPs hQs hBs
 refine anyM_ready (rs := [23]) (by kernel_rfl) (by simp) ?_
 refine ReadyM.cons rfl (fun K hK => ?_) ReadyM.nil
 go_simp
 refine hK.out _ _ (fun h => absurd h (by simp)) ?_
 clear hK K
 try go_frame
 obtain ⟨y0, y1, y2, y3, y4, y5, y6⟩ := hPd.seven
 have yf := hPd.free
 refine anyM_ready (rs := [24]) (by kernel_rfl) (by simp) ?_
 refine ReadyM.cons rfl (fun K hK => ?_) ReadyM.nil
 go_simp
 refine hK.out _ _ (fun h => absurd h (by simp)) ?_
 clear hK K y0 y1 y2 y3 y4 y5 y6 yf
 try go_frame
 have hPs := hPd.set 6 (.slice b6 s.bin.length d6)
 have hQs := hQd.setOther (a := ⟨w.heap.size, 6, none⟩) (by simp) (.slice b6 s.bin.length d6)
 have hBs := hBd.setCell (p := ⟨w.heap.size, 6, none⟩) (by simp) (.slice b6 s.bin.length d6)
 have o2 := o2.next (i := 6) (b := w.heap.size) (u := .slice b6 s.bin.length d6) (Below.refl _ _) (by omega)
 have o3 := o3.next (i := 6) (b := w.heap.size) (u := .slice b6 s.bin.length d6) (Below.refl _ _) (by omega)
 have o4 := o4.next (i := 6) (b := w.heap.size) (u := .slice b6 s.bin.length d6) (Below.refl _ _) (by omega)
 have o5 := o5.next (i := 6) (b := w.heap.size) (u := .slice b6 s.bin.length d6) (Below.refl _ _) (by omega)
 have o6 := o6.next (i := 6) (b := w.heap.size) (u := .slice b6 s.bin.length d6) (Below.refl _ _) (by omega)
 have hsz := show w.heap.size + 2 ≤ (V5.setCell ⟨w.heap.size, 6, none⟩ (.slice b6 s.bin.length d6)).heap.size by simp; omega
 generalize V5.setCell ⟨w.heap.size, 6, none⟩ (.slice b6 s.bin.length d6) = V6 at *
 clear hPd hQd hBd
 have hPd : Blk V6 w.heap.size #[.int .i64 s.least, .int .i64 s.wait, .slice b2 s.tiers.length d2, .slice b3 s.files.length d3, .slice b4 s.copies.length d4, .slice b5 s.held.length d5, .slice b6 s.bin.length d6] 28 := hPs
 have hQd := hQs; have hBd := hBs
 clear hPs hQs hBs
 refine anyM_done (by kernel_rfl) ?_ _
 clear HC2 HC3 HC4 HC5 HC6 hq2 hq3 hq4 hq5 hq6 hB hP hQ
 obtain ⟨q0, q1, q2, q3, q4, q5, q6⟩ := hPd.seven
 go_wp2_with (refine wpList_store_row rfl 28 _ _ rfl (w.heap.size + 1) #[.int .i64 s.least, .int .i64 s.wait, .slice b2 s.tiers.length d2, .slice b3 s.files.length d3, .slice b4 s.copies.length d4, .slice b5 s.held.length d5, .slice b6 s.bin.length d6] rfl rfl 28 _ hQd infoSto rfl (by simp [Value.oneCell']) ?_)
 have hrow := setRow_heap V6 (w.heap.size + 1) _ #[.int .i64 s.least, .int .i64 s.wait, .slice b2 s.tiers.length d2, .slice b3 s.files.length d3, .slice b4 s.copies.length d4, .slice b5 s.held.length d5, .slice b6 s.bin.length d6] 28 (0, 0) hQd
 refine bodyPost_ret (v := .agg #[.int .i64 s.least, .int .i64 s.wait, .slice b2 s.tiers.length d2, .slice b3 s.files.length d3, .slice b4 s.copies.length d4, .slice b5 s.held.length d5, .slice b6 s.bin.length d6]) (results_cell_row rfl _ _ (w.heap.size + 1) 28 _ (0, 0) _ rfl hrow Tryz.underlying28 rfl infoSto) rfl ⟨⟨b2, d2, b3, d3, b4, d4, b5, d5, b6, d6⟩, rfl, ⟨(o2.setRow (by omega) _).down (by omega), (o3.setRow (by omega) _).down (by omega), (o4.setRow (by omega) _).down (by omega), (o5.setRow (by omega) _).down (by omega), (o6.setRow (by omega) _).down (by omega)⟩, below_setRow hBd (by omega) _⟩
end Go.Proofs.YthdiccdnggloiaaGreatDoor

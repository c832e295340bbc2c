/- Parts of the proof, no condition: FaSrt, FaOfR, FaFac. -/
import Derived.Test.YtimjmjmpaicdbaaGreatDoorPk15
import Derived.Test.YtimjmjmpaicdbaaGreatDoorPk16
import Derived.Test.YtimjmjmpaicdbaaGreatDoorPk17
import Derived.Deep.RegionHeld3
set_option maxRecDepth 100000
set_option maxHeartbeats 8000000
set_option linter.unusedSimpArgs false
set_option linter.unusedVariables false
namespace Go.Proofs.YtimjmjmpaicdbaaGreatDoor
open Go.RowKit Go.Sort Go.Shelf Go.Maps
def Fa.or3 (x y z : Int) : Int := if x = 0 then (if y = 0 then z else y) else x
theorem cmpOr_is (x y z : Int) (g : Nat) (t : TypeId) (w : World) (h : Blk w g #[.int .i64 x, .int .i64 y, .int .i64 z] t) :
  Calls Tryz.prog 44 #[.slice (some ⟨g, 0, none⟩) 3 3] w fun e w' => e = .returned (.int .i64 (Fa.or3 x y z)) ∧ w = w' := by
 obtain ⟨c0, c1, c2⟩ := h.three
 clear h
 go_enter Tryz.func44, Tryz.ntmps44
 go_wp2_with fail
 go_loopg [8] 3 (fun gk i wr => ∃ j : Nat, j ≤ 3 ∧ gk = 3 - j ∧ i = .int .i64 j ∧ w = wr ∧ (1 ≤ j → x = 0) ∧ (2 ≤ j → y = 0) ∧ (3 ≤ j → z = 0))
 case atStart => exact ⟨0, by omega, rfl, rfl, rfl, fun h => by omega, fun h => by omega, fun h => by omega⟩
 case round =>
  obtain ⟨j, hj, rfl, rfl, rfl, hx, hy, hz⟩ := hrel
  have hj4 : j = 0 ∨ j = 1 ∨ j = 2 ∨ j = 3 := by omega
  rcases hj4 with rfl | rfl | rfl | rfl
  ·have HX : Hid True := Lib.hid trivial
   clear hx hy hz
   by_cases h0 : x = 0
   ·have h0b : (x != 0) = false := by simpa using h0
    have HE := Lib.hid h0
    clear h0
    go_wp2_with fail
    go_roundg (3 - (0 + 1))
    case rel => exact ⟨0 + 1, by omega, rfl, by go_num, rfl, fun _ => HE.out, fun h => (by omega), fun h => (by omega)⟩
    case measure => omega
   ·have h0b : (x != 0) = true := by simpa using h0
    have HE := Lib.hid h0
    clear h0
    go_wp2_with fail
    go_ret
    exact ⟨ret_int (by unfold Fa.or3; simp [HE.out, HX.out]), rfl⟩
  ·have HX := Lib.hid (hx (by omega))
   clear hx hy hz
   by_cases h0 : y = 0
   ·have h0b : (y != 0) = false := by simpa using h0
    have HE := Lib.hid h0
    clear h0
    go_wp2_with fail
    go_roundg (3 - (1 + 1))
    case rel => exact ⟨1 + 1, by omega, rfl, by go_num, rfl, fun _ => HX.out, fun _ => HE.out, fun h => (by omega)⟩
    case measure => omega
   ·have h0b : (y != 0) = true := by simpa using h0
    have HE := Lib.hid h0
    clear h0
    go_wp2_with fail
    go_ret
    exact ⟨ret_int (by unfold Fa.or3; simp [HE.out, HX.out]), rfl⟩
  ·have HX := Lib.hid (And.intro (hx (by omega)) (hy (by omega)))
   clear hx hy hz
   by_cases h0 : z = 0
   ·have h0b : (z != 0) = false := by simpa using h0
    have HE := Lib.hid h0
    clear h0
    go_wp2_with fail
    go_roundg (3 - (2 + 1))
    case rel => exact ⟨2 + 1, by omega, rfl, by go_num, rfl, fun _ => HX.out.1, fun _ => HX.out.2, fun _ => HE.out⟩
    case measure => omega
   ·have h0b : (z != 0) = true := by simpa using h0
    have HE := Lib.hid h0
    clear h0
    go_wp2_with fail
    go_ret
    exact ⟨ret_int (by unfold Fa.or3; simp [HE.out, HX.out]), rfl⟩
  ·have HX := Lib.hid (And.intro (hx (by omega)) (And.intro (hy (by omega)) (hz (by omega))))
   clear hx hy hz
   go_wp2_with fail
   go_ret
   exact ⟨ret_int (by unfold Fa.or3; simp [HX.out]), rfl⟩
theorem Fa.cm_or (L : List Fa.It) (a b : Fa.It) : Fa.cm L a b = Fa.or3 (Ak.ci (Fa.cn b L : Int) (Fa.cn a L : Int)) (Ak.cs a.2 b.2) (Ak.ci a.1 b.1) := rfl
structure Fa.Cts (V : World) (mb B n : Nat) (L : List Fa.It) : Prop where
 cell : V.cell? ⟨mb, 0, none⟩ = some (.map (some B))
 map : ∃ D, V.ownsMap Tryz.prog 89 (plainElem Tryz.prog 3) B n D ∧ Cnt D L
theorem Fa.Cts.keep {V V' : World} {mb B n : Nat} {L : List Fa.It} (h : Fa.Cts V mb B n L) (hb : Below V.heap.size V V') : Fa.Cts V' mb B n L := by
 obtain ⟨D, hD, hC⟩ := h.map
 exact ⟨(hb.cell (World.block_lt_of_cell? V _ h.cell)).trans h.cell, D, hD.kept (row := none) ⟨hb.os, hb.tape, hb.output, hb.size, fun k hk _ => hb.block k hk⟩ (by simp), hC⟩
theorem Fa.Cts.grown {V V' : World} {mb B n g : Nat} {L : List Fa.It} (h : Fa.Cts V mb B n L) (hg : V.grownBy V' (some g)) (h1 : mb ≠ g) (h2 : B ≠ g) : Fa.Cts V' mb B n L := by
 obtain ⟨D, hD, hC⟩ := h.map
 exact ⟨hg.cell h.cell (by simpa using h1), D, hD.kept hg (by simpa using h2), hC⟩
theorem Fa.Cts.look {V : World} {mb B n : Nat} {L : List Fa.It} (h : Fa.Cts V mb B n L) {x : Fa.It} (hx : Fa.FitIt x) : (Instr.lookup 78 (.map (some B)) (.agg #[.int .i64 x.1, .string x.2]) false).run Tryz.prog V = .ok (.int .i64 (Fa.cn x L : Int)) V := by
 obtain ⟨D, hD, hC⟩ := h.map
 obtain ⟨c, hr, hat, _⟩ := hD.lookup_int ctKeyed Tryz.underlying78 Tryz.underlying3 (zeroI V) (ctKey x hx)
 rw [hC.at_ x hx] at hat
 cases hat
 exact hr
theorem Fa.Cts.lt {V : World} {mb B n : Nat} {L : List Fa.It} (h : Fa.Cts V mb B n L) : mb < V.heap.size ∧ B < V.heap.size := by
 obtain ⟨D, hD, hC⟩ := h.map
 exact ⟨World.block_lt_of_cell? V _ h.cell, hD.lt⟩
theorem ctCmp_is (L : List Fa.It) (a b : Fa.It) (ha : Fa.FitIt a) (hb : Fa.FitIt b) (mb B n : Nat) (w : World) (h : Fa.Cts w mb B n L) :
  Calls Tryz.prog 43 #[.agg #[.int .i64 a.1, .string a.2], .agg #[.int .i64 b.1, .string b.2], .pointer (some ⟨mb, 0, none⟩)] w fun e w' => e = .returned (.int .i64 (Fa.cm L a b)) ∧ Below w.heap.size w w' := by
 rw [Fa.cm_or]
 obtain ⟨W1, hW1, hA, hz1, hB1⟩ := box w #[.int .i64 a.1, .string a.2] 89
 obtain ⟨W2, hW2, hR, hz2, hB2⟩ := box W1 #[.int .i64 b.1, .string b.2] 89
 have HW1 := Lib.hid hW1; have HW2 := Lib.hid hW2
 rw [hz1] at hR
 have hB := below_up hB1 hB2
 have HA := Lib.hid (hA.keep hB2); have HR := Lib.hid hR
 have HC := Lib.hid (h.keep hB)
 have HLA := Lib.hid (fun W (hb' : Below W2.heap.size W2 W) => (HC.out.keep hb').look ha)
 have HLB := Lib.hid (fun W (hb' : Below W2.heap.size W2 W) => (HC.out.keep hb').look hb)
 have HS := Lib.hid (fun W (hb' : Below W2.heap.size W2 W) => (⟨(HC.out.keep hb').cell, (HA.out.keep hb').two.1, (HA.out.keep hb').two.2, (HR.out.keep hb').two.1, (HR.out.keep hb').two.2, HLA.out W hb', HLB.out W hb'⟩ :
  W.cell? ⟨mb, 0, none⟩ = some (.map (some B)) ∧ W.cell? ⟨w.heap.size, 0, none⟩ = some (.int .i64 a.1) ∧ W.cell? ⟨w.heap.size, 1, none⟩ = some (.string a.2) ∧ W.cell? ⟨w.heap.size + 1, 0, none⟩ = some (.int .i64 b.1) ∧ W.cell? ⟨w.heap.size + 1, 1, none⟩ = some (.string b.2) ∧
  (Instr.lookup 78 (.map (some B)) (.agg #[.int .i64 a.1, .string a.2]) false).run Tryz.prog W = .ok (.int .i64 (Fa.cn a L : Int)) W ∧ (Instr.lookup 78 (.map (some B)) (.agg #[.int .i64 b.1, .string b.2]) false).run Tryz.prog W = .ok (.int .i64 (Fa.cn b L : Int)) W))
 have HB := Lib.hid hB
 have HC1 := Lib.hid (fun W => cmpI_is (Fa.cn b L : Int) (Fa.cn a L : Int) W)
 have HC2 := Lib.hid (fun W => cmpS_is a.2 b.2 W)
 have HC3 := Lib.hid (fun W => cmpI_is a.1 b.1 W)
 generalize Ak.ci (Fa.cn b L : Int) (Fa.cn a L : Int) = x at *
 generalize Ak.cs a.2 b.2 = y at *
 generalize Ak.ci a.1 b.1 = z at *
 obtain ⟨ca, hca⟩ : ∃ ca : Int, (Fa.cn a L : Int) = ca := ⟨_, rfl⟩
 obtain ⟨cb, hcb⟩ : ∃ cb : Int, (Fa.cn b L : Int) = cb := ⟨_, rfl⟩
 rw [hca, hcb] at HC1
 simp only [hca, hcb] at HS
 obtain ⟨a1, a2⟩ := a
 obtain ⟨b1, b2⟩ := b
 clear hW1 hW2 hz1 hz2 hA hR hB hB1 hB2 h HLA HLB hca hcb ha hb
 have HC4 := Lib.hid (cmpOr_is x y z W2.heap.size 3 ((W2.alloc (.cells #[.int .i64 x, .int .i64 y, .int .i64 z] 3)).drew) (Blk.new W2 _ _))
 go_enter Tryz.func43, Tryz.ntmps43
 go_upto_region 1 with fail
 rw [HW1.out, HW2.out]
 obtain ⟨s0, s1, s2, s3, s4, s5, s6⟩ := HS.out W2.drew (Below.refl _ _).drew
 go_region_held3 (fun W => W.cell? ⟨mb, 0, none⟩ = some (.map (some B)) ∧ W.cell? ⟨w.heap.size, 0, none⟩ = some (.int .i64 a1) ∧ W.cell? ⟨w.heap.size, 1, none⟩ = some (.string a2) ∧ W.cell? ⟨w.heap.size + 1, 0, none⟩ = some (.int .i64 b1) ∧ W.cell? ⟨w.heap.size + 1, 1, none⟩ = some (.string b2) ∧
  (Instr.lookup 78 (.map (some B)) (.agg #[.int .i64 a1, .string a2]) false).run Tryz.prog W = .ok (.int .i64 ca) W ∧ (Instr.lookup 78 (.map (some B)) (.agg #[.int .i64 b1, .string b2]) false).run Tryz.prog W = .ok (.int .i64 cb) W)
  (first
   | with_reducible exact ⟨s0, s1, s2, s3, s4, s5, s6⟩
   | with_reducible exact HS.out _ (below_allocs (Below.refl _ _) _)
   | with_reducible exact HS.out _ (below_allocs (Below.refl _ _) _).drew)
  (first
   | (go_at_call 46; (with_reducible refine (HC2.out _).mono ?_); rintro e w' ⟨rfl, rfl⟩)
   | (go_at_call 45; (with_reducible refine (HC1.out _).mono ?_); rintro e w' ⟨rfl, rfl⟩)
   | (go_at_call 45; (with_reducible refine (HC3.out _).mono ?_); rintro e w' ⟨rfl, rfl⟩)
   | (go_at_call 44; (with_reducible refine HC4.out.mono ?_); rintro e w' ⟨rfl, rfl⟩))
 all_goals go_wp2_with fail
 all_goals go_ret
 all_goals exact ⟨rfl, below_up HB.out (below_allocs (Below.refl _ _) _).drew⟩
theorem cloneCt_none (ca : Nat) (w : World) : Calls Tryz.prog 85 #[.slice none 0 ca] w fun e w' => e = .returned (.slice none 0 0) ∧ w = w' := by
 have hnil := fun (W : World) => Lib.run_eql_slice_nil (P := Tryz.prog) W 86 89 none 0 ca 0 0 Tryz.underlying86
 go_enter Tryz.func85, Tryz.ntmps85
 go_wp2_with fail
 go_ret
 exact ⟨rfl, rfl⟩
theorem cloneCt_is (b off ca : Nat) (L : List Fa.It) (w : World) (hL : 0 < L.length) (hn : L.length ≤ 1000000) (hx : RowE Fa.itE w (some ⟨b, off, none⟩) L) :
  Calls Tryz.prog 85 #[.slice (some ⟨b, off, none⟩) L.length ca] w fun e w' => ∃ g cap, e = .returned (.slice (some ⟨g, 0, none⟩) L.length cap) ∧ SRow Fa.itE w' w.heap.size 89 g cap L.length L ∧ Below w.heap.size w w' := by
 obtain ⟨i0, hi0, hz0, hz1, hz2⟩ := info_parts infoCt
 have HI0 := Lib.hid hi0; have HI1 := Lib.hid hz0; have HI2 := Lib.hid hz1; have HI3 := Lib.hid hz2
 obtain ⟨n, hnn⟩ : ∃ n, L.length = n := ⟨_, rfl⟩
 have HLN := Lib.hid hnn
 have hb := (hx hL)
 have HNW := Lib.hid (fun (j : Nat) (u : Value) (hj : (Fa.itE.flat L)[j]? = some u) => show (w.alloc (.cells #[] 89)).cell? ((⟨b, off, none⟩ : Addr).add j) = some u by
  rw [show (⟨b, off, none⟩ : Addr).add j = ⟨b, off + j, none⟩ from by unfold Addr.add; split <;> simp_all]
  have h0 := RowE.flat_at (by decide) hx j u hj
  rw [World.cell?_alloc_lt w _ ⟨b, off + j, none⟩ (World.block_lt_of_cell? w _ h0)]; exact h0)
 have H1C := Lib.hid (Fa.itE.flat_one L)
 have HNL := Lib.hid (show (Fa.itE.flat L).length = n * 2 by rw [Fa.itE.flat_len, hnn]; rfl)
 have hmx : 0 + n ≤ maxLen := by unfold maxLen; omega
 have hbz : (0 + n) * 24 ≤ 140737488355328 := by omega
 have hnil := fun (W : World) => Lib.run_eql_slice_nil (P := Tryz.prog) W 86 89 (some ⟨b, off, none⟩) n ca 0 0 Tryz.underlying86
 rw [hnn] at hL hn ⊢
 clear hi0 hz0 hz1 hz2 hx hb hnn
 go_enter Tryz.func85, Tryz.ntmps85
 go_wp2_with (at_builtin; refine wpList_append_grows _ rfl _ _ 86 rfl 89 i0 (.agg #[.int .i64 0, .string ByteArray.empty]) 2 24 Tryz.underlying86 HI0.out HI1.out HI2.out HI3.out rfl (by decide) (some ⟨w.heap.size, 0, none⟩) 0 0 [] rfl (fun h => by cases h) rfl (fun b hb j u hj => by simp at hj) ⟨b, off, none⟩ n ca (Fa.itE.flat L) rfl HNL.out HNW.out H1C.out (by omega) hmx hbz ?_; intro v' w1 hown hgrow)
 rw [Nat.zero_add, List.nil_append] at hown
 have hB1 := ((Below.refl w.heap.size w).alloc (Nat.le_refl _) (.cells #[] 89)).grown hgrow (by simp) (fun k e => by cases e)
 rcases hown.2 with ⟨_, h0⟩ | ⟨g, cap, cur, rfl, hg, hcell, hk, hm, _⟩
 ·omega
 have HOW := Lib.hid (OwnC.of_own hown)
 clear hown hgrow hcell hm
 go_wp2_with fail
 go_ret
 exact ⟨g, cap, rfl, ⟨HOW.out.down (by simp), HLN.out⟩, hB1⟩
theorem stCt_ins0 (a : Option Addr) (ca : Nat) (fv : Value) (w : World) : Calls Tryz.prog 178 #[.slice a 0 ca, .int .i64 0, .int .i64 0, fv] w fun e w' => e = .returned (.tuple #[]) ∧ w = w' := by
 go_enter Tryz.func178, Tryz.ntmps178
 go_wp2_with fail
 go_loopg [8] 0 (fun gk s8 wr => s8 = .int .i64 1 ∧ w = wr)
 case atStart => exact ⟨rfl, rfl⟩
 case round =>
  obtain ⟨rfl, rfl⟩ := hrel
  go_wp2_with fail
  go_end0
  exact ⟨rfl, rfl⟩
theorem stCt_stable0 (a : Option Addr) (ca : Nat) (fv : Value) (w : World) : Calls Tryz.prog 143 #[.slice a 0 ca, .int .i64 0, fv] w fun e w' => e = .returned (.tuple #[]) ∧ w = w' := by
 go_enter Tryz.func143, Tryz.ntmps143
 go_wp2_with fail
 go_loopg [7, 8] 0 (fun gk s7 s8 wr => s7 = .int .i64 0 ∧ s8 = .int .i64 20 ∧ w = wr)
 case atStart => exact ⟨rfl, rfl, rfl⟩
 case round =>
  obtain ⟨rfl, rfl, rfl⟩ := hrel
  go_wp2_with (go_at_call 178; refine (stCt_ins0 _ _ _ _).mono ?_; rintro e w' ⟨rfl, rfl⟩)
  go_loopg [6] 0 (fun gk s6 wr => s6 = .int .i64 20 ∧ w = wr)
  case atStart => exact ⟨rfl, rfl⟩
  case round =>
   obtain ⟨rfl, rfl⟩ := hrel
   go_wp2_with fail
   go_end0
   exact ⟨rfl, rfl⟩
theorem stCt_sort0 (a : Option Addr) (ca : Nat) (fv : Value) (w : World) : Calls Tryz.prog 86 #[.slice a 0 ca, fv] w fun e w' => e = .returned (.tuple #[]) ∧ w = w' := by
 go_enter Tryz.func86, Tryz.ntmps86
 go_wp2_with (go_at_call 143; refine (stCt_stable0 _ _ _ _).mono ?_; rintro e w' ⟨rfl, rfl⟩)
 go_end0
 exact ⟨rfl, rfl⟩
theorem clipCt_is (a : Option Addr) (n ca : Nat) (w : World) (h : n ≤ ca) (hc : ca ≤ 9223372036854775807) : Calls Tryz.prog 87 #[.slice a n ca] w fun e w' => e = .returned (.slice a n n) ∧ w = w' := by
 go_enter Tryz.func87, Tryz.ntmps87
 go_wp2_with fail
 go_ret
 exact ⟨rfl, rfl⟩
theorem enters_ct : ∀ args w, (callFunc 43 args).run Tryz.prog w = .ok (.enter 43 args) w := enters_of Tryz.func43 (by kernel_rfl) rfl
theorem ct_cmp (L : List Fa.It) (mb B n : Nat) (w : World) (h : Fa.Cts w mb B n L) (g : Nat) (hg : w.heap.size ≤ g) (V0 : World) (hV : Below w.heap.size w V0) :
  CmpOk Fa.itE V0 g 43 #[.pointer (some ⟨mb, 0, none⟩)] Fa.FitIt (Fa.neg1 L) := by
 intro V x y hx hy hgr
 have hl := h.lt
 have hS := (h.keep hV).grown hgr (by omega) (by omega)
 refine (ctCmp_is L x y hx hy mb B n V hS).mono ?_
 rintro e w' ⟨rfl, hB'⟩
 exact ⟨_, rfl, rfl, hB'⟩
def SortCtPost (w : World) (L K : List Fa.It) (e : Ending) (w' : World) : Prop :=
 ∃ (a : Option Addr) (M : List Fa.It), e = .returned (.slice a K.length K.length) ∧ List.Perm M K ∧ M.Pairwise (Fa.lt1 L) ∧ RowE Fa.itE w' a M ∧ Below w.heap.size w w'
theorem sortedCt_is (L K : List Fa.It) (mb B n0 : Nat) (a : Option Addr) (ca : Nat) (hn : K.length ≤ 1000000) (hd : ∀ p, p ∈ K → Fa.FitIt p) (hr : K.Nodup) (w : World) (hq : Fa.Cts w mb B n0 L) (hx : RowE Fa.itE w a K) (hnone : K.length = 0 → a = none) :
  Calls Tryz.prog 42 #[.slice a K.length ca, .func (.func 43) #[] #[.pointer (some ⟨mb, 0, none⟩)]] w (SortCtPost w L K) := by
 rcases Nat.eq_zero_or_pos K.length with hz | hz
 ·obtain rfl := hnone hz
  obtain rfl := List.eq_nil_of_length_eq_zero hz
  clear hx hz hd hr hn hnone
  go_enter Tryz.func42, Tryz.ntmps42
  go_wp2_with (first
   | (go_at_call 85; refine (cloneCt_none _ _).mono ?_; rintro e w' ⟨rfl, rfl⟩)
   | (go_at_call 86; refine (stCt_sort0 _ _ _ _).mono ?_; rintro e w' ⟨rfl, rfl⟩)
   | (go_at_call 87; refine (clipCt_is _ _ _ _ (Nat.le_refl _) (by omega)).mono ?_; rintro e w' ⟨rfl, rfl⟩))
  go_ret
  exact ⟨none, [], rfl, List.Perm.refl _, List.Pairwise.nil, RowE.nil _ _ _, Below.refl _ _⟩
 ·obtain ⟨b, off, rfl, hb, _⟩ := id hx hz
  have HCL := Lib.hid (cloneCt_is b off ca K w hz hn hx)
  have HST := Lib.hid (fun (g cap : Nat) (w4 : World) (hS : SRow Fa.itE w4 w.heap.size 89 g cap K.length K) (hB : Below w.heap.size w w4) => stCt_sortStable Fa.itE rfl (Fa.lt1_ord L) 43 #[.pointer (some ⟨mb, 0, none⟩)] enters_ct Fa.FitIt w.heap.size g cap K.length hn K w4 (ct_cmp L mb B n0 w hq g hS.own.lt.1 w4 hB) hS (hr.imp fun h => Fa.fit1 L h) hd)
  obtain ⟨n, hnn⟩ : ∃ n, K.length = n := ⟨_, rfl⟩
  have HN := Lib.hid hnn
  clear hx hq hd hr hnone
  rw [hnn] at HCL HST hn hz ⊢
  clear hnn
  go_enter Tryz.func42, Tryz.ntmps42
  go_wp2_with (go_at_call 85; (with_reducible refine HCL.out.mono ?_); rintro e w4 ⟨g, cap, rfl, hS4, hB4⟩; obtain ⟨_, _, _, hk4, hm4, _⟩ := id hS4.own; have hm5 : cap ≤ 9223372036854775807 := hm4)
  have HS4 := Lib.hid (HST.out g cap w4 hS4 hB4)
  have HB4 := Lib.hid hB4; have HG := Lib.hid hS4.own.lt
  clear hS4 hB4 hm4
  go_wp2_with (first
   | (go_at_call 86; (with_reducible refine HS4.out.mono ?_); rintro e w6 ⟨rfl, M, hp6, hs6, hS6, hG6⟩; have H6 := Lib.hid (And.intro hp6 (And.intro hs6 (And.intro hS6 hG6))); clear hp6 hs6 hS6 hG6)
   | (go_at_call 87; refine (clipCt_is _ _ _ _ hk4 hm5).mono ?_; rintro e w' ⟨rfl, rfl⟩))
  go_ret
  obtain ⟨hp6, hs6, hS6, hG6⟩ := H6.out
  refine ⟨some ⟨g, 0, none⟩, M, by rw [HN.out]; rfl, hp6, hs6, ?_, ?_⟩
  ·obtain ⟨a', ca', e, _, _, hrow⟩ := RowE.of_own (E := Fa.itE) (L := M) (.inr ⟨g, cap, rfl, hS6.own⟩) hS6.len.symm
   injection e with e1 _ _
   rw [e1]; exact hrow
  ·exact HB4.out.grown hG6 (HB4.out.size) (fun b e => by cases e; exact HG.out.1)
end Go.Proofs.YtimjmjmpaicdbaaGreatDoor
namespace Go.Proofs.YtimjmjmpaicdbaaGreatDoor
open Go.RowKit Go.Sort Go.Shelf
def Fa.strE : Enc ByteArray := ⟨1, fun s => [.string s], fun _ => rfl, fun x u h => by simp only [List.mem_cons, List.not_mem_nil, or_false] at h; rcases h with rfl; rfl⟩
theorem infoSt : (Tryz.prog.info? 9).map (fun i => (i.zero, i.size, i.bytes)) = some (some (.string ByteArray.empty), 1, 16) := by kernel_rfl
theorem cell_st_new (w : World) (x : Value) (t : TypeId) : ∀ j u, [x][j]? = some u → (w.alloc (.cells #[x] t)).cell? ((⟨w.heap.size, 0, none⟩ : Addr).add j) = some u := by
 intro j u hj
 rw [show (⟨w.heap.size, 0, none⟩ : Addr).add j = ⟨w.heap.size, j, none⟩ from by unfold Addr.add; split <;> simp_all, (Blk.new w #[x] t).cell]
 simpa using hj
theorem RowE.of_row {w : World} {a : Option Addr} {n : Nat} {f : Nat → ByteArray} (h : Row w a n (fun i => .string (f i))) : RowE Fa.strE w a ((List.range n).map f) := by
 intro h0
 rw [List.length_map, List.length_range] at h0
 obtain ⟨b, off, e, hb, hc⟩ := h h0
 refine ⟨b, off, e, hb, fun i x hx j v hv => ?_⟩
 have hi : i < n := by have := (List.getElem?_eq_some_iff.1 hx).1; simpa using this
 rw [List.getElem?_map, List.getElem?_range hi] at hx
 obtain rfl : f i = x := Option.some.inj hx
 have hj : j = 0 := by have := (List.getElem?_eq_some_iff.1 hv).1; simp [Fa.strE] at this; exact this
 subst hj
 obtain rfl : Value.string (f i) = v := by simpa [Fa.strE] using hv
 show w.cell? ⟨b, off + i * 1 + 0, none⟩ = _
 rw [Nat.mul_one, Nat.add_zero]
 exact hc i hi
theorem RowE.new1 (w : World) (s : ByteArray) (t : TypeId) : RowE Fa.strE (w.alloc (.cells #[.string s] t)) (some ⟨w.heap.size, 0, none⟩) [s] := by
 intro _
 refine ⟨w.heap.size, 0, rfl, by simp, fun i x hx j v hv => ?_⟩
 have hi : i = 0 := by have := (List.getElem?_eq_some_iff.1 hx).1; simpa using this
 subst hi
 obtain rfl : s = x := by simpa using hx
 have hj : j = 0 := by have := (List.getElem?_eq_some_iff.1 hv).1; simp [Fa.strE] at this; exact this
 subst hj
 obtain rfl : Value.string s = v := by simpa [Fa.strE] using hv
 exact (Blk.new w #[.string s] t).one
noncomputable def Fa.nms (k : Int) (p : Ph) : List ByteArray := (Fa.its k p).map (Fa.nm (decide (k = 1)))
def StrsPost (w : World) (q : Option Addr) (qn : Nat) (L : List ByteArray) (e : Ending) (w' : World) : Prop :=
 ∃ (a : Option Addr) (ca : Nat), e = .returned (.slice a L.length ca) ∧ RowE Fa.strE w' a L ∧ Below w.heap.size w w' ∧ ((a = q ∧ L.length = qn) ∨ ∀ ad : Addr, a = some ad → w.heap.size ≤ ad.block)
theorem dateYear (y m d : Int) (w : World) : (Instr.field 138 (.agg #[.int .i64 y, .int .i64 m, .int .i64 d]) 0).run Tryz.prog w = .ok (.int .i64 y) w := by kernel_rfl
theorem facetsR_1 (p : Ph) (hg : Fa.Good p) (w : World) (hI : p.In w) : Calls Tryz.prog 53 #[.agg #[.int .i64 p.id, .string p.file, .int .i64 p.mom, .int .i64 p.zone, .slice p.wa p.wn p.wc, .int .i64 p.W, .int .i64 p.H, .int .i64 p.turn, .int .i64 p.stars, .slice p.ta p.tn p.tc, .string p.cap, .slice p.pa p.pn p.pc, .bool p.hid], .int .i64 1] w (StrsPost w p.ta p.tn (Fa.nms 1 p)) := by
 have e : Fa.nms 1 p = (List.range p.tn).map p.tag := by
  unfold Fa.nms
  rw [show Fa.its 1 p = (List.range p.tn).map (fun i => ((0 : Int), p.tag i)) from rfl, List.map_map]; rfl
 have hl : (Fa.nms 1 p).length = p.tn := by rw [e]; simp
 have HR := Lib.hid (fun W (hb : Below w.heap.size w W) => (by have := RowE.of_row (Row.keep hI.tags hb); rwa [← e] at this : RowE Fa.strE W p.ta (Fa.nms 1 p)))
 have HL := Lib.hid hl
 clear hl e hI hg
 generalize Fa.nms 1 p = N at *
 obtain ⟨W1, hW1, hP, hz1, hB1⟩ := bxP w p
 have HW1 := Lib.hid hW1
 clear hW1 hz1
 obtain ⟨q0, q1, q2, q3, q4, q5, q6, q7, q8, q9, q10, q11, q12⟩ := hP.photo
 have HB1 := Lib.hid hB1
 have hs1 := hB1.size
 clear hB1
 go_enter Tryz.func53, Tryz.ntmps53
 go_upto_region 2 with fail
 rw [HW1.out]
 go_wp2_with fail
 go_ret
 exact ⟨p.ta, p.tc, by rw [HL.out]; rfl, HR.out _ HB1.out, HB1.out, .inl ⟨rfl, HL.out⟩⟩
theorem facetsR_3 (p : Ph) (hg : Fa.Good p) (w : World) (hI : p.In w) : Calls Tryz.prog 53 #[.agg #[.int .i64 p.id, .string p.file, .int .i64 p.mom, .int .i64 p.zone, .slice p.wa p.wn p.wc, .int .i64 p.W, .int .i64 p.H, .int .i64 p.turn, .int .i64 p.stars, .slice p.ta p.tn p.tc, .string p.cap, .slice p.pa p.pn p.pc, .bool p.hid], .int .i64 3] w (StrsPost w p.ta p.tn (Fa.nms 3 p)) := by
 have e : Fa.nms 3 p = [Tx.mk (Lib.decDigits p.stars.toNat)] := rfl
 rw [e]
 have HT := Lib.hid (fun W => told_is p.stars.toNat (by have := hg.stars; omega) W)
 rw [Int.toNat_of_nonneg hg.stars.1] at HT
 clear e hI hg
 generalize Tx.mk (Lib.decDigits p.stars.toNat) = s at *
 obtain ⟨W1, hW1, hP, hz1, hB1⟩ := bxP w p
 have HW1 := Lib.hid hW1
 clear hW1 hz1
 obtain ⟨q0, q1, q2, q3, q4, q5, q6, q7, q8, q9, q10, q11, q12⟩ := hP.photo
 have HB1 := Lib.hid hB1
 have hs1 := hB1.size
 clear hB1
 go_enter Tryz.func53, Tryz.ntmps53
 go_upto_region 2 with fail
 rw [HW1.out]
 go_wp2_with (go_at_call 36; (with_reducible refine (HT.out _).mono ?_); rintro e w3 ⟨rfl, hB3⟩)
 go_ret
 exact ⟨_, 1, rfl, RowE.new1 _ _ _, below_allocs (below_up HB1.out hB3) _, .inr fun ad h => by cases h; exact (below_up HB1.out hB3).size⟩
theorem facetsR_2 (p : Ph) (hg : Fa.Good p) (w : World) (hI : p.In w) : Calls Tryz.prog 53 #[.agg #[.int .i64 p.id, .string p.file, .int .i64 p.mom, .int .i64 p.zone, .slice p.wa p.wn p.wc, .int .i64 p.W, .int .i64 p.H, .int .i64 p.turn, .int .i64 p.stars, .slice p.ta p.tn p.tc, .string p.cap, .slice p.pa p.pn p.pc, .bool p.hid], .int .i64 2] w (StrsPost w p.ta p.tn (Fa.nms 2 p)) := by
 have e : Fa.nms 2 p = (if p.mom < 0 then [] else [Tx.mk (Lib.decDigits (Fa.yrOf (p.mom + 60 * p.zone)).toNat)]) := by
  unfold Fa.nms
  rw [show Fa.its 2 p = (if p.mom < 0 then [] else [(Fa.yrOf (p.mom + 60 * p.zone), (⟨#[]⟩ : ByteArray))]) from rfl]
  split <;> rfl
 rw [e]
 clear e
 obtain ⟨W1, hW1, hP, hz1, hB1⟩ := bxP w p
 have HW1 := Lib.hid hW1
 clear hW1 hz1
 obtain ⟨q0, q1, q2, q3, q4, q5, q6, q7, q8, q9, q10, q11, q12⟩ := hP.photo
 have HB1 := Lib.hid hB1
 have hs1 := hB1.size
 clear hB1
 by_cases hm : p.mom < 0
 ·rw [if_pos hm]
  clear hI hg
  go_enter Tryz.func53, Tryz.ntmps53
  go_upto_region 2 with fail
  rw [HW1.out]
  go_wp2_with fail
  go_ret
  exact ⟨none, 0, rfl, RowE.nil _ _ _, HB1.out, .inr fun ad h => by cases h⟩
 ·rw [if_neg hm]
  obtain ⟨l1, l2⟩ := hg.loc (by omega)
  have hz := hg.zone
  have hmm := hg.mom
  obtain ⟨D, hD⟩ : ∃ D, (p.mom + 60 * p.zone) / 86400 = D := ⟨_, rfl⟩
  have HDF := Lib.hid (fun W => dateFor_any D W (by omega) (by omega))
  have HT := Lib.hid (fun (y m d : Int) (hv : Cal.vld y m d = true) (hn : Cal.num y m d = D) => (by
   have e := Fa.yrOf_is hv (hn.trans hD.symm)
   obtain ⟨y1, y2, _⟩ := (Cal.vld_iff _ _ _).1 hv
   rw [e]
   refine ⟨rfl, fun W => ?_⟩
   have h := told_is y.toNat (by omega) W
   rwa [Int.toNat_of_nonneg (by omega)] at h
   : Tx.mk (Lib.decDigits (Fa.yrOf (p.mom + 60 * p.zone)).toNat) = Tx.mk (Lib.decDigits y.toNat) ∧ ∀ W, Calls Tryz.prog 36 #[.int .i64 y] W fun e w' => e = .returned (.string (Tx.mk (Lib.decDigits y.toNat))) ∧ Below W.heap.size W w'))
  have w1 : IntKind.i64.wrap (60 * p.zone) = 60 * p.zone := by rw [IntKind.wrap_i64]; omega
  have w2 : IntKind.i64.wrap (p.mom + 60 * p.zone) = p.mom + 60 * p.zone := by rw [IntKind.wrap_i64]; omega
  have w3 : (p.mom + 60 * p.zone).tdiv 86400 = D := by rw [Int.tdiv_eq_ediv_of_nonneg l1]; exact hD
  have w4 : IntKind.i64.wrap D = D := by rw [IntKind.wrap_i64]; omega
  have hfl := dateYear
  clear hI hg hD hz hmm l1 l2
  go_enter Tryz.func53, Tryz.ntmps53
  go_upto_region 2 with fail
  rw [HW1.out]
  go_wp2_with (first
   | (go_at_call 96; (with_reducible refine (HDF.out _).mono ?_); rintro e w3 ⟨y, m, d, hv, hn, rfl, hB3⟩; obtain ⟨ht1, ht2⟩ := HT.out y m d hv hn; have HT1 := Lib.hid ht1; have HT2 := Lib.hid ht2; clear ht1 ht2 hv hn)
   | (go_at_call 36; (with_reducible refine (HT2.out _).mono ?_); rintro e w4 ⟨rfl, hB4⟩))
  go_ret
  rw [HT1.out]
  exact ⟨_, 1, rfl, RowE.new1 _ _ _, below_allocs (below_up (below_up HB1.out hB3) hB4) _, .inr fun ad h => by cases h; exact (below_up (below_up HB1.out hB3) hB4).size⟩
theorem facetsR_4 (p : Ph) (hg : Fa.Good p) (w : World) (hI : p.In w) : Calls Tryz.prog 53 #[.agg #[.int .i64 p.id, .string p.file, .int .i64 p.mom, .int .i64 p.zone, .slice p.wa p.wn p.wc, .int .i64 p.W, .int .i64 p.H, .int .i64 p.turn, .int .i64 p.stars, .slice p.ta p.tn p.tc, .string p.cap, .slice p.pa p.pn p.pc, .bool p.hid], .int .i64 4] w (StrsPost w p.ta p.tn (Fa.nms 4 p)) := by
 have e : Fa.nms 4 p = (List.range p.pn).map (fun i => Tx.mk (Lib.decDigits (p.who i).toNat)) := by
  unfold Fa.nms
  rw [show Fa.its 4 p = (List.range p.pn).map (fun i => (p.who i, (⟨#[]⟩ : ByteArray))) from rfl, List.map_map]; rfl
 rw [e]
 obtain ⟨i0, hi0, hy0, hy1, hy2⟩ := info_parts infoSt
 have HI0 := Lib.hid hi0; have HI1 := Lib.hid hy0; have HI2 := Lib.hid hy1; have HI3 := Lib.hid hy2
 have HT := Lib.hid hI.people
 have hpn := hg.pn
 have HTOLD := Lib.hid (fun j (hj : j < p.pn) W => (by
  have h := told_is (p.who j).toNat (by have := hg.who j hj; omega) W
  rwa [Int.toNat_of_nonneg (by have := hg.who j hj; omega)] at h
  : Calls Tryz.prog 36 #[.int .i64 (p.who j)] W fun e w' => e = .returned (.string (Tx.mk (Lib.decDigits (p.who j).toNat))) ∧ Below W.heap.size W w'))
 obtain ⟨F, hF⟩ : ∃ F : Nat → ByteArray, (fun i => Tx.mk (Lib.decDigits (p.who i).toNat)) = F := ⟨_, rfl⟩
 have hFj : ∀ j, Tx.mk (Lib.decDigits (p.who j).toNat) = F j := fun j => by rw [← hF]
 rw [hF]
 simp only [hFj] at HTOLD
 obtain ⟨W1, hW1, hP, hz1, hB1⟩ := bxP w p
 have HW1 := Lib.hid hW1
 clear hW1 hz1
 obtain ⟨q0, q1, q2, q3, q4, q5, q6, q7, q8, q9, q10, q11, q12⟩ := hP.photo
 have HB1 := Lib.hid hB1
 have hs1 := hB1.size
 clear hB1
 clear e hI hg hi0 hy0 hy1 hy2 hF hFj
 go_enter Tryz.func53, Tryz.ntmps53
 go_upto_region 2 with fail
 rw [HW1.out]
 go_wp2_with fail
 go_loopg [5, 38] p.pn (fun gk v i wr => ∃ j : Nat, j ≤ p.pn ∧ gk = p.pn - j ∧ i = .int .i64 j ∧ wr.ownsRow w.heap.size 9 1 v j (Fa.strE.flat ((List.range j).map F)) ∧ Below w.heap.size w wr)
 case atStart => exact ⟨0, by omega, rfl, rfl, World.ownsRow_nil _ _ _ _, HB1.out⟩
 case round =>
  obtain ⟨j, hj, rfl, rfl, hown, hB⟩ := hrel
  have hsz := hB.size
  by_cases hlt : j < p.pn
  ·obtain ⟨b, off, hpa, hb, hcell⟩ := (HT.out.keep hB) (by omega)
   have d0 := hcell j hlt
   have HOWN := Lib.hid hown
   have HTJ := Lib.hid (HTOLD.out j hlt)
   have HY : Hid ((List.range (j + 1)).map F = (List.range j).map F ++ [F j]) := Lib.hid (by simp [List.range_succ])
   have hj1 : (j : Int) < ((p.pn : Nat) : Int) := by omega
   obtain ⟨s, hs⟩ : ∃ s, F j = s := ⟨_, rfl⟩
   rw [hs] at HTJ HY
   clear hcell hown hs
   rw [hpa]
   go_wp2_with (first
    | (go_at_call 36; (with_reducible refine (HTJ.out _).mono ?_); rintro e w4 ⟨rfl, hB4⟩; have hB4w := below_up hB hB4; have hs4 := hB4w.size; have HOWN4 := Lib.hid (own_keepH HOWN.out hB4))
    | (at_builtin; refine wpList_append_own2 _ rfl _ _ 83 rfl w.heap.size 9 i0 (.string ByteArray.empty) 1 16 Tryz.underlying83 HI0.out HI1.out HI2.out HI3.out rfl (by decide) _ _ _ rfl (HOWN4.out.alloc _) ⟨w4.heap.size, 0, none⟩ 1 1 (Fa.strE.cells s) rfl (by decide) rfl (cell_st_new _ _ _) (Fa.strE.one _) (by unfold maxLen; omega) (by omega) (by simp; omega) ?_; intro g8 cap8 w8 hown8 hgrow8 hnew8))
   have HOWN8 := Lib.hid hown8
   have HB8 := Lib.hid ((below_allocs hB4w (.cells (Fa.strE.cells s).toArray 9)).grown hgrow8 (by simp; omega) (fun k e => (HOWN4.out.lt k e).1))
   clear hown8 hgrow8 hnew8
   rw [← hpa]
   go_roundg (p.pn - (j + 1))
   case rel => exact ⟨j + 1, by omega, rfl, by go_num, by rw [HY.out, Fa.strE.flat_snoc]; exact HOWN8.out, HB8.out⟩
   case measure => omega
  ·obtain rfl : j = p.pn := by omega
   have hjn : ¬ (((p.pn : Nat) : Int) < ((p.pn : Nat) : Int)) := by omega
   obtain ⟨a, ca, rfl, h1, h2, h3⟩ := RowE.of_own (OwnV.of_own (show wr.ownsRow w.heap.size 9 Fa.strE.k u5 p.pn (Fa.strE.flat ((List.range p.pn).map F)) from hown)) (by simp)
   have H3 := Lib.hid h3
   have HNE : Hid (∀ ad : Addr, a = some ad → w.heap.size ≤ ad.block) := Lib.hid (fun ad e => (hown.lt ad.block (by subst e; rfl)).1)
   clear hown h3
   go_wp2_with fail
   go_ret
   exact ⟨a, ca, by simp, H3.out, hB, .inr HNE.out⟩
theorem facetsR_is (k : Int) (hk : 1 ≤ k ∧ k ≤ 4) (p : Ph) (hg : Fa.Good p) (w : World) (hI : p.In w) : Calls Tryz.prog 53 #[.agg #[.int .i64 p.id, .string p.file, .int .i64 p.mom, .int .i64 p.zone, .slice p.wa p.wn p.wc, .int .i64 p.W, .int .i64 p.H, .int .i64 p.turn, .int .i64 p.stars, .slice p.ta p.tn p.tc, .string p.cap, .slice p.pa p.pn p.pc, .bool p.hid], .int .i64 k] w (StrsPost w p.ta p.tn (Fa.nms k p)) := by
 have : k = 1 ∨ k = 2 ∨ k = 3 ∨ k = 4 := by omega
 rcases this with rfl | rfl | rfl | rfl
 ·exact facetsR_1 p hg w hI
 ·exact facetsR_2 p hg w hI
 ·exact facetsR_3 p hg w hI
 ·exact facetsR_4 p hg w hI
end Go.Proofs.YtimjmjmpaicdbaaGreatDoor
namespace Go.Proofs.YtimjmjmpaicdbaaGreatDoor
open Go.RowKit Go.Sort Go.Shelf Go.Maps
def Fa.fcE : Enc Fa.Fc := ⟨2, fun p => [.string p.1, .int .i64 p.2], fun _ => rfl, fun x u h => by simp only [List.mem_cons, List.not_mem_nil, or_false] at h; rcases h with rfl | rfl <;> rfl⟩
noncomputable def Fa.all (k : Int) (S : List Ph) : List Fa.It := S.flatMap (Fa.its k)
theorem Fa.all_snoc (k : Int) (S : List Ph) (p : Ph) : Fa.all k (S ++ [p]) = Fa.all k S ++ Fa.its k p := by unfold Fa.all; simp
theorem Fa.its_few {k : Int} {p : Ph} (hg : Fa.Good p) : (Fa.its k p).length ≤ 20 := by
 unfold Fa.its
 split
 ·simp; exact hg.tn
 ·split
  ·split <;> simp
  ·split
   ·simp
   ·simp; exact hg.pn
theorem Fa.its_fit {k : Int} {p : Ph} (hg : Fa.Good p) (hF : p.Fits) : ∀ x ∈ Fa.its k p, Fa.FitIt x := by
 intro x hx
 unfold Fa.its at hx
 split at hx
 ·obtain ⟨i, hi, rfl⟩ := List.mem_map.1 hx
  exact ⟨by show (Lit.int .i64 0).wf = true; decide, by have := hF.tag i (List.mem_range.1 hi); unfold maxLen; exact this⟩
 ·split at hx
  ·split at hx
   ·cases hx
   ·rw [List.mem_singleton] at hx
    subst hx
    refine ⟨WalkArith.wf_i64 ?_, by show (0 : Nat) ≤ _; exact Nat.zero_le _⟩
    show _ ≤ Fa.yrOf _ ∧ Fa.yrOf _ ≤ _
    unfold Fa.yrOf
    split
    ·rename_i h
     obtain ⟨m', d', hv', hn'⟩ := Classical.choose_spec h
     obtain ⟨y1, y2, _⟩ := (Cal.vld_iff _ _ _).1 hv'
     omega
    ·omega
  ·split at hx
   ·rw [List.mem_singleton] at hx
    subst hx
    exact ⟨WalkArith.wf_i64 (by show _ ≤ p.stars ∧ p.stars ≤ _; have := hg.stars; omega), Nat.zero_le _⟩
   ·obtain ⟨i, hi, rfl⟩ := List.mem_map.1 hx
    exact ⟨WalkArith.wf_i64 (by show _ ≤ p.who i ∧ p.who i ≤ _; have := hg.who i (List.mem_range.1 hi); omega), Nat.zero_le _⟩
theorem Fa.its_ok {k : Int} {p : Ph} (hg : Fa.Good p) : ∀ x ∈ Fa.its k p, Fa.Ok (decide (k = 1)) x := by
 intro x hx
 unfold Fa.its at hx
 unfold Fa.Ok
 by_cases h1 : k = 1
 ·rw [if_pos h1] at hx
  rw [decide_eq_true h1, if_pos rfl]
  obtain ⟨i, hi, rfl⟩ := List.mem_map.1 hx
  rfl
 ·rw [if_neg h1] at hx
  rw [decide_eq_false h1, if_neg (by decide)]
  split at hx
  ·split at hx
   ·cases hx
   ·rw [List.mem_singleton] at hx
    subst hx
    refine ⟨rfl, ?_⟩
    show 0 ≤ Fa.yrOf _
    unfold Fa.yrOf
    split
    ·rename_i h
     obtain ⟨m', d', hv', hn'⟩ := Classical.choose_spec h
     obtain ⟨y1, y2, _⟩ := (Cal.vld_iff _ _ _).1 hv'
     omega
    ·omega
  ·split at hx
   ·rw [List.mem_singleton] at hx
    subst hx
    exact ⟨rfl, hg.stars.1⟩
   ·obtain ⟨i, hi, rfl⟩ := List.mem_map.1 hx
    exact ⟨rfl, by show 0 ≤ p.who i; have := hg.who i (List.mem_range.1 hi); omega⟩
theorem cell_map {w w' : World} {B n : Nat} {D : DataW Unit} {P : Program} {k : TypeId} {R : Value → Option (DataW Unit × List MemPlace)} (hm : w.ownsMap P k R B n D) (hg : w.grownBy w' (some B)) {a : Addr} {v : Value} (h : w.cell? a = some v) : w'.cell? a = some v := by
 obtain ⟨es, ck, hb, _⟩ := hm
 refine hg.cell h fun e => ?_
 have e : a.block = B := Option.some.inj e
 unfold World.cell? at h
 rw [e, hb] at h
 cases h
theorem RowE.beside {α : Type} {E : Enc α} {w w' : World} {B n : Nat} {D : DataW Unit} {P : Program} {k : TypeId} {R : Value → Option (DataW Unit × List MemPlace)} {a : Option Addr} {L : List α} (h : RowE E w a L) (hm : w.ownsMap P k R B n D) (hg : w.grownBy w' (some B)) : RowE E w' a L := by
 intro h0
 obtain ⟨b, off, e, hb, hc⟩ := h h0
 exact ⟨b, off, e, Nat.lt_of_lt_of_le hb hg.size, fun i x hx j v hv => cell_map hm hg (hc i x hx j v hv)⟩
theorem Fa.below_grown {w0 w w' : World} {g : Nat} (h : Below w0.heap.size w0 w) (hg : w.grownBy w' (some g)) (h1 : w0.heap.size ≤ g) : Below w0.heap.size w0 w' := h.grown hg h.size (fun b e => by cases e; exact h1)
theorem infoFc : (Tryz.prog.info? 51).map (fun i => (i.zero, i.size, i.bytes)) = some (some (.agg #[.string ByteArray.empty, .int .i64 0]), 2, 24) := by kernel_rfl
def FacPost (w : World) (k : Int) (S : List Ph) (e : Ending) (w' : World) : Prop :=
 ∃ (a : Option Addr) (ca : Nat) (K : List Fa.It), e = .returned (.tuple #[.slice a K.length ca, .int .i64 0]) ∧ (∀ x, x ∈ K ↔ x ∈ Fa.all k S) ∧ K.Pairwise (Fa.lt1 (Fa.all k S)) ∧ RowE Fa.fcE w' a (K.map fun x => (Fa.nm (decide (k = 1)) x, Fa.cn x (Fa.all k S))) ∧ Below w.heap.size w w'
theorem clipFc_is (a : Option Addr) (n ca : Nat) (w : World) (h : n ≤ ca) (hc : ca ≤ 9223372036854775807) : Calls Tryz.prog 47 #[.slice a n ca] w fun e w' => e = .returned (.slice a n n) ∧ w = w' := by
 go_enter Tryz.func47, Tryz.ntmps47
 go_wp2_with fail
 go_ret
 exact ⟨rfl, rfl⟩
theorem grow_below (w : World) (k : Nat) (os : Array Obj) : Below w.heap.size w (grow (w.drewN k) os) := ⟨rfl, rfl, rfl, by simp [grow], fun j hj => by simp [grow, Array.getElem?_append, hj]⟩
theorem facets_err (a : Option Addr) (n ca : Nat) (x : Nat → Ph) (c : Cnd) (k : Int) (w : World) (hx : Phs w a n x) (hF : ∀ i, i < n → (x i).Fits) (hn : n ≤ 9223372036854775807) (hG : c.Fits) (hc : c.In w) (q : Int) (hq : (if Fd.lerr x n = 0 then (if c.err = 0 then (if decide (1 ≤ k ∧ k ≤ 4) = true then 0 else 10) else c.err) else Fd.lerr x n) = q) (hne : q ≠ 0) :
  Calls Tryz.prog 15 #[.slice a n ca, .agg #[.int .i64 c.op, .slice c.ka c.kn c.kc, .string c.text, .int .i64 c.low, .int .i64 c.high, .slice c.aa c.an c.ac], .int .i64 k] w fun e w' => e = .returned (.tuple #[.slice none 0 0, .int .i64 q]) ∧ Below w.heap.size w w' := by
 obtain ⟨W1, hW1, hC, hz1, hB⟩ := box w #[.int .i64 c.op, .slice c.ka c.kn c.kc, .string c.text, .int .i64 c.low, .int .i64 c.high, .slice c.aa c.an c.ac] 25
 have HW1 := Lib.hid hW1
 have HC1 := Lib.hid (check_is a n ca x W1 (hx.keep hB) hF hn)
 have HC2 := Lib.hid (fun W (hb : Below w.heap.size w W) => checkCond_is c W (Cnd.In.keep hb hc) hG)
 obtain ⟨l0, l1, l2, l3, l4, l5⟩ := hC.six
 have hsw := hB.size
 clear hW1 hz1
 have hne1 : (q != 0) = true := by simpa using hne
 clear hx hc hF hG
 by_cases h0 : Fd.lerr x n = 0
 ·rw [if_pos h0] at hq
  rw [h0] at HC1
  by_cases h1 : c.err = 0
  ·rw [if_pos h1] at hq
   rw [h1] at HC2
   have h2 : decide (1 ≤ k ∧ k ≤ 4) = false := by
    cases hd : decide (1 ≤ k ∧ k ≤ 4)
    ·rfl
    ·rw [if_pos hd] at hq; exact absurd hq.symm hne
   rw [if_neg (by rw [h2]; decide)] at hq
   subst hq
   have HO := Lib.hid (fun W => outsideF_is k 1 4 false h2 W)
   clear h0 h1 h2
   go_enter Tryz.func15, Tryz.ntmps15
   go_upto_region 1 with fail
   rw [HW1.out]
   go_wp2_with (first
    | (go_at_call 37; (with_reducible refine HC1.out.mono ?_); rintro e w4 ⟨rfl, hB4⟩; have hB4w := below_up hB hB4; obtain ⟨l0, l1, l2, l3, l4, l5⟩ := (hC.keep hB4).six)
    | (go_at_call 8; (with_reducible refine (HC2.out _ hB4w).mono ?_); rintro e w5 ⟨rfl, hB5⟩; have hB5w := below_up hB4w hB5)
    | (go_at_call 32; (with_reducible refine (HO.out _).mono ?_); rintro e w' ⟨rfl, rfl⟩))
   go_ret2
   exact ⟨rfl, hB5w⟩
  ·rw [if_neg h1] at hq
   rw [hq] at HC2
   clear h0 h1 hq
   go_enter Tryz.func15, Tryz.ntmps15
   go_upto_region 1 with fail
   rw [HW1.out]
   go_wp2_with (first
    | (go_at_call 37; (with_reducible refine HC1.out.mono ?_); rintro e w4 ⟨rfl, hB4⟩; have hB4w := below_up hB hB4; obtain ⟨l0, l1, l2, l3, l4, l5⟩ := (hC.keep hB4).six)
    | (go_at_call 8; (with_reducible refine (HC2.out _ hB4w).mono ?_); rintro e w5 ⟨rfl, hB5⟩; have hB5w := below_up hB4w hB5))
   go_ret2
   exact ⟨rfl, hB5w⟩
 ·rw [if_neg h0] at hq
  rw [hq] at HC1
  clear h0 hq
  go_enter Tryz.func15, Tryz.ntmps15
  go_upto_region 1 with fail
  rw [HW1.out]
  go_wp2_with (go_at_call 37; (with_reducible refine HC1.out.mono ?_); rintro e w4 ⟨rfl, hB4⟩)
  go_ret2
  exact ⟨rfl, below_up hB hB4⟩
theorem facets_ok (a : Option Addr) (n ca : Nat) (x : Nat → Ph) (c : Cnd) (k : Int) (w : World) (hx : Phs w a n x) (hF : ∀ i, i < n → (x i).Fits) (hn : n ≤ 9223372036854775807) (hG : c.Fits) (hc : c.In w) (hmx : MxL w) (ht : Tx.Tab w) (hl0 : Fd.lerr x n = 0) (hc0 : c.err = 0) (hk : 1 ≤ k ∧ k ≤ 4) :
  Calls Tryz.prog 15 #[.slice a n ca, .agg #[.int .i64 c.op, .slice c.ka c.kn c.kc, .string c.text, .int .i64 c.low, .int .i64 c.high, .slice c.aa c.an c.ac], .int .i64 k] w (FacPost w k (Fd.sel (fun p => c.holds p) x n)) := by
 have hfew := Fd.lerr_few hl0
 have hle := Fd.sel_le (fun p => c.holds p) x n
 obtain ⟨W1, hW1, hC, hz1, hB⟩ := box w #[.int .i64 c.op, .slice c.ka c.kn c.kc, .string c.text, .int .i64 c.low, .int .i64 c.high, .slice c.aa c.an c.ac] 25
 have HW1 := Lib.hid hW1
 have HC1 := Lib.hid (check_is a n ca x W1 (hx.keep hB) hF hn)
 have HC2 := Lib.hid (fun W (hb : Below w.heap.size w W) => checkCond_is c W (Cnd.In.keep hb hc) hG)
 obtain ⟨l0, l1, l2, l3, l4, l5⟩ := hC.six
 have hsw := hB.size
 clear hW1 hz1
 have HO := Lib.hid (fun W => outsideF_is k 1 4 true (decide_eq_true hk) W)
 have HC3 := Lib.hid (fun W (hb : Below w.heap.size w W) => nodeOf_is w hmx c W hc hG (Cnd.good_of hc hc0) hb)
 have HR := Lib.hid (fun i (hi : i < n) => Ph.right_of (hF i hi) (Fd.lerr_each hl0 i hi))
 have hGD : ∀ p, p ∈ Fd.sel (fun p => c.holds p) x n → Fa.Good p ∧ p.Fits := fun p hp => by
  obtain ⟨i, hi, rfl⟩ := Fd.sel_mem hp
  exact ⟨Fa.good_of (Fd.lerr_each hl0 i hi), hF i hi⟩
 have HIN0 := Lib.hid (fun W (hb : Below w.heap.size w W) p (hp : p ∈ Fd.sel (fun p => c.holds p) x n) => (by
  obtain ⟨i, hi, rfl⟩ := Fd.sel_mem hp
  exact (hx.each i hi).keep hb : p.In W))
 rw [hl0] at HC1
 rw [hc0] at HC2
 have HH := Lib.hid (fun (v : Value) (D : Nat → Prop) W (hb : Below w.heap.size w W) (hN : NodeIs (fun p => c.holds p) D W v) (hD : ∀ b, D b → b < W.heap.size) => holding_is (fun p => c.holds p) D v a n ca x W (hx.keep hb) HR.out hN hD hfew)
 have HTB := Lib.hid (fun W (hb : Below w.heap.size w W) => Tx.tab_below ht hb)
 have HGD := Lib.hid hGD
 clear hx hc hF hG hl0 hc0 hGD
 generalize hS : Fd.sel (fun p => c.holds p) x n = S at *
 obtain ⟨ns, hns⟩ : ∃ ns, S.length = ns := ⟨_, rfl⟩
 have HNS := Lib.hid hns
 have hns2 : ns ≤ 1000 := by omega
 have HK := Lib.hid hk
 have hmm := @run_makeMap Tryz.prog
 clear hS hle hns hk ht hmx
 go_enter Tryz.func15, Tryz.ntmps15
 go_upto_region 1 with fail
 rw [HW1.out]
 go_upto_region 9 with (first
  | (go_at_call 37; (with_reducible refine HC1.out.mono ?_); rintro e w4 ⟨rfl, hB4⟩; have hB4w := below_up hB hB4; obtain ⟨l0, l1, l2, l3, l4, l5⟩ := (hC.keep hB4).six)
  | (go_at_call 8; (with_reducible refine (HC2.out _ hB4w).mono ?_); rintro e w5 ⟨rfl, hB5⟩; have hB5w := below_up hB4w hB5)
  | (go_at_call 32; (with_reducible refine (HO.out _).mono ?_); rintro e w' ⟨rfl, rfl⟩))
 have hs5 := hB5w.size
 obtain ⟨WM, hWM⟩ : ∃ WM, w5.alloc (.map #[] 0) = WM := ⟨_, rfl⟩
 obtain ⟨WB, hWB, hBX, hzB, hBB⟩ := box WM #[.map (some w5.heap.size)] 78
 have hzM : WM.heap.size = w5.heap.size + 1 := by rw [← hWM]; simp
 have hM0 : WM.ownsMap (H := Unit) Tryz.prog 89 (plainElem Tryz.prog 3) w5.heap.size 0 (.map []) := by rw [← hWM]; exact World.ownsMap_made _ _ _ _
 have hBM : Below w5.heap.size w5 WM := by rw [← hWM]; exact below_allocs (Below.refl _ _) _
 have hBW := below_up hBM hBB
 rw [hzM] at hBX
 have hCT : Fa.Cts WB (w5.heap.size + 1) w5.heap.size 0 [] := ⟨hBX.one, _, hM0.kept (row := none) ⟨hBB.os, hBB.tape, hBB.output, hBB.size, fun k hk _ => hBB.block k hk⟩ (by simp), Cnt.nil⟩
 have HWB : Hid ((w5.alloc (.map #[] 0)).alloc (.cells #[.map (some w5.heap.size)] 78) = WB) := Lib.hid (by rw [hWM]; exact hWB)
 have hBWw := below_up hB5w hBW
 obtain ⟨l0, l1, l2, l3, l4, l5⟩ := (hC.keep (below_up (below_up hB4 hB5) hBW)).six
 have HCT := Lib.hid hCT
 clear hWM hWB hM0 hBM hBB hzB hCT hBX hzM
 go_upto_region 10 with fail
 rw [HWB.out]
 go_wp2_with (first
  | (go_at_call 40; (with_reducible refine (HC3.out _ hBWw).mono ?_); rintro e w7 ⟨v7, rfl, hN7, hB7⟩; have hB7w := below_up hBWw hB7)
  | (go_at_call 39; (with_reducible refine (HH.out _ _ _ hB7w hN7 (fun b hb => Dm.lt hBWw.size hB7.size hb)).mono ?_); rintro e w8 ⟨a8, c8, rfl, hk8, hm8, hS8, hB8⟩; have HS8 := Lib.hid (RowE.of_phs hS8); have HB8 := Lib.hid (below_up hB7 hB8); clear hS8; rw [HNS.out]))
 have hB8w := below_up hBWw HB8.out
 have HB8w := Lib.hid hB8w
 have HCT8 := Lib.hid (HCT.out.keep HB8.out)
 obtain ⟨B, hBe⟩ : ∃ B, w5.heap.size = B := ⟨_, rfl⟩
 rw [hBe] at HCT8 hs5
 rw [hBe]
 clear hN7 hB7w hB8w hB7 hB8
 have hBw : w.heap.size ≤ B := hs5
 go_loopg [39] ns (fun gk i wr => ∃ j : Nat, j ≤ ns ∧ gk = ns - j ∧ i = .int .i64 j ∧ Fa.Cts wr (B + 1) B (Fa.all k (S.take j)).length (Fa.all k (S.take j)) ∧ w8.grownBy wr (some B) ∧ (Fa.all k (S.take j)).length ≤ j * 20)
 case atStart => exact ⟨0, by omega, rfl, rfl, HCT8.out, World.grownBy.refl _ _, by simp [Fa.all]⟩
 case round =>
  obtain ⟨j, hj, rfl, rfl, hct, hgr, hlen⟩ := hrel
  obtain ⟨V0, hV0⟩ : ∃ V0, V0 = wr := ⟨_, rfl⟩
  subst hV0
  have HCTV := Lib.hid hct; have HGRV := Lib.hid hgr; have HLEN := Lib.hid hlen
  obtain ⟨D8, hD8, _⟩ := HCT8.out.map
  have HSV := Lib.hid (HS8.out.beside hD8 hgr)
  have HBV := Lib.hid (Fa.below_grown HB8w.out hgr hBw)
  have q0 := hct.cell
  clear hct hgr hlen hD8
  by_cases hlt : j < ns
  ·obtain ⟨y, hy⟩ : ∃ y, S[j]? = some y := ⟨_, List.getElem?_eq_getElem (by rw [HNS.out]; exact hlt)⟩
   have hym := List.mem_of_getElem? hy
   have HST : Hid (Fa.all k (S.take (j + 1)) = Fa.all k (S.take j) ++ Fa.its k y) := Lib.hid (by rw [← Fa.all_snoc, List.take_add_one, hy]; rfl)
   have HGY := Lib.hid (HGD.out y hym)
   have HIY := Lib.hid (HIN0.out V0 HBV.out y hym)
   obtain ⟨b7, o7, ha7, hb7, hcell⟩ := HSV.out (by rw [HNS.out]; omega)
   obtain ⟨q1, q2, q3, q4, q5, q6, q7, q8, q9, q10, q11, q12, q13⟩ := PhAt.of_cells (w := V0) (b := b7) (o := o7 + j * 13) (p := y) (fun i hi => by
    have hl : i < (Fd.phCells y).length := hi
    rw [List.getElem?_eq_getElem hl]
    exact hcell j y hy i _ (List.getElem?_eq_getElem hl))
   obtain ⟨W4, hW4, hP, hz4, hB4'⟩ := bxP V0 y
   have HW4 := Lib.hid hW4
   have hB4w' := below_up HBV.out hB4'
   have HFO := Lib.hid (facetsOfF_is k HK.out y HGY.out.1 W4 (HIY.out.keep hB4') (HTB.out W4 hB4w'))
   have HCT4 := Lib.hid (HCTV.out.keep hB4')
   have hs4 := hB4'.size
   obtain ⟨m0, m1, m2, m3, m4, m5, m6, m7, m8, m9, m10, m11, m12⟩ := hP.photo
   have hj1 : (j : Int) < (ns : Int) := by omega
   clear hcell hy hym hW4 hP hz4
   rw [ha7]
   go_upto_region 13 with fail
   rw [HW4.out]
   clear q0 q1 q2 q3 q4 q5 q6 q7 q8 q9 q10 q11 q12 q13
   go_wp2_with (go_at_call 41; (with_reducible refine HFO.out.mono ?_); rintro e w6 ⟨a6, c6, rfl, hk6, hm6, hr6, hB6⟩)
   clear m0 m1 m2 m3 m4 m5 m6 m7 m8 m9 m10 m11 m12
   have HR6 := Lib.hid hr6
   have HCT6 := Lib.hid (HCT4.out.keep hB6)
   have HB6 := Lib.hid (below_up hB4' hB6)
   have HFT := Lib.hid (Fa.its_fit (k := k) HGY.out.1 HGY.out.2)
   have hfew6 := Fa.its_few (k := k) HGY.out.1
   obtain ⟨L0, hL0⟩ : ∃ L0, Fa.all k (S.take j) = L0 := ⟨_, rfl⟩
   obtain ⟨I, hI⟩ : ∃ I, Fa.its k y = I := ⟨_, rfl⟩
   rw [hL0] at HCT6 HST HLEN
   rw [hI] at HST HFT HR6 hfew6 hk6
   rw [hI]
   obtain ⟨ni, hni⟩ : ∃ ni, I.length = ni := ⟨_, rfl⟩
   have HNI := Lib.hid hni
   rw [hni] at hfew6 hk6
   rw [hni]
   have hsB : B < V0.heap.size := HCTV.out.lt.2
   clear hr6 hL0 hI hni HFO HCT4
   go_loopg [47] ni (fun gk i wr2 => ∃ t : Nat, t ≤ ni ∧ gk = ni - t ∧ i = .int .i64 t ∧ Fa.Cts wr2 (B + 1) B (L0 ++ I.take t).length (L0 ++ I.take t) ∧ w6.grownBy wr2 (some B))
   case atStart => exact ⟨0, by omega, rfl, rfl, by rw [List.take_zero, List.append_nil]; exact HCT6.out, World.grownBy.refl _ _⟩
   case round =>
    obtain ⟨t, ht, rfl, rfl, hct2, hgr2⟩ := hrel
    have HCT2 := Lib.hid hct2; have HGR2 := Lib.hid hgr2
    obtain ⟨D6, hD6, _⟩ := HCT6.out.map
    have HRR := Lib.hid (HR6.out.beside hD6 hgr2)
    clear hct2 hgr2 hD6
    by_cases hlt2 : t < ni
    ·obtain ⟨z, hz⟩ : ∃ z, I[t]? = some z := ⟨_, List.getElem?_eq_getElem (by rw [HNI.out]; exact hlt2)⟩
     have hzf := HFT.out z (List.mem_of_getElem? hz)
     have HTK : Hid (L0 ++ I.take (t + 1) = L0 ++ I.take t ++ [z]) := Lib.hid (by rw [List.take_add_one, hz, List.append_assoc]; rfl)
     obtain ⟨b6, o6, ha6, hb6, hcell⟩ := HRR.out (by rw [HNI.out]; omega)
     have c0 : wr.cell? ⟨b6, o6 + t * 2, none⟩ = some (.int .i64 z.1) := hcell t z hz 0 (.int .i64 z.1) rfl
     have c1 : wr.cell? ⟨b6, o6 + t * 2 + 1, none⟩ = some (.string z.2) := hcell t z hz 1 (.string z.2) rfl
     obtain ⟨Wz, hWz, hZ, hzz, hBz⟩ := box wr #[.int .i64 z.1, .string z.2] 89
     have HWz := Lib.hid hWz
     have HCTz := HCT2.out.keep hBz
     obtain ⟨z0, z1⟩ := hZ.two
     have q0 := HCTz.cell
     have hL20 : (L0 ++ I.take t).length ≤ 40000 := by rw [List.length_append, List.length_take]; have := HLEN.out; omega
     have ht1 : (t : Int) < (ni : Int) := by omega
     obtain ⟨Dz, hDz, hCz⟩ := HCTz.map
     obtain ⟨cc, st, V1, hat, hwf, hl1, hE, hl2, hg1, hstore⟩ := entry_own (w := Wz.drew) hDz ctLaw Tryz.underlying78 Tryz.underlying3 zeroI (by unfold maxLen; omega) (ctKey z hzf)
     have hcn : cc = (Fa.cn z (L0 ++ I.take t) : Int) := by rw [hCz.at_ z hzf] at hat; cases hat; rfl
     have hcle := Fa.cn_le z (L0 ++ I.take t)
     have hcw : IntKind.i64.wrap (cc + 1) = cc + 1 := by rw [IntKind.wrap_i64]; omega
     obtain ⟨V2, hst2, hown2, hg2⟩ := hstore (cc + 1) (WalkArith.wf_i64 (by omega))
     have HADD := Lib.hid (hCz.add hDz.isMap hzf)
     rw [← hcn] at HADD
     have HOWN2 := Lib.hid hown2
     have HG2 := Lib.hid hg2
     have HGZ := Lib.hid hBz
     have hE' : (Instr.mapEntry 78 (.map (some B)) (.agg #[.int .i64 z.1, .string z.2])).run Tryz.prog Wz.drew = .ok (.tuple #[.int .i64 cc, .int .i64 st]) V1 := hE
     have hl1' : (Instr.lookup 78 (.map (some B)) (.agg #[.int .i64 z.1, .string z.2]) false).run Tryz.prog Wz.drew = .ok (.int .i64 cc) Wz.drew := hl1
     have hl2' : (Instr.lookup 78 (.map (some B)) (.agg #[.int .i64 z.1, .string z.2]) false).run Tryz.prog V1 = .ok (.int .i64 cc) V1 := hl2
     have hst2' : (Instr.entryStore 78 (.map (some B)) (.int .i64 st) (.int .i64 (cc + 1))).run Tryz.prog V1 = .ok () V2 := hst2
     obtain ⟨z1', z2'⟩ := z
     clear hcell hz hWz hZ hzz hE hl1 hl2 hst2 hstore hown2 hg2 hDz hCz hat hwf hg1 HCTz hBz hcle hL20 hcn
     rw [ha6]
     go_upto_region 16 with fail
     rw [HWz.out]
     go_region
     go_wp2_with fail
     rw [← ha6]
     go_roundg (ni - (t + 1))
     case rel =>
      refine ⟨t + 1, by omega, rfl, by go_num, ⟨?_, Dz.put (Fa.kl (z1', z2')) (.lit (.int .i64 (cc + 1))), ?_, ?_⟩, ?_⟩
      ·exact HG2.out.cell (by exact (HCT2.out.keep HGZ.out).cell) (by simp)
      ·rw [HTK.out, List.length_append]; exact HOWN2.out
      ·rw [HTK.out]; exact HADD.out
      ·exact (HGR2.out.trans (World.grownBy.but ⟨HGZ.out.os, HGZ.out.tape, HGZ.out.output, HGZ.out.size, fun k hk _ => HGZ.out.block k hk⟩ _)).trans (grown_dn (World.grownBy.refl _ _) HG2.out)
     case measure => omega
    ·obtain rfl : t = ni := by omega
     have hjn : ¬ ((t : Int) < (t : Int)) := by omega
     have hIt : I.take t = I := List.take_of_length_le (by rw [HNI.out]; omega)
     have HCT3 := Lib.hid (by have := HCT2.out; rwa [hIt, ← HST.out] at this : Fa.Cts wr (B + 1) B (Fa.all k (S.take (j + 1))).length (Fa.all k (S.take (j + 1))))
     have HLN : Hid ((Fa.all k (S.take (j + 1))).length ≤ (j + 1) * 20) := Lib.hid (by rw [HST.out, List.length_append, HNI.out]; have := HLEN.out; omega)
     clear hIt
     go_wp2_with fail
     rw [← ha7]
     go_roundg (ns - (j + 1))
     case rel => exact ⟨j + 1, by omega, rfl, by go_num, HCT3.out, (HGRV.out.trans (World.grownBy.but ⟨HB6.out.os, HB6.out.tape, HB6.out.output, HB6.out.size, fun k hk _ => HB6.out.block k hk⟩ _)).trans HGR2.out, HLN.out⟩
     case measure => omega
  ·obtain rfl : j = ns := by omega
   have hjn : ¬ ((j : Int) < (j : Int)) := by omega
   have hSt : S.take j = S := List.take_of_length_le (by rw [HNS.out]; omega)
   obtain ⟨L, hL⟩ : ∃ L, Fa.all k S = L := ⟨_, rfl⟩
   have HCTL : Hid (Fa.Cts V0 (B + 1) B L.length L) := Lib.hid (by have := HCTV.out; rwa [hSt, hL] at this)
   have HLL : Hid (L.length ≤ 20000) := Lib.hid (by have := HLEN.out; rw [hSt, hL] at this; omega)
   have HFITL : Hid (∀ y ∈ L, Fa.FitIt y) := Lib.hid (fun y hy => by
    rw [← hL] at hy
    obtain ⟨p, hp, hy⟩ := List.mem_flatMap.1 hy
    exact Fa.its_fit (HGD.out p hp).1 (HGD.out p hp).2 y hy)
   have HOKL : Hid (∀ y ∈ L, Fa.Ok (decide (k = 1)) y) := Lib.hid (fun y hy => by
    rw [← hL] at hy
    obtain ⟨p, hp, hy⟩ := List.mem_flatMap.1 hy
    exact Fa.its_ok (HGD.out p hp).1 y hy)
   have HLS := Lib.hid hL
   clear HCTV HLEN HSV HGRV hSt hL hlt hj
   obtain ⟨D, hown, hcnt⟩ := HCTL.out.map
   have hsB := HCTL.out.lt
   have HCNT := Lib.hid hcnt
   clear hcnt
   go_wp2_with (at_range; refine wpList_range_own _ rfl _ 78 rfl 89 3 ctKeyed Tryz.underlying78 _ B L.length D rfl hown ?_; intro w0 hrg0 hg0 hs0)
   have hInvK : ∀ key l, keyOf Tryz.prog 89 key = some l → ∃ x : Fa.It, key = Fa.kv x := fun key l h => by
    obtain ⟨x, e, _⟩ := ctInv h; exact ⟨x, e⟩
   have hInvV : ∀ (v : Value) (y : DataW Unit × List MemPlace), plainElem Tryz.prog 3 v = some y → ∃ c : Int, v = Value.int .i64 c := fun v y h => by
    obtain ⟨c, e, _⟩ := plainElem_int_inv Tryz.underlying3 h; exact ⟨c, e⟩
   go_loopg [15] (Maps.size D) (fun gk v wr => ∃ (left : Lit → Bool) (K : List Fa.It), wr.ranges Tryz.prog 89 (plainElem Tryz.prog 3) B V0.heap.size L.length D left gk ∧ K.Nodup ∧ (∀ x ∈ K, x ∈ L) ∧ (∀ l, left l = true ↔ Maps.has D l = true ∧ ∀ x ∈ K, Fa.kl x ≠ l) ∧ wr.ownsRow w0.heap.size 89 2 v K.length (Fa.itE.flat K) ∧ Below V0.heap.size V0 wr ∧ w0.heap.size ≤ wr.heap.size ∧ (K = [] → v = .slice none 0 0))
   case atStart => exact ⟨_, [], hrg0, List.nodup_nil, fun x h => by (cases h), fun l => by simp, World.ownsRow_nil _ _ _ _, ⟨hg0.os, hg0.tape, hg0.output, hg0.size, fun b hb => hg0.block b hb (by simp)⟩, Nat.le_refl _, fun _ => rfl⟩
   case round =>
    obtain ⟨left, K, hrg, hnd, hKL, hleft, hownK, hBr, hszr, hnil⟩ := hrel
    have HND := Lib.hid hnd; have HKL := Lib.hid hKL; have HLF := Lib.hid hleft; have HOK := Lib.hid hownK; have HNIL := Lib.hid hnil
    have hKlen : K.length ≤ L.length := List.Nodup.length_le_of_subset hnd (fun x hx => hKL x hx)
    have HKN := Lib.hid hKlen
    clear hnd hKL hleft hownK hKlen hnil
    go_wp2_with (at_next; refine wpList_next_ranges _ rfl _ rfl 89 ctKeyed (plainElem Tryz.prog 3) Fa.kv (Value.int .i64) hInvK hInvV B V0.heap.size L.length D left gk rfl hrg ?_ ?_)
    ·intro hc0 hl0
     have HALL : Hid (∀ x, x ∈ K ↔ x ∈ L) := Lib.hid (fun x => ⟨HKL.out x, fun hx => by
      have hf := HFITL.out x hx
      have h1 := (HCNT.out.has x hf).2 hx
      refine Classical.byContradiction fun hn => ?_
      have h2 : left (Fa.kl x) = true := (HLF.out _).2 ⟨h1, fun y hy e => hn (by rw [← Fa.kl_inj (HFITL.out y (HKL.out y hy)) hf e]; exact hy)⟩
      rw [hl0] at h2
      cases h2⟩)
     obtain ⟨av, cv, hvo, hnone⟩ : ∃ av cv, u15 = .slice av K.length cv ∧ (K.length = 0 → av = none) ∧ RowE Fa.itE wr av K := by
      obtain ⟨p, q, e, _, _, h⟩ := RowE.of_own (E := Fa.itE) (OwnV.of_own HOK.out) rfl
      refine ⟨p, q, e, fun h0 => ?_, h⟩
      have := HNIL.out (List.eq_nil_of_length_eq_zero h0)
      rw [e] at this
      injection this
     have hCTr := HCTL.out.keep hBr
     have HSO := Lib.hid (sortedCt_is L K (B + 1) B L.length av cv (by have := HKN.out; have := HLL.out; omega) (fun p hp => HFITL.out p (HKL.out p hp)) HND.out wr hCTr hnone.2 hnone.1)
     rw [hvo]
     clear hrg hl0 hvo hnone hCTr HOK HNIL HLF hInvK hInvV hrg0 hg0
     go_wp2_with (go_at_call 42; (with_reducible refine HSO.out.mono ?_); rintro e w71 ⟨am, M, rfl, hpm, hsm, hrm, hBm⟩)
     have HPM := Lib.hid hpm; have HSM := Lib.hid hsm; have HRM := Lib.hid hrm
     have HBm := Lib.hid (below_up hBr hBm)
     have HCTm := Lib.hid (HCTL.out.keep HBm.out)
     have HVw := HB8w
     obtain ⟨m, hm⟩ : ∃ m, K.length = m := ⟨_, rfl⟩
     have HML : Hid (M.length = m) := Lib.hid (by rw [hpm.length_eq]; exact hm)
     have hm2 : m ≤ 20000 := by have := HKN.out; have := HLL.out; omega
     have HMEM : Hid (∀ z, z ∈ M → z ∈ L) := Lib.hid (fun z hz => HKL.out z (HPM.out.mem_iff.1 hz))
     obtain ⟨i0, hi0, hy0, hy1, hy2⟩ := info_parts infoFc
     have HI0 := Lib.hid hi0; have HI1 := Lib.hid hy0; have HI2 := Lib.hid hy1; have HI3 := Lib.hid hy2
     obtain ⟨F, hF⟩ : ∃ F : Fa.It → Fa.Fc, F = fun z => (Fa.nm (decide (k = 1)) z, Fa.cn z L) := ⟨_, rfl⟩
     have HF := Lib.hid hF
     have hszw : w.heap.size ≤ V0.heap.size := HBV.out.size
     rw [hm]
     clear hpm hsm hrm hBr hBm hi0 hy0 hy1 hy2 hF hm hszr
     go_loopg [17, 74] m (fun gk v i wr => ∃ t : Nat, t ≤ m ∧ gk = m - t ∧ i = .int .i64 t ∧ wr.ownsRow w71.heap.size 51 2 v t (Fa.fcE.flat ((M.take t).map F)) ∧ Below w71.heap.size w71 wr)
     case atStart => exact ⟨0, by omega, rfl, rfl, World.ownsRow_nil _ _ _ _, Below.refl _ _⟩
     case round =>
      obtain ⟨t, ht, rfl, rfl, hown4, hB4r⟩ := hrel
      have HOWN := Lib.hid hown4
      have hsz4 := hB4r.size
      by_cases hlt : t < m
      ·obtain ⟨z, hz⟩ : ∃ z, M[t]? = some z := ⟨_, List.getElem?_eq_getElem (by rw [HML.out]; exact hlt)⟩
       have hzL := HMEM.out z (List.mem_of_getElem? hz)
       have hzf := HFITL.out z hzL
       have hzo := HOKL.out z hzL
       have HTK : Hid ((M.take (t + 1)).map F = (M.take t).map F ++ [F z]) := Lib.hid (by rw [List.take_add_one, hz]; simp)
       obtain ⟨b6, o6, ha6, hb6, hcell⟩ := (HRM.out.keep hB4r) (by rw [HML.out]; omega)
       have c0 : wr.cell? ⟨b6, o6 + t * 2, none⟩ = some (.int .i64 z.1) := hcell t z hz 0 (.int .i64 z.1) rfl
       have c1 : wr.cell? ⟨b6, o6 + t * 2 + 1, none⟩ = some (.string z.2) := hcell t z hz 1 (.string z.2) rfl
       obtain ⟨Wz, hWz, hZ, hzz, hBz⟩ := box wr #[.int .i64 z.1, .string z.2] 89
       have HWz := Lib.hid hWz
       have HZB := Lib.hid hZ
       have hBz4 := below_up hB4r hBz
       have hszz := hBz4.size
       have HCTz := Lib.hid (HCTm.out.keep hBz4)
       have HBzw := Lib.hid (below_up HBV.out (below_up HBm.out hBz4))
       have HOWNz := Lib.hid (own_keepH hown4 hBz)
       have hcle := Fa.cn_le z L
       have hFz : F z = (Fa.nm (decide (k = 1)) z, Fa.cn z L) := by rw [HF.out]
       obtain ⟨z0, z1⟩ := hZ.two
       have ht1 : (t : Int) < (m : Int) := by omega
       clear hown4 hcell hz hWz hZ hzz
       by_cases hk1 : k = 1
       ·subst hk1
        rw [decide_eq_true rfl] at hFz hzo
        have HFZ : Hid (F z = (z.2, Fa.cn z L)) := Lib.hid hFz
        obtain ⟨p1, p2⟩ := z
        have q0 := HCTz.out.cell
        have hlk := HCTz.out.look hzf
        obtain ⟨cc, hcc⟩ : ∃ cc : Nat, Fa.cn (p1, p2) L = cc := ⟨_, rfl⟩
        rw [hcc] at hlk HFZ
        clear hcc hcle hFz hzo
        rw [ha6]
        go_upto_region 29 with fail
        rw [HWz.out]
        go_wp2_with (at_builtin; refine wpList_append_own2 _ rfl _ _ 43 rfl w71.heap.size 51 i0 (.agg #[.string ByteArray.empty, .int .i64 0]) 2 24 Tryz.underlying43 HI0.out HI1.out HI2.out HI3.out rfl (by decide) _ _ _ rfl (HOWNz.out.alloc _) ⟨Wz.heap.size, 0, none⟩ 1 1 (Fa.fcE.cells (p2, cc)) rfl (by decide) rfl (cell_ct_new _ _ _ _) (Fa.fcE.one _) (by unfold maxLen; omega) (by omega) (by simp; omega) ?_; intro g8 cap8 w8' hown8 hgrow8 hnew8)
        have HOWN8 := Lib.hid hown8
        have HB8' := Lib.hid ((below_allocs hBz4 (.cells (Fa.fcE.cells (p2, cc)).toArray 51)).grown hgrow8 (by simp; omega) (fun k e => (HOWNz.out.lt k e).1))
        clear hown8 hgrow8 hnew8
        rw [← ha6]
        go_roundg (m - (t + 1))
        case rel => exact ⟨t + 1, by omega, rfl, by go_num, by rw [HTK.out, HFZ.out, Fa.fcE.flat_snoc]; exact HOWN8.out, HB8'.out⟩
        case measure => omega
       ·have hk1' : (k != 1) = true := by simpa using hk1
        rw [decide_eq_false hk1] at hFz hzo
        have hz0n : 0 ≤ z.1 := hzo.2
        have HFZ : Hid (F z = (Tx.mk (Lib.decDigits z.1.toNat), Fa.cn z L)) := Lib.hid hFz
        have hwf1 : z.1 ≤ 9223372036854775807 := by
         have := hzf.1
         simp [Lit.wf, IntKind.min, IntKind.max, IntKind.signed, IntKind.bits] at this
         omega
        have HIT := Lib.hid (itoa_any z.1 (by omega) hwf1 Wz (HTB.out Wz HBzw.out))
        obtain ⟨p1, p2⟩ := z
        have q0 := HCTz.out.cell
        obtain ⟨s0, hs0⟩ : ∃ s0, Tx.mk (Lib.decDigits (Int.toNat p1)) = s0 := ⟨_, rfl⟩
        have hit : (⟨(Lib.itoa p1).toArray⟩ : ByteArray) = s0 := by
         rw [← hs0]
         have e : Lib.itoa p1 = Lib.decDigits p1.toNat := by
          have := Lib.itoa_nonneg p1.toNat
          rwa [Int.toNat_of_nonneg hz0n] at this
         rw [e]
        have HFZ : Hid (F (p1, p2) = (s0, Fa.cn (p1, p2) L)) := Lib.hid (by rw [← hs0]; exact HFZ.out)
        have HIT2 : Hid (Calls Tryz.prog 28 #[.int .i64 p1] Wz fun e w' => e = .returned (.string s0) ∧ ∃ kk os, w' = grow (Wz.drewN kk) os) := Lib.hid (by have := HIT.out; rw [hit] at this; exact this)
        obtain ⟨cc, hcc⟩ : ∃ cc : Nat, Fa.cn (p1, p2) L = cc := ⟨_, rfl⟩
        have HLK := Lib.hid (fun W (hb : Below Wz.heap.size Wz W) => (HCTz.out.keep hb).look hzf)
        rw [hcc] at HLK HFZ
        clear hcc hcle hFz hzo hit hs0 hwf1 HIT
        rw [ha6]
        go_upto_region 29 with fail
        rw [HWz.out]
        go_wp2_with (first
         | (go_at_call 28; (with_reducible refine HIT2.out.mono ?_); rintro e w84 ⟨rfl, kk, os, hw84⟩; have hB84 : Below Wz.heap.size Wz w84 := by { rw [hw84]; exact grow_below Wz kk os }; have q0 := (HCTz.out.keep hB84).cell; obtain ⟨z0, z1⟩ := (HZB.out.keep hB84).two; have hlk := HLK.out w84 hB84; have HOWN84 := Lib.hid (own_keepH HOWNz.out hB84); have hBz84 := below_up hBz4 hB84; have hsz84 := hBz84.size; clear hw84)
         | (at_builtin; refine wpList_append_own2 _ rfl _ _ 43 rfl w71.heap.size 51 i0 (.agg #[.string ByteArray.empty, .int .i64 0]) 2 24 Tryz.underlying43 HI0.out HI1.out HI2.out HI3.out rfl (by decide) _ _ _ rfl (HOWN84.out.alloc _) ⟨w84.heap.size, 0, none⟩ 1 1 (Fa.fcE.cells (s0, cc)) rfl (by decide) rfl (cell_ct_new _ _ _ _) (Fa.fcE.one _) (by unfold maxLen; omega) (by omega) (by simp; omega) ?_; intro g8 cap8 w8' hown8 hgrow8 hnew8))
        have HOWN8 := Lib.hid hown8
        have HB8' := Lib.hid ((below_allocs hBz84 (.cells (Fa.fcE.cells (s0, cc)).toArray 51)).grown hgrow8 (by simp; omega) (fun k e => (HOWN84.out.lt k e).1))
        clear hown8 hgrow8 hnew8
        rw [← ha6]
        go_roundg (m - (t + 1))
        case rel => exact ⟨t + 1, by omega, rfl, by go_num, by rw [HTK.out, HFZ.out, Fa.fcE.flat_snoc]; exact HOWN8.out, HB8'.out⟩
        case measure => omega
      ·obtain rfl : t = m := by omega
       have hjn : ¬ ((t : Int) < (t : Int)) := by omega
       have hMt : M.take t = M := List.take_of_length_le (by rw [HML.out]; omega)
       obtain ⟨ao, co, hvo, h1, h2, hrow⟩ : ∃ ao co, u17 = .slice ao t co ∧ t ≤ co ∧ co ≤ 9223372036854775807 ∧ RowE Fa.fcE wr ao (M.map F) := by
        have h0 : wr.ownsRow w71.heap.size 51 Fa.fcE.k u17 t (Fa.fcE.flat (M.map F)) := by have := hown4; rwa [hMt] at this
        have hl : (M.map F).length = t := by rw [List.length_map]; exact HML.out
        obtain ⟨p, q, e, e1, e2, h⟩ := RowE.of_own (E := Fa.fcE) (OwnV.of_own h0) hl.symm
        rw [hl] at e e1
        exact ⟨p, q, e, e1, e2, h⟩
       have HROW := Lib.hid hrow
       have HBE := Lib.hid (below_up HBV.out (below_up HBm.out hB4r))
       rw [hvo]
       clear hown4 HOWN hvo hrow hMt
       go_wp2_with (go_at_call 47; (with_reducible refine (clipFc_is _ _ _ _ h1 h2).mono ?_); rintro e w' ⟨rfl, rfl⟩)
       go_ret2
       exact ⟨ao, t, M, by rw [HML.out]; rfl, fun z => by rw [HLS.out, HPM.out.mem_iff]; exact HALL.out z, by rw [HLS.out]; exact HSM.out, by rw [HLS.out]; have := HROW.out; rwa [HF.out] at this, HBE.out⟩
    ·intro z1 z2 cz kz dz pz w1 cnt' hkey hlk hpv hatk hrg' hcl hg1 hs1 hen
     obtain ⟨zz, hze, hzf, hkz⟩ := ctInv hkey
     obtain rfl : zz = (z1, z2) := by
      unfold Fa.kv at hze
      simp at hze
      exact Prod.ext hze.1.symm hze.2.symm
     subst hkz
     obtain ⟨hhas, hnew⟩ := (HLF.out _).1 hlk
     have hzL : (z1, z2) ∈ L := (HCNT.out.has _ hzf).1 hhas
     have hzK : (z1, z2) ∉ K := fun h => hnew _ h rfl
     have HND' : Hid ((K ++ [(z1, z2)]).Nodup) := Lib.hid (by
      rw [List.nodup_append]
      exact ⟨HND.out, by simp, fun p hp q hq => by rw [List.mem_singleton] at hq; subst hq; exact fun e => hzK (e ▸ hp)⟩)
     have HKL' : Hid (∀ x ∈ K ++ [(z1, z2)], x ∈ L) := Lib.hid (fun x hx => by
      rcases List.mem_append.1 hx with h | h
      ·exact HKL.out x h
      ·rw [List.mem_singleton] at h; subst h; exact hzL)
     have HLF' : Hid (∀ l, (left l && !l.sameKey (Fa.kl (z1, z2))) = true ↔ Maps.has D l = true ∧ ∀ x ∈ K ++ [(z1, z2)], Fa.kl x ≠ l) := Lib.hid (fun l => by
      rw [Bool.and_eq_true, HLF.out l]
      constructor
      ·rintro ⟨⟨h1, h2⟩, h3⟩
       refine ⟨h1, fun x hx => ?_⟩
       rcases List.mem_append.1 hx with h | h
       ·exact h2 x h
       ·rw [List.mem_singleton] at h; subst h
        intro e
        rw [← e, WideAt.sameKey_self (show WideAt.IsKeyLit (Fa.kl (z1, z2)) from trivial)] at h3
        cases h3
      ·rintro ⟨h1, h2⟩
       refine ⟨⟨h1, fun x hx => h2 x (List.mem_append_left _ hx)⟩, ?_⟩
       cases hsk : l.sameKey (Fa.kl (z1, z2))
       ·rfl
       ·exact absurd (WideAt.sameKey_eq hsk).symm (h2 _ (by simp)))
     have hsr : V0.heap.size < w0.heap.size := by omega
     have HOK1 := Lib.hid (HOK.out.kept hg1 (by
      cases hv : u15.ownBlock with
      | none => exact .inl rfl
      | some b => exact .inr (by have := (HOK.out.lt b hv).1; simp; omega)))
     have hBr1 : Below V0.heap.size V0 w1 := Fa.below_grown hBr hg1 (Nat.le_refl _)
     obtain ⟨Wz, hWz, hZ, hzz, hBz⟩ := box w1 #[.int .i64 z1, .string z2] 89
     have HWz := Lib.hid hWz
     have HOKz := Lib.hid (own_keepH HOK1.out hBz)
     have hBrz := below_up hBr1 hBz
     have HRGz := Lib.hid (hrg'.kept (row := none) ⟨hBz.os, hBz.tape, hBz.output, hBz.size, fun k hk _ => hBz.block k hk⟩ (by simp) (by simp))
     have hszz : w0.heap.size ≤ Wz.heap.size := by have := hBz.size; omega
     have hrlt : V0.heap.size < Wz.heap.size := by omega
     obtain ⟨z0, z1'⟩ := hZ.two
     have hen' : (Instr.entry (.pointer (some ⟨V0.heap.size, 0, none⟩))).run Tryz.prog w1 = .ok (.tuple #[.agg #[.int .i64 z1, .string z2], .int .i64 cz]) w1 := hen
     obtain ⟨i0, hi0, hy0, hy1, hy2⟩ := info_parts infoCt
     have HI0 := Lib.hid hi0; have HI1 := Lib.hid hy0; have HI2 := Lib.hid hy1; have HI3 := Lib.hid hy2
     obtain ⟨kn, hkn⟩ : ∃ kn, K.length = kn := ⟨_, rfl⟩
     have hkn2 : kn ≤ 20000 := by have := HKN.out; have := HLL.out; omega
     have HKNE := Lib.hid hkn
     rw [hkn] at HOKz
     clear hkey hlk hpv hatk hrg hrg' hen hze hhas hnew hzK hWz hzz hs1 hi0 hy0 hy1 hy2 hkn hInvK hInvV
     go_upto_region 23 with fail
     rw [HWz.out]
     go_wp2_with (at_builtin; refine wpList_append_own2 _ rfl _ _ 86 rfl w0.heap.size 89 i0 (.agg #[.int .i64 0, .string ByteArray.empty]) 2 24 Tryz.underlying86 HI0.out HI1.out HI2.out HI3.out rfl (by decide) _ _ _ rfl (HOKz.out.alloc _) ⟨Wz.heap.size, 0, none⟩ 1 1 (Fa.itE.cells (z1, z2)) rfl (by decide) rfl (cell_ct_new _ _ _ _) (Fa.itE.one _) (by unfold maxLen; omega) (by omega) (by simp; omega) ?_; intro g8 cap8 w8' hown8 hgrow8 hnew8)
     have HOWN8 := Lib.hid hown8
     have hown := u15.ownBlock
     have HRG8 := Lib.hid ((HRGz.out.alloc (.cells #[.int .i64 z1, .string z2] 89)).kept hgrow8 (fun e => by have := (HOKz.out.lt B e.symm).1; omega) (fun e => by have := (HOKz.out.lt _ e.symm).1; omega))
     have HB8' := Lib.hid ((below_allocs hBrz (.cells #[.int .i64 z1, .string z2] 89)).grown hgrow8 (by simp; omega) (fun k e => by have := (HOKz.out.lt k e).1; omega))
     have HSZ8 : Hid (w0.heap.size ≤ w8'.heap.size) := Lib.hid (by have := hgrow8.size; simp at this; omega)
     clear hown8 hgrow8 hnew8
     go_roundg cnt'
     case rel => exact ⟨_, K ++ [(z1, z2)], HRG8.out, HND'.out, HKL'.out, HLF'.out, by rw [List.length_append, HKNE.out, Fa.itE.flat_snoc]; exact HOWN8.out, HB8'.out, HSZ8.out, fun e => absurd e (by simp)⟩
     case measure => exact hcl
end Go.Proofs.YtimjmjmpaicdbaaGreatDoor

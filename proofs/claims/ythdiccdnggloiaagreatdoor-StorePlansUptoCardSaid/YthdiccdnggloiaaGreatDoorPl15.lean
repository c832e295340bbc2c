/- Parts of the proof, no condition: Stp. -/
import Derived.Test.YthdiccdnggloiaaGreatDoorPl2
import Derived.Test.YthdiccdnggloiaaGreatDoorPl1
import Derived.Sort.Walk0
import Derived.Maps.RangeWalk
set_option maxRecDepth 100000
set_option maxHeartbeats 8000000
set_option linter.unusedSimpArgs false
set_option linter.unusedVariables false
namespace Go.Proofs.YthdiccdnggloiaaGreatDoor
open Go.RowKit Go.Sort

theorem stCp_swapRange {α : Type} (E : Enc α) (hE : E.k = 4) (B g cap n : Nat) (A X Y Z R : List α) (m : Nat) (hX : X.length = m) (hZ : Z.length = m) (w : World) (h : SRow E w B 74 g cap n (A ++ (X ++ (Y ++ (Z ++ R))))) (hn : n ≤ 1000000) (a b : Nat) (ha : a = A.length) (hb : b = A.length + m + Y.length) (fv : Value) :
  Calls Tryz.prog 246 #[.slice (some ⟨g, 0, none⟩) n cap, .int .i64 a, .int .i64 b, .int .i64 m, fv] w fun e w' => e = .returned (.tuple #[]) ∧ SRow E w' B 74 g cap n (A ++ (Z ++ (Y ++ (X ++ R)))) ∧ w.grownBy w' (some g) := by
 have hl := h.len
 have hsz : (Tryz.prog.info? 74).map (·.size) = some E.k := by rw [hE]; kernel_rfl
 simp only [List.length_append] at hl
 have ha2 : a + m ≤ n := by omega
 have hb2 : b + m ≤ n := by omega
 have HX := Lib.hid hX; have HZ := Lib.hid hZ; have HA := Lib.hid ha; have HBB := Lib.hid (show b = a + m + Y.length by omega)
 have H0 : Hid (SRow E w B 74 g cap n (Stb.xch A X Y Z R 0)) := Lib.hid (by rw [Stb.xch_0]; exact h)
 have HALL := Lib.hid (Stb.xch_all (A := A) (Y := Y) (B := R) hX hZ)
 clear h hl ha hb
 go_enter Tryz.func246, Tryz.ntmps246
 go_wp2_with fail
 go_loopg [10] m (fun gk i wr => ∃ j : Nat, j ≤ m ∧ gk = m - j ∧ i = .int .i64 j ∧ SRow E wr B 74 g cap n (Stb.xch A X Y Z R j) ∧ w.grownBy wr (some g))
 case atStart => exact ⟨0, by omega, rfl, rfl, H0.out, World.grownBy.refl _ _⟩
 case round =>
  obtain ⟨j, hj, rfl, rfl, hS, hG⟩ := hrel
  have HS := Lib.hid hS; have HG := Lib.hid hG
  clear hG
  by_cases hlt : j < m
  ·obtain ⟨x, hx⟩ : ∃ x, X[j]? = some x := ⟨_, List.getElem?_eq_getElem (by omega)⟩
   obtain ⟨z, hz⟩ : ∃ z, Z[j]? = some z := ⟨_, List.getElem?_eq_getElem (by omega)⟩
   obtain ⟨p1, p2, p3⟩ := Stb.xch_at (A := A) (Y := Y) (B := R) hX hZ hlt hx hz
   rw [← HA.out] at p1 p2 p3
   rw [← HBB.out] at p2 p3
   have hSd := hS.drew
   have l1 := hSd.range p2
   have l2 := hSd.range p1
   obtain ⟨w1, s1, hS1, hG1⟩ := hSd.store (P := Tryz.prog) (p := a + j) (by omega) z hsz
   obtain ⟨w2, s2, hS2, hG2⟩ := hS1.store (P := Tryz.prog) (p := b + j) (by omega) x hsz
   rw [p3] at hS2
   have HS2 := Lib.hid hS2
   have HG2 := Lib.hid (hG1.trans hG2)
   unfold Enc.val at s1 s2
   have hlcx := E.len x; have hlcz := E.len z
   rw [hE] at l1 l2 s1 s2 hlcx hlcz
   generalize E.cells x = cx at *
   generalize E.cells z = cz at *
   clear hS hSd hS1 hS2 hG1 hG2 p1 p2 p3 hx hz hsz
   have hlt1 : (j : Int) < (m : Int) := by omega
   have e1 : IntKind.i64.wrap ((a : Int) + (j : Int)) = (a : Int) + (j : Int) := by rw [IntKind.wrap_i64]; omega
   have e2 : IntKind.i64.wrap ((b : Int) + (j : Int)) = (b : Int) + (j : Int) := by rw [IntKind.wrap_i64]; omega
   have ia0 : (0 : Int) ≤ (a : Int) + (j : Int) := by omega
   have ia1 : (a : Int) + (j : Int) < (n : Int) := by omega
   have ia2 : ((a : Int) + (j : Int)).toNat = a + j := by omega
   have ib0 : (0 : Int) ≤ (b : Int) + (j : Int) := by omega
   have ib1 : (b : Int) + (j : Int) < (n : Int) := by omega
   have ib2 : ((b : Int) + (j : Int)).toNat = b + j := by omega
   have HC0 : wr.drew.rangeAt g ((b + j) * 4) cz ∧ wr.drew.rangeAt g ((a + j) * 4) cx := ⟨l1, l2⟩
   go_wp2_with fail
   refine wp_region_until (fun W => W.rangeAt g ((b + j) * 4) cz ∧ W.rangeAt g ((a + j) * 4) cx) 21 (by kernel_rfl) ?_
   refine stq 0 16 ?_ HC0 ?_ ?_
   rotate_left
   ·(intro W _; go_simp; try (with_reducible rfl))
   go_frame
   refine stq 1 17 ?_ HC0 ?_ ?_
   rotate_left
   ·(intro W _; go_simp; try (with_reducible rfl))
   go_frame
   refine stq 2 18 ?_ HC0 ?_ ?_
   rotate_left
   ·(intro W _; go_simp; try (with_reducible rfl))
   go_frame
   refine stq 3 19 ?_ HC0 ?_ ?_
   rotate_left
   ·(intro W _; go_simp; try (with_reducible rfl))
   go_frame
   refine stq 4 20 ?_ HC0 ?_ ?_
   rotate_left
   ·(intro W _; go_simp; try (with_reducible rfl))
   go_frame
   refine stq 5 21 ?_ HC0 ?_ ?_
   rotate_left
   ·(intro W _; go_simp; try (with_reducible rfl))
   go_frame
   refine stq 6 22 ?_ HC0 ?_ ?_
   rotate_left
   ·(intro W _; go_simp; try (with_reducible rfl))
   go_frame
   refine stq 7 23 ?_ HC0 ?_ ?_
   rotate_left
   ·(intro W _; go_simp; try (with_reducible rfl))
   go_frame
   refine stq 8 24 ?_ HC0 ?_ ?_
   rotate_left
   ·(intro W _; go_simp; try (with_reducible rfl))
   go_frame
   refine stq 9 25 ?_ HC0 ?_ ?_
   rotate_left
   ·(intro W _; go_simp; try (with_reducible rfl))
   go_frame
   refine stq 10 26 ?_ HC0 ?_ ?_
   rotate_left
   ·(intro W _; go_simp; try (with_reducible rfl))
   go_frame
   refine stq 11 27 ?_ HC0 ?_ ?_
   rotate_left
   ·(intro W _; go_simp; try (with_reducible rfl))
   go_frame
   refine stq 12 28 (.pointer (some ⟨g, (b + j) * 4, none⟩)) HC0 ?_ ?_
   ·(intro W _; go_simp; try (with_reducible rfl))
   go_frame
   refine stm 13 29 (.agg (List.toArray cz)) HC0 ?_ ?_
   ·refine yieldsIf_load_mid ?_ _ _ rfl g ((b + j) * 4) ?_ cz _ ?_ Tryz.underlying74 ?_ ?_
    ·kernel_rfl
    ·kernel_rfl
    ·(intro W hSw; exact hSw.1)
    ·rfl
    ·(rw [hlcz]; kernel_rfl)
   go_frame
   refine stq 14 30 ?_ HC0 ?_ ?_
   rotate_left
   ·(intro W _; go_simp; try (with_reducible rfl))
   go_frame
   refine stq 15 31 ?_ HC0 ?_ ?_
   rotate_left
   ·(intro W _; go_simp; try (with_reducible rfl))
   go_frame
   refine stq 16 32 ?_ HC0 ?_ ?_
   rotate_left
   ·(intro W _; go_simp; try (with_reducible rfl))
   go_frame
   refine stq 17 33 ?_ HC0 ?_ ?_
   rotate_left
   ·(intro W _; go_simp; try (with_reducible rfl))
   go_frame
   refine stq 18 34 (.pointer (some ⟨g, (a + j) * 4, none⟩)) HC0 ?_ ?_
   ·(intro W _; go_simp; try (with_reducible rfl))
   go_frame
   refine stm 19 35 (.agg (List.toArray cx)) HC0 ?_ ?_
   ·refine yieldsIf_load_mid ?_ _ _ rfl g ((a + j) * 4) ?_ cx _ ?_ Tryz.underlying74 ?_ ?_
    ·kernel_rfl
    ·kernel_rfl
    ·(intro W hSw; exact hSw.2)
    ·rfl
    ·(rw [hlcx]; kernel_rfl)
   go_frame
   refine stq 20 36 (.pointer (some ⟨g, (a + j) * 4, none⟩)) HC0 ?_ ?_
   ·(intro W _; go_simp; try (with_reducible rfl))
   go_frame
   refine stst 21 74 (.tmp 36) (.tmp 29) (.pointer (some ⟨g, (a + j) * 4, none⟩)) (.agg (List.toArray cz)) s1 ?_
   simp only [Act.put]
   refine stx 22 37 (.pointer (some ⟨g, (b + j) * 4, none⟩)) ?_ ?_
   ·(go_simp; try (with_reducible rfl))
   go_frame
   refine stst 23 74 (.tmp 37) (.tmp 35) (.pointer (some ⟨g, (b + j) * 4, none⟩)) (.agg (List.toArray cx)) s2 ?_
   simp only [Act.put]
   refine anyM_done (by kernel_rfl) ?_ _
   go_wp2_with fail
   go_roundg (m - (j + 1))
   case rel => exact ⟨j + 1, by omega, rfl, by go_num, HS2.out, grown_dn HG.out HG2.out⟩
   case measure => omega
  ·obtain rfl : j = m := by omega
   go_wp2_with fail
   go_end0
   exact ⟨rfl, by rw [← HALL.out]; exact hS, HG.out⟩
theorem stCp_rotate {α : Type} (E : Enc α) (hE : E.k = 4) (B g cap n : Nat) (A U V R : List α) (w : World) (h : SRow E w B 74 g cap n (A ++ (U ++ (V ++ R)))) (hn : n ≤ 1000000) (a m b : Nat) (ha : a = A.length) (hm : m = a + U.length) (hb : b = m + V.length) (hU : 0 < U.length) (hV : 0 < V.length) (fv : Value) :
  Calls Tryz.prog 239 #[.slice (some ⟨g, 0, none⟩) n cap, .int .i64 a, .int .i64 m, .int .i64 b, fv] w fun e w' => e = .returned (.tuple #[]) ∧ SRow E w' B 74 g cap n (A ++ (V ++ (U ++ R))) ∧ w.grownBy w' (some g) := by
 have hl := h.len
 simp only [List.length_append] at hl
 have HSW := Lib.hid (fun (A X Y Z R : List α) (m : Nat) (hX : X.length = m) (hZ : Z.length = m) (w : World) (h : SRow E w B 74 g cap n (A ++ (X ++ (Y ++ (Z ++ R))))) (a b : Nat) (ha : a = A.length) (hb : b = A.length + m + Y.length) => stCp_swapRange E hE B g cap n A X Y Z R m hX hZ w h hn a b ha hb fv)
 have H0 := Lib.hid h
 have HA := Lib.hid ha
 obtain ⟨ul, hul⟩ : ∃ ul, U.length = ul := ⟨_, rfl⟩
 obtain ⟨vl, hvl⟩ : ∃ vl, V.length = vl := ⟨_, rfl⟩
 rw [hul] at hm hU hl
 rw [hvl] at hb hV hl
 have HUL := Lib.hid hul; have HVL := Lib.hid hvl
 have hm1 : m ≤ n := by omega
 have ha1 : a ≤ n := by omega
 have hb1 : b ≤ n := by omega
 have HM := Lib.hid hm; have HBE := Lib.hid hb
 have hun : ul ≤ n := by omega
 have hvn : vl ≤ n := by omega
 clear h ha hul hvl hl hm hb
 go_enter Tryz.func239, Tryz.ntmps239
 go_wp2_with fail
 go_loopg [10, 11] (ul + vl) (fun gk s10 s11 wr => ∃ (i j : Nat) (P U' V' Q : List α), s10 = .int .i64 i ∧ s11 = .int .i64 j ∧ gk = i + j ∧ 0 < i ∧ 0 < j ∧ i ≤ ul ∧ j ≤ vl ∧ U'.length = i ∧ V'.length = j ∧ (A ++ P).length + i = m ∧ SRow E wr B 74 g cap n ((A ++ P) ++ (U' ++ (V' ++ Q))) ∧ A ++ (V ++ (U ++ R)) = (A ++ P) ++ (V' ++ (U' ++ Q)) ∧ w.grownBy wr (some g))
 case atStart => exact ⟨ul, vl, [], U, V, R, by rw [show (m : Int) - (a : Int) = (ul : Int) by have := HM.out; omega], by rw [show (b : Int) - (m : Int) = (vl : Int) by have := HBE.out; omega], rfl, hU, hV, Nat.le_refl _, Nat.le_refl _, HUL.out, HVL.out, by rw [List.append_nil, ← HA.out]; exact HM.out.symm, by rw [List.append_nil]; exact H0.out, by rw [List.append_nil], World.grownBy.refl _ _⟩
 case round =>
  obtain ⟨i, j, P, U', V', Q, rfl, rfl, rfl, hi, hj, hiu, hjv, hUl, hVl, hAP, hS, hEQ, hG⟩ := hrel
  have HS := Lib.hid hS; have HG := Lib.hid hG; have HEQ := Lib.hid hEQ
  obtain ⟨A', hA'⟩ : ∃ A', A ++ P = A' := ⟨_, rfl⟩
  have HA' := Lib.hid hA'
  rw [hA'] at HS hAP HEQ
  have HUL' := Lib.hid hUl; have HVL' := Lib.hid hVl; have HAP := Lib.hid hAP
  clear hS hEQ hG hA' hUl hVl
  have ham : A'.length + i = m := HAP.out
  have b0 : (m : Int) - (i : Int) = (A'.length : Int) := by omega
  obtain ⟨al, hal⟩ : ∃ al, A'.length = al := ⟨_, rfl⟩
  rw [hal] at ham b0
  have HAL := Lib.hid hal; clear hal hAP
  have HAM := Lib.hid ham; clear ham
  by_cases he : i = j
  ·subst he
   have hc := HSW.out A' U' [] V' Q i HUL'.out HVL'.out wr HS.out al m HAL.out.symm (by rw [HAL.out]; simp; exact HAM.out.symm)
   have HC := Lib.hid hc; clear hc
   go_wp2_with (go_at_call 246; (with_reducible refine HC.out.mono ?_); rintro e w4 ⟨rfl, hS4, hG4⟩)
   go_end0
   exact ⟨rfl, by rw [HEQ.out]; exact hS4, HG.out.trans hG4⟩
  ·have he1 : ((i : Int) != (j : Int)) = true := by rw [bne_iff_ne]; omega
   have he2 : ¬ ((i : Int) = (j : Int)) := by omega
   by_cases hlt : j < i
   ·have hlt1 : (j : Int) < (i : Int) := by omega
    have hul : (U'.drop j).length = i - j := by rw [List.length_drop, HUL'.out]
    have htl : (U'.take j).length = j := by rw [List.length_take, HUL'.out]; omega
    have hc := HSW.out A' (U'.take j) (U'.drop j) V' Q j htl HVL'.out wr (by rw [← List.append_assoc (U'.take j), List.take_append_drop]; exact HS.out) al m HAL.out.symm (by have := HAM.out; rw [HAL.out, hul]; omega)
    have HC := Lib.hid hc; clear hc
    go_wp2_with (go_at_call 246; (with_reducible refine HC.out.mono ?_); rintro e w4 ⟨rfl, hS4, hG4⟩)
    have HS4 := Lib.hid hS4; have HG4 := Lib.hid (HG.out.trans hG4)
    clear hS4 hG4
    go_roundg (i - j + j)
    case rel =>
     refine ⟨i - j, j, P ++ V', U'.drop j, U'.take j, Q, by rw [show (i : Int) - (j : Int) = ((i - j : Nat) : Int) by omega], rfl, rfl, by omega, hj, by omega, hjv, hul, htl, ?_, ?_, ?_, HG4.out⟩
     ·have := HAM.out; rw [← List.append_assoc, HA'.out, List.length_append, HAL.out, HVL'.out]; omega
     ·rw [← List.append_assoc A P V', HA'.out, List.append_assoc]; exact HS4.out
     ·rw [HEQ.out, ← List.append_assoc A P V', HA'.out, List.append_assoc A' V', ← List.append_assoc (U'.take j), List.take_append_drop]
    case measure => omega
   ·have hlt1 : ¬ (j : Int) < (i : Int) := by omega
    have hdl : (V'.drop (j - i)).length = i := by rw [List.length_drop, HVL'.out]; omega
    have htl : (V'.take (j - i)).length = j - i := by rw [List.length_take, HVL'.out]; omega
    have b1 : (m : Int) + (j : Int) - (i : Int) = ((m + j - i : Nat) : Int) := by have := HAM.out; omega
    have hc := HSW.out A' U' (V'.take (j - i)) (V'.drop (j - i)) Q i HUL'.out hdl wr (by rw [← List.append_assoc (V'.take (j - i)), List.take_append_drop]; exact HS.out) al (m + j - i) HAL.out.symm (by have := HAM.out; rw [HAL.out, htl]; omega)
    have HC := Lib.hid hc; clear hc
    go_wp2_with (go_at_call 246; (with_reducible refine HC.out.mono ?_); rintro e w4 ⟨rfl, hS4, hG4⟩)
    have HS4 := Lib.hid hS4; have HG4 := Lib.hid (HG.out.trans hG4)
    clear hS4 hG4
    go_roundg (i + (j - i))
    case rel =>
     refine ⟨i, j - i, P, V'.drop (j - i), V'.take (j - i), U' ++ Q, rfl, by rw [show (j : Int) - (i : Int) = ((j - i : Nat) : Int) by omega], rfl, hi, by omega, hiu, by omega, hdl, htl, ?_, ?_, ?_, HG4.out⟩
     ·rw [HA'.out, HAL.out]; exact HAM.out
     ·rw [HA'.out]; exact HS4.out
     ·rw [HEQ.out, HA'.out, ← List.append_assoc (V'.take (j - i)), List.take_append_drop]
    case measure => omega

theorem stCp_insertion {α : Type} (E : Enc α) (hE : E.k = 4) {lt : α → α → Prop} {neg : α → α → Bool} (O : Stb.Ord lt) (c : FuncId) (lb : Array Value) (eg : ∀ args w, (callFunc c args).run Tryz.prog w = .ok (.enter c args) w) (dom : α → Prop) (w0 : World) (B g cap n : Nat) (HC : CmpOk E w0 g c lb dom neg)
  (A X R : List α) (w : World) (hw0 : w0.grownBy w (some g)) (h : SRow E w B 74 g cap n (A ++ (X ++ R))) (hn : n ≤ 1000000) (a b : Nat) (ha : a = A.length) (hb : b = a + X.length) (hX : X.Pairwise (Stb.Fit lt neg)) (hd : ∀ x, x ∈ X → dom x) :
  Calls Tryz.prog 221 #[.slice (some ⟨g, 0, none⟩) n cap, .int .i64 a, .int .i64 b, .func (.func c) #[] lb] w fun e w' => e = .returned (.tuple #[]) ∧ ∃ M, List.Perm M X ∧ M.Pairwise lt ∧ SRow E w' B 74 g cap n (A ++ (M ++ R)) ∧ w.grownBy w' (some g) := by
 have hl := h.len
 simp only [List.length_append] at hl
 have hsz : (Tryz.prog.info? 74).map (·.size) = some E.k := by rw [hE]; kernel_rfl
 have HSZ := Lib.hid hsz; have HEK := Lib.hid hE
 have HA := Lib.hid ha; have HBE := Lib.hid hb; have HXX := Lib.hid hX; have HD := Lib.hid hd; have HW0 := Lib.hid hw0; have HCC0 := Lib.hid HC; have H0 := Lib.hid h
 have hbn : b ≤ n := by omega
 have han : a ≤ n := by omega
 have hab : a ≤ b := by omega
 clear hl hsz ha hb hX hd hw0 h HC hE
 cases X with
 | nil =>
   have hbe : ¬ ((a : Int) + 1 < (b : Int)) := by have := HBE.out; simp at this; omega
   go_enter Tryz.func221, Tryz.ntmps221
   go_wp2_with fail
   go_loopg [8] 0 (fun gk s8 wr => s8 = .int .i64 ((a : Int) + 1) ∧ w = wr)
   case atStart => exact ⟨rfl, rfl⟩
   case round =>
    obtain ⟨rfl, rfl⟩ := hrel
    go_wp2_with fail
    go_end0
    exact ⟨rfl, [], List.Perm.refl _, List.Pairwise.nil, H0.out, World.grownBy.refl _ _⟩
 | cons x0 Z0 =>
   have HX0 := List.pairwise_cons.1 HXX.out
   have HSTART : Hid (b = a + 1 + Z0.length) := Lib.hid (by have := HBE.out; simp at this; omega)
   go_enter Tryz.func221, Tryz.ntmps221
   go_wp2_with fail
   go_loopg [8] Z0.length (fun gk s8 wr => ∃ (i : Nat) (P Z : List α), s8 = .int .i64 i ∧ i = a + P.length ∧ b = i + Z.length ∧ gk = Z.length ∧ List.Perm (P ++ Z) (x0 :: Z0) ∧ P.Pairwise lt ∧ Stb.Cross lt neg P Z ∧ Z.Pairwise (Stb.Fit lt neg) ∧ SRow E wr B 74 g cap n (A ++ (P ++ (Z ++ R))) ∧ w.grownBy wr (some g))
   case atStart => exact ⟨a + 1, [x0], Z0, by go_num, rfl, HSTART.out, rfl, List.Perm.refl _, by simp, fun x hx y hy => by (rw [List.mem_singleton] at hx; subst hx; exact HX0.1 y hy), HX0.2, H0.out, World.grownBy.refl _ _⟩
   case round =>
    obtain ⟨i, P, Z, rfl, hi, hbi, rfl, hperm, hP, hPZ, hZ, hS, hG⟩ := hrel
    have HI := Lib.hid hi; have HBI := Lib.hid hbi; have HPM := Lib.hid hperm; have HP := Lib.hid hP; have HPZ := Lib.hid hPZ; have HZ := Lib.hid hZ; have HS := Lib.hid hS; have HG := Lib.hid hG
    have hin : i ≤ b := by omega
    clear hi hbi hperm hP hPZ hZ hS hG
    cases Z with
    | nil =>
      have hlt : ¬ ((i : Int) < (b : Int)) := by have := HBI.out; simp at this; omega
      go_wp2_with fail
      go_end0
      exact ⟨rfl, P, by have := HPM.out; rwa [List.append_nil] at this, HP.out, HS.out, HG.out⟩
    | cons x Z =>
      have hlt : ((i : Int) < (b : Int)) := by have := HBI.out; simp at this; omega
      have hlt2 : i < b := by omega
      have HZ2 := List.pairwise_cons.1 HZ.out
      have hdx : ∀ y, y ∈ P ++ x :: Z → dom y := fun y hy => HD.out y (HPM.out.mem_iff.1 hy)
      have HDX := Lib.hid hdx; clear hdx
      have HOUT := Lib.hid (fun (t : Nat) (ht : t ≤ P.length) (h1 : ∀ q y, q < t → P[q]? = some y → lt y x) (h2 : ∀ q y, t ≤ q → P[q]? = some y → lt x y) => Stb.placed_in O HP.out h1 h2)
      go_wp2_with fail
      go_loopg [9] P.length (fun gk s9 wr2 => ∃ (t : Nat), s9 = .int .i64 ((a + t : Nat) : Int) ∧ t ≤ P.length ∧ gk = 0 + t ∧ (∀ q y, t ≤ q → P[q]? = some y → lt x y) ∧ SRow E wr2 B 74 g cap n (Stb.ins A P t x (Z ++ R)) ∧ w.grownBy wr2 (some g))
      case atStart => exact ⟨P.length, by rw [HI.out], Nat.le_refl _, by omega, fun q y hq hy => by (have := (List.getElem?_eq_some_iff.1 hy).1; omega), by (rw [Stb.ins_last]; exact HS.out), HG.out⟩
      case round =>
       clear HS
       obtain ⟨t, rfl, ht, rfl, hup, hS, hG⟩ := hrel
       have HS := Lib.hid hS; have HG2 := Lib.hid hG; have HUP := Lib.hid hup
       clear hS hG hup
       have HEND := Lib.hid (fun (h1 : ∀ q y, q < t → P[q]? = some y → lt y x) => HOUT.out t ht h1 HUP.out)
       cases t with
       | zero =>
         have hja : ¬ ((a : Int) < ((a + 0 : Nat) : Int)) := by omega
         have hja2 : ¬ ((a : Int) < (a : Int)) := by omega
         go_wp2_with fail
         go_big_region
         all_goals go_wp2_with fail
         have HE := HEND.out (fun q y hq => by omega)
         have HE := HE
         go_roundg Z.length
         case rel =>
          have hlen := HE.2.1.length_eq
          rw [List.length_cons] at hlen
          refine ⟨i + 1, P.take (0) ++ x :: P.drop (0), Z, by go_num, by rw [hlen]; have := HI.out; omega, by have := HBI.out; rw [List.length_cons] at this; omega, rfl, ?_, HE.1, ?_, HZ2.2, ?_, grown_dn HG2.out (World.grownBy.refl _ _)⟩
          ·refine List.Perm.trans (HE.2.2.append_right Z) ?_
           rw [List.append_assoc]
           exact HPM.out
          ·intro q hq y hy
           rcases List.mem_cons.1 (HE.2.1.mem_iff.1 hq) with rfl | hq
           ·exact HZ2.1 y hy
           ·exact HPZ.out q hq y (List.mem_cons_of_mem _ hy)
          ·have := HS.out.drew
           unfold Stb.ins at this
           simpa using this
         case measure => simp
       | succ t =>
         obtain ⟨p, hp⟩ : ∃ p, a + t = p := ⟨_, rfl⟩
         obtain ⟨y, hy⟩ : ∃ y, P[t]? = some y := ⟨_, List.getElem?_eq_getElem (by omega)⟩
         have hyP := List.mem_of_getElem? hy
         have hfit := HPZ.out y hyP x (by simp)
         have hSd := HS.out.drew
         have px := Stb.ins_at (A := A) (C := Z ++ R) (x := x) ht
         have py := Stb.ins_prev (A := A) (C := Z ++ R) (x := x) hy
         have hsw := Stb.ins_left (A := A) (C := Z ++ R) (x := x) hy
         rw [← HA.out, ← Nat.add_assoc, hp] at px
         rw [← HA.out, hp] at py hsw
         have hpn : p + 1 < n := by
          have := (List.getElem?_eq_some_iff.1 px).1
          have := HS.out.len
          omega
         have l1 := hSd.range px
         have l2 := hSd.range py
         have hlcx := E.len x; have hlcy := E.len y
         have hcc := HCC0.out wr.drew x y (HDX.out x (by simp)) (HDX.out y (by simp [hyP])) (HW0.out.trans (grown_dn HG2.out (World.grownBy.refl _ _)))
         rw [HEK.out] at l1 l2 hlcx hlcy
         obtain ⟨cx, hcx⟩ : ∃ cx, E.cells x = cx := ⟨_, rfl⟩
         obtain ⟨cy, hcy⟩ : ∃ cy, E.cells y = cy := ⟨_, rfl⟩
         have HCX := Lib.hid hcx; have HCY := Lib.hid hcy
         rw [hcx] at l1 hlcx hcc
         rw [hcy] at l2 hlcy hcc
         have HCC := Lib.hid hcc
         have HFIT := Lib.hid hfit; have HY := Lib.hid hy; have HSWL := Lib.hid hsw
         have HPN := Lib.hid hp
         have hap : a ≤ p := by omega
         have ep : (((a + (t + 1) : Nat) : Int)) = (p : Int) + 1 := by omega
         rw [ep]
         have hja : (a : Int) < (p : Int) + 1 := by omega
         have i0 : (0 : Int) ≤ (p : Int) + 1 := by omega
         have i1 : (p : Int) + 1 < (n : Int) := by omega
         have i2 : ((p : Int) + 1).toNat = p + 1 := by omega
         have i3 : (p : Int) < (n : Int) := by omega
         have ew : IntKind.i64.wrap (p : Int) = (p : Int) := by rw [IntKind.wrap_i64]; omega
         have hmeas := (List.getElem?_eq_some_iff.1 hy).1
         clear hcx hcy hcc hSd px py hsw hfit hyP hy hp ep
         have HC0 : wr.drew.rangeAt g ((p + 1) * 4) cx ∧ wr.drew.rangeAt g (p * 4) cy := ⟨l1, l2⟩
         go_wp2_with fail
         cases hn1 : neg x y
         ·refine wp_region_until (fun W => W.rangeAt g ((p + 1) * 4) cx ∧ W.rangeAt g (p * 4) cy) 14 (by kernel_rfl) ?_
          refine stq 0 18 ?_ HC0 ?_ ?_
          rotate_left
          ·(intro W _; go_simp; try (with_reducible rfl))
          go_frame
          refine stq 1 19 ?_ HC0 ?_ ?_
          rotate_left
          ·(intro W _; go_simp; try (with_reducible rfl))
          go_frame
          refine stq 2 20 ?_ HC0 ?_ ?_
          rotate_left
          ·(intro W _; go_simp; try (with_reducible rfl))
          go_frame
          refine stq 3 21 ?_ HC0 ?_ ?_
          rotate_left
          ·(intro W _; go_simp; try (with_reducible rfl))
          go_frame
          refine stq 4 22 ?_ HC0 ?_ ?_
          rotate_left
          ·(intro W _; go_simp; try (with_reducible rfl))
          go_frame
          refine stq 5 23 ?_ HC0 ?_ ?_
          rotate_left
          ·(intro W _; go_simp; try (with_reducible rfl))
          go_frame
          refine stq 6 24 ?_ HC0 ?_ ?_
          rotate_left
          ·(intro W _; go_simp; try (with_reducible rfl))
          go_frame
          refine stq 7 25 (.pointer (some ⟨g, (p + 1) * 4, none⟩)) HC0 ?_ ?_
          ·(intro W _; go_simp; try (with_reducible rfl))
          go_frame
          refine stm 8 26 (.agg (List.toArray cx)) HC0 ?_ ?_
          ·refine yieldsIf_load_mid ?_ _ _ rfl g ((p + 1) * 4) ?_ cx _ ?_ Tryz.underlying74 ?_ ?_
           ·kernel_rfl
           ·kernel_rfl
           ·(intro W hSw; exact hSw.1)
           ·rfl
           ·(rw [hlcx]; kernel_rfl)
          go_frame
          refine stq 9 27 ?_ HC0 ?_ ?_
          rotate_left
          ·(intro W _; go_simp; try (with_reducible rfl))
          go_frame
          refine stq 10 28 ?_ HC0 ?_ ?_
          rotate_left
          ·(intro W _; go_simp; try (with_reducible rfl))
          go_frame
          refine stq 11 29 ?_ HC0 ?_ ?_
          rotate_left
          ·(intro W _; go_simp; try (with_reducible rfl))
          go_frame
          refine stq 12 30 (.pointer (some ⟨g, p * 4, none⟩)) HC0 ?_ ?_
          ·(intro W _; go_simp; try (with_reducible rfl))
          go_frame
          refine stm 13 31 (.agg (List.toArray cy)) HC0 ?_ ?_
          ·refine yieldsIf_load_mid ?_ _ _ rfl g (p * 4) ?_ cy _ ?_ Tryz.underlying74 ?_ ?_
           ·kernel_rfl
           ·kernel_rfl
           ·(intro W hSw; exact hSw.2)
           ·rfl
           ·(rw [hlcy]; kernel_rfl)
          go_frame
          refine anyM_ready (rs := [14]) (by kernel_rfl) (by simp) ?_
          apply ReadyM.cons
          ·rfl
          rotate_left
          ·exact ReadyM.nil
          intro K hK
          refine if_wanted ?_ ?_
          ·kernel_rfl
          go_simp
          refine HCC.out.mono ?_
          rintro e w5 ⟨r, rfl, hr, hB5⟩
          refine hK.out _ _ (fun h => absurd h (by simp)) ?_
          clear hK K
          try go_frame
          have hr0 : ¬ r < 0 := by rw [hn1] at hr; simpa using hr
          refine stx 15 33 ?_ ?_ ?_
          rotate_left
          ·(go_simp; try (with_reducible rfl))
          go_frame
          refine stx 16 34 ?_ ?_ ?_
          rotate_left
          ·(go_simp; try (with_reducible rfl))
          go_frame
          refine anyM_done (by kernel_rfl) ?_ _
          go_wp2_with fail
          have HE := HEND.out (fun q z hq hz => by
           have hyx := HFIT.out.2 hn1
           by_cases e : q = t
           ·subst e; have := HY.out; rw [hz] at this; cases this; exact hyx
           ·exact O.tr _ _ _ (Stb.sorted_at HP.out hz HY.out (by omega)) hyx)
          have HE := HE
          go_roundg Z.length
          case rel =>
           have hlen := HE.2.1.length_eq
           rw [List.length_cons] at hlen
           refine ⟨i + 1, P.take (t + 1) ++ x :: P.drop (t + 1), Z, by go_num, by rw [hlen]; have := HI.out; omega, by have := HBI.out; rw [List.length_cons] at this; omega, rfl, ?_, HE.1, ?_, HZ2.2, ?_, grown_below (grown_dn HG2.out (World.grownBy.refl _ _)) hB5⟩
           ·refine List.Perm.trans (HE.2.2.append_right Z) ?_
            rw [List.append_assoc]
            exact HPM.out
           ·intro q hq y hy
            rcases List.mem_cons.1 (HE.2.1.mem_iff.1 hq) with rfl | hq
            ·exact HZ2.1 y hy
            ·exact HPZ.out q hq y (List.mem_cons_of_mem _ hy)
           ·have := HS.out.drew.keep hB5
            unfold Stb.ins at this
            simpa using this
          case measure => simp
         ·refine wp_region_until (fun W => W.rangeAt g ((p + 1) * 4) cx ∧ W.rangeAt g (p * 4) cy) 14 (by kernel_rfl) ?_
          refine stq 0 18 ?_ HC0 ?_ ?_
          rotate_left
          ·(intro W _; go_simp; try (with_reducible rfl))
          go_frame
          refine stq 1 19 ?_ HC0 ?_ ?_
          rotate_left
          ·(intro W _; go_simp; try (with_reducible rfl))
          go_frame
          refine stq 2 20 ?_ HC0 ?_ ?_
          rotate_left
          ·(intro W _; go_simp; try (with_reducible rfl))
          go_frame
          refine stq 3 21 ?_ HC0 ?_ ?_
          rotate_left
          ·(intro W _; go_simp; try (with_reducible rfl))
          go_frame
          refine stq 4 22 ?_ HC0 ?_ ?_
          rotate_left
          ·(intro W _; go_simp; try (with_reducible rfl))
          go_frame
          refine stq 5 23 ?_ HC0 ?_ ?_
          rotate_left
          ·(intro W _; go_simp; try (with_reducible rfl))
          go_frame
          refine stq 6 24 ?_ HC0 ?_ ?_
          rotate_left
          ·(intro W _; go_simp; try (with_reducible rfl))
          go_frame
          refine stq 7 25 (.pointer (some ⟨g, (p + 1) * 4, none⟩)) HC0 ?_ ?_
          ·(intro W _; go_simp; try (with_reducible rfl))
          go_frame
          refine stm 8 26 (.agg (List.toArray cx)) HC0 ?_ ?_
          ·refine yieldsIf_load_mid ?_ _ _ rfl g ((p + 1) * 4) ?_ cx _ ?_ Tryz.underlying74 ?_ ?_
           ·kernel_rfl
           ·kernel_rfl
           ·(intro W hSw; exact hSw.1)
           ·rfl
           ·(rw [hlcx]; kernel_rfl)
          go_frame
          refine stq 9 27 ?_ HC0 ?_ ?_
          rotate_left
          ·(intro W _; go_simp; try (with_reducible rfl))
          go_frame
          refine stq 10 28 ?_ HC0 ?_ ?_
          rotate_left
          ·(intro W _; go_simp; try (with_reducible rfl))
          go_frame
          refine stq 11 29 ?_ HC0 ?_ ?_
          rotate_left
          ·(intro W _; go_simp; try (with_reducible rfl))
          go_frame
          refine stq 12 30 (.pointer (some ⟨g, p * 4, none⟩)) HC0 ?_ ?_
          ·(intro W _; go_simp; try (with_reducible rfl))
          go_frame
          refine stm 13 31 (.agg (List.toArray cy)) HC0 ?_ ?_
          ·refine yieldsIf_load_mid ?_ _ _ rfl g (p * 4) ?_ cy _ ?_ Tryz.underlying74 ?_ ?_
           ·kernel_rfl
           ·kernel_rfl
           ·(intro W hSw; exact hSw.2)
           ·rfl
           ·(rw [hlcy]; kernel_rfl)
          go_frame
          refine anyM_ready (rs := [14]) (by kernel_rfl) (by simp) ?_
          apply ReadyM.cons
          ·rfl
          rotate_left
          ·exact ReadyM.nil
          intro K hK
          refine if_wanted ?_ ?_
          ·kernel_rfl
          go_simp
          refine HCC.out.mono ?_
          rintro e w5 ⟨r, rfl, hr, hB5⟩
          refine hK.out _ _ (fun h => absurd h (by simp)) ?_
          clear hK K
          try go_frame
          have hr0 : r < 0 := by rw [hn1] at hr; simpa using hr
          refine stx 15 33 ?_ ?_ ?_
          rotate_left
          ·(go_simp; try (with_reducible rfl))
          go_frame
          refine stx 16 34 ?_ ?_ ?_
          rotate_left
          ·(go_simp; try (with_reducible rfl))
          go_frame
          refine anyM_done (by kernel_rfl) ?_ _
          go_wp2_with fail
          have hSd := (HS.out.drew.keep hB5).drew
          obtain ⟨w1, s1, hS1, hG1⟩ := hSd.store (P := Tryz.prog) (p := p + 1) hpn y HSZ.out
          obtain ⟨w2, s2, hS2, hG2⟩ := hS1.store (P := Tryz.prog) (p := p) (by omega) x HSZ.out
          rw [HSWL.out] at hS2
          have HS2 := Lib.hid hS2
          have HG5 := Lib.hid (grown_dn (grown_below (grown_dn HG2.out (World.grownBy.refl _ _)) hB5) (hG1.trans hG2))
          have px := Stb.ins_at (A := A) (C := Z ++ R) (x := x) ht
          have py := Stb.ins_prev (A := A) (C := Z ++ R) (x := x) HY.out
          rw [← HA.out, ← Nat.add_assoc, HPN.out] at px
          rw [← HA.out, HPN.out] at py
          have l1 := hSd.range px
          have l2 := hSd.range py
          unfold Enc.val at s1 s2
          rw [HEK.out] at l1 l2 s1 s2
          rw [HCX.out] at l1 s2
          rw [HCY.out] at l2 s1
          clear px py hS1 hS2 hG1 hG2 hSd HC0
          have HC0 : w5.drew.rangeAt g ((p + 1) * 4) cx ∧ w5.drew.rangeAt g (p * 4) cy := ⟨l1, l2⟩
          refine wp_region_until (fun W => W.rangeAt g ((p + 1) * 4) cx ∧ W.rangeAt g (p * 4) cy) 15 (by kernel_rfl) ?_
          refine stq 0 37 ?_ HC0 ?_ ?_
          rotate_left
          ·(intro W _; go_simp; try (with_reducible rfl))
          go_frame
          refine stq 1 38 ?_ HC0 ?_ ?_
          rotate_left
          ·(intro W _; go_simp; try (with_reducible rfl))
          go_frame
          refine stq 2 39 ?_ HC0 ?_ ?_
          rotate_left
          ·(intro W _; go_simp; try (with_reducible rfl))
          go_frame
          refine stq 3 40 ?_ HC0 ?_ ?_
          rotate_left
          ·(intro W _; go_simp; try (with_reducible rfl))
          go_frame
          refine stq 4 41 ?_ HC0 ?_ ?_
          rotate_left
          ·(intro W _; go_simp; try (with_reducible rfl))
          go_frame
          refine stq 5 42 ?_ HC0 ?_ ?_
          rotate_left
          ·(intro W _; go_simp; try (with_reducible rfl))
          go_frame
          refine stq 6 43 ?_ HC0 ?_ ?_
          rotate_left
          ·(intro W _; go_simp; try (with_reducible rfl))
          go_frame
          refine stq 7 44 ?_ HC0 ?_ ?_
          rotate_left
          ·(intro W _; go_simp; try (with_reducible rfl))
          go_frame
          refine stq 8 45 (.pointer (some ⟨g, p * 4, none⟩)) HC0 ?_ ?_
          ·(intro W _; go_simp; try (with_reducible rfl))
          go_frame
          refine stm 9 46 (.agg (List.toArray cy)) HC0 ?_ ?_
          ·refine yieldsIf_load_mid ?_ _ _ rfl g (p * 4) ?_ cy _ ?_ Tryz.underlying74 ?_ ?_
           ·kernel_rfl
           ·kernel_rfl
           ·(intro W hSw; exact hSw.2)
           ·rfl
           ·(rw [hlcy]; kernel_rfl)
          go_frame
          refine stq 10 47 ?_ HC0 ?_ ?_
          rotate_left
          ·(intro W _; go_simp; try (with_reducible rfl))
          go_frame
          refine stq 11 48 ?_ HC0 ?_ ?_
          rotate_left
          ·(intro W _; go_simp; try (with_reducible rfl))
          go_frame
          refine stq 12 49 (.pointer (some ⟨g, (p + 1) * 4, none⟩)) HC0 ?_ ?_
          ·(intro W _; go_simp; try (with_reducible rfl))
          go_frame
          refine stm 13 50 (.agg (List.toArray cx)) HC0 ?_ ?_
          ·refine yieldsIf_load_mid ?_ _ _ rfl g ((p + 1) * 4) ?_ cx _ ?_ Tryz.underlying74 ?_ ?_
           ·kernel_rfl
           ·kernel_rfl
           ·(intro W hSw; exact hSw.1)
           ·rfl
           ·(rw [hlcx]; kernel_rfl)
          go_frame
          refine stq 14 51 (.pointer (some ⟨g, (p + 1) * 4, none⟩)) HC0 ?_ ?_
          ·(intro W _; go_simp; try (with_reducible rfl))
          go_frame
          refine stst 15 74 (.tmp 51) (.tmp 46) (.pointer (some ⟨g, (p + 1) * 4, none⟩)) (.agg (List.toArray cy)) s1 ?_
          simp only [Act.put]
          refine stx 16 52 (.pointer (some ⟨g, p * 4, none⟩)) ?_ ?_
          ·(go_simp; try (with_reducible rfl))
          go_frame
          refine stst 17 74 (.tmp 52) (.tmp 50) (.pointer (some ⟨g, p * 4, none⟩)) (.agg (List.toArray cx)) s2 ?_
          simp only [Act.put]
          refine anyM_done (by kernel_rfl) ?_ _
          go_wp2_with fail
          go_roundg (0 + t)
          case rel =>
           refine ⟨t, by rw [HPN.out], by omega, rfl, fun q z hq hz => ?_, HS2.out, HG5.out⟩
           by_cases e : q = t
           ·subst e; have := HY.out; rw [hz] at this; cases this; exact HFIT.out.1 hn1
           ·exact HUP.out q z (by omega) hz
          case measure => omega

theorem stCp_sym1 {α : Type} (E : Enc α) (hE : E.k = 4) {lt : α → α → Prop} {neg : α → α → Bool} (O : Stb.Ord lt) (c : FuncId) (lb : Array Value) (eg : ∀ args w, (callFunc c args).run Tryz.prog w = .ok (.enter c args) w) (dom : α → Prop) (w0 : World) (B g cap n : Nat) (HC : CmpOk E w0 g c lb dom neg)
  (A V R : List α) (x : α) (w : World) (hw0 : w0.grownBy w (some g)) (h : SRow E w B 74 g cap n (A ++ x :: (V ++ R))) (hn : n ≤ 1000000) (a m b : Nat) (ha : a = A.length) (hm : m = a + 1) (hb : b = m + V.length) (hV0 : 0 < V.length) (sV : V.Pairwise lt) (hX : ∀ y, y ∈ V → Stb.Fit lt neg x y) (hdx : dom x) (hd : ∀ y, y ∈ V → dom y) :
  Calls Tryz.prog 222 #[.slice (some ⟨g, 0, none⟩) n cap, .int .i64 a, .int .i64 m, .int .i64 b, .func (.func c) #[] lb] w fun e w' => e = .returned (.tuple #[]) ∧ ∃ M, List.Perm M (x :: V) ∧ M.Pairwise lt ∧ SRow E w' B 74 g cap n (A ++ (M ++ R)) ∧ w.grownBy w' (some g) := by
 have hsz : (Tryz.prog.info? 74).map (·.size) = some E.k := by rw [hE]; kernel_rfl
 have HSZ := Lib.hid hsz; have HEK := Lib.hid hE
 have hl := h.len
 simp only [List.length_append, List.length_cons, List.length_nil] at hl
 have HA := Lib.hid ha; have HM := Lib.hid hm; have HBE := Lib.hid hb; have HW0 := Lib.hid hw0; have HCC0 := Lib.hid HC; have H0 := Lib.hid h
 have HX := Lib.hid hX; have HD := Lib.hid hd; have HDX := Lib.hid hdx; have HSV := Lib.hid sV; have HV0 := Lib.hid hV0
 have hbn : b ≤ n := by omega
 have hmn : m ≤ n := by omega
 have han : a < n := by omega
 have hma : (m : Int) - (a : Int) = 1 := by omega
 have hmb : m ≤ b := by omega
 have HPL := Lib.hid (fun q => Stb.placed_in (q := q) O sV (x := x))
 clear hsz hl ha hm hb hw0 h HC hE hX hd hdx sV hV0
 go_enter Tryz.func222, Tryz.ntmps222
 go_wp2_with fail
 go_loopg [10, 11] (b - m) (fun gk s10 s11 wr => ∃ (il jl : Nat), s10 = .int .i64 il ∧ s11 = .int .i64 jl ∧ m ≤ il ∧ il ≤ jl ∧ jl ≤ b ∧ gk = 0 + (jl - il) ∧ (∀ t s, t < il - m → V[t]? = some s → lt s x) ∧ (∀ t s, jl - m ≤ t → V[t]? = some s → lt x s) ∧ SRow E wr B 74 g cap n (A ++ x :: (V ++ R)) ∧ w.grownBy wr (some g))
 case atStart => exact ⟨m, b, rfl, rfl, Nat.le_refl _, hmb, Nat.le_refl _, by omega, fun t s ht => by omega, fun t s ht hs => by (have := (List.getElem?_eq_some_iff.1 hs).1; have := HBE.out; omega), H0.out, World.grownBy.refl _ _⟩
 case round =>
  obtain ⟨il, jl, rfl, rfl, hil, hij, hjl, rfl, hlow, hup, hS, hG⟩ := hrel
  have HS := Lib.hid hS; have HG := Lib.hid hG; have HLOW := Lib.hid hlow; have HUP := Lib.hid hup
  clear hS hG hlow hup
  by_cases hlt : il < jl
  ·have hlt1 : (il : Int) < (jl : Int) := by omega
   obtain ⟨h, hh⟩ : ∃ h, (il + jl) / 2 = h := ⟨_, rfl⟩
   have hh1 : ((il : Int) + (jl : Int)) / 2 = (h : Int) := by omega
   have hih : il ≤ h := by omega
   have hhj : h < jl := by omega
   have HBE2 := HBE.out
   have hhv : h - m < V.length := by omega
   obtain ⟨y, hy⟩ : ∃ y, V[h - m]? = some y := ⟨_, List.getElem?_eq_getElem hhv⟩
   have hyV := List.mem_of_getElem? hy
   have hfit := HX.out y hyV
   have px : (A ++ x :: (V ++ R))[a]? = some x := at_mid A (V ++ R) x a HA.out
   have py : (A ++ x :: (V ++ R))[h]? = some y := by
    have := Stb.at_S (A := A) (U := [x]) (S := V) (R := R) hhv
    rw [hy] at this
    rw [← this]
    have e : A.length + [x].length + (h - m) = h := by have := HA.out; have := HM.out; simp; omega
    rw [e]; rfl
   have hSd := HS.out.drew
   have l1 := hSd.range py
   have l2 := hSd.range px
   have hlcx := E.len x; have hlcy := E.len y
   have hcc := HCC0.out wr.drew y x (HD.out y hyV) HDX.out (HW0.out.trans (grown_dn HG.out (World.grownBy.refl _ _)))
   rw [HEK.out] at l1 l2 hlcx hlcy
   generalize E.cells x = cx at *
   generalize E.cells y = cy at *
   have HCC := Lib.hid hcc
   have HFIT := Lib.hid hfit; have HY := Lib.hid hy
   have HHE := Lib.hid hh
   have i0 : (h : Int) < (n : Int) := by omega
   have i1 : (a : Int) < (n : Int) := by omega
   clear hcc hSd px py hfit hyV hy hhv HBE2 hh
   have HC0 : wr.drew.rangeAt g (h * 4) cy ∧ wr.drew.rangeAt g (a * 4) cx := ⟨l1, l2⟩
   go_wp2_with fail
   cases hn1 : neg y x
   ·refine wp_region_until (fun W => W.rangeAt g (h * 4) cy ∧ W.rangeAt g (a * 4) cx) 9 (by kernel_rfl) ?_
    refine stq 0 40 ?_ HC0 ?_ ?_
    rotate_left
    ·(intro W _; go_simp; try (with_reducible rfl))
    go_frame
    refine stq 1 41 ?_ HC0 ?_ ?_
    rotate_left
    ·(intro W _; go_simp; try (with_reducible rfl))
    go_frame
    refine stq 2 42 ?_ HC0 ?_ ?_
    rotate_left
    ·(intro W _; go_simp; try (with_reducible rfl))
    go_frame
    refine stq 3 43 (.pointer (some ⟨g, h * 4, none⟩)) HC0 ?_ ?_
    ·(intro W _; go_simp; try (with_reducible rfl))
    go_frame
    refine stm 4 44 (.agg (List.toArray cy)) HC0 ?_ ?_
    ·refine yieldsIf_load_mid ?_ _ _ rfl g (h * 4) ?_ cy _ ?_ Tryz.underlying74 ?_ ?_
     ·kernel_rfl
     ·kernel_rfl
     ·(intro W hSw; exact hSw.1)
     ·rfl
     ·(rw [hlcy]; kernel_rfl)
    go_frame
    refine stq 5 45 ?_ HC0 ?_ ?_
    rotate_left
    ·(intro W _; go_simp; try (with_reducible rfl))
    go_frame
    refine stq 6 46 ?_ HC0 ?_ ?_
    rotate_left
    ·(intro W _; go_simp; try (with_reducible rfl))
    go_frame
    refine stq 7 47 (.pointer (some ⟨g, a * 4, none⟩)) HC0 ?_ ?_
    ·(intro W _; go_simp; try (with_reducible rfl))
    go_frame
    refine stm 8 48 (.agg (List.toArray cx)) HC0 ?_ ?_
    ·refine yieldsIf_load_mid ?_ _ _ rfl g (a * 4) ?_ cx _ ?_ Tryz.underlying74 ?_ ?_
     ·kernel_rfl
     ·kernel_rfl
     ·(intro W hSw; exact hSw.2)
     ·rfl
     ·(rw [hlcx]; kernel_rfl)
    go_frame
    refine anyM_ready (rs := [9]) (by kernel_rfl) (by simp) ?_
    apply ReadyM.cons
    ·rfl
    rotate_left
    ·exact ReadyM.nil
    intro K hK
    refine if_wanted ?_ ?_
    ·kernel_rfl
    go_simp
    refine HCC.out.mono ?_
    rintro e w5 ⟨r, rfl, hr, hB5⟩
    refine hK.out _ _ (fun h => absurd h (by simp)) ?_
    clear hK K
    try go_frame
    have hr0 : ¬ r < 0 := by rw [hn1] at hr; simpa using hr
    refine stx 10 50 ?_ ?_ ?_
    rotate_left
    ·(go_simp; try (with_reducible rfl))
    go_frame
    refine anyM_done (by kernel_rfl) ?_ _
    go_wp2_with fail
    go_roundg (0 + (h - il))
    case rel =>
     refine ⟨il, h, rfl, rfl, hil, hih, by omega, rfl, HLOW.out, fun t s ht hs => ?_, HS.out.drew.keep hB5, grown_below (grown_dn HG.out (World.grownBy.refl _ _)) hB5⟩
     have hxy := HFIT.out.2 hn1
     by_cases e : t = h - m
     ·subst e; have := HY.out; rw [hs] at this; cases this; exact hxy
     ·exact O.tr _ _ _ hxy (Stb.sorted_at HSV.out HY.out hs (by omega))
    case measure => omega
   ·refine wp_region_until (fun W => W.rangeAt g (h * 4) cy ∧ W.rangeAt g (a * 4) cx) 9 (by kernel_rfl) ?_
    refine stq 0 40 ?_ HC0 ?_ ?_
    rotate_left
    ·(intro W _; go_simp; try (with_reducible rfl))
    go_frame
    refine stq 1 41 ?_ HC0 ?_ ?_
    rotate_left
    ·(intro W _; go_simp; try (with_reducible rfl))
    go_frame
    refine stq 2 42 ?_ HC0 ?_ ?_
    rotate_left
    ·(intro W _; go_simp; try (with_reducible rfl))
    go_frame
    refine stq 3 43 (.pointer (some ⟨g, h * 4, none⟩)) HC0 ?_ ?_
    ·(intro W _; go_simp; try (with_reducible rfl))
    go_frame
    refine stm 4 44 (.agg (List.toArray cy)) HC0 ?_ ?_
    ·refine yieldsIf_load_mid ?_ _ _ rfl g (h * 4) ?_ cy _ ?_ Tryz.underlying74 ?_ ?_
     ·kernel_rfl
     ·kernel_rfl
     ·(intro W hSw; exact hSw.1)
     ·rfl
     ·(rw [hlcy]; kernel_rfl)
    go_frame
    refine stq 5 45 ?_ HC0 ?_ ?_
    rotate_left
    ·(intro W _; go_simp; try (with_reducible rfl))
    go_frame
    refine stq 6 46 ?_ HC0 ?_ ?_
    rotate_left
    ·(intro W _; go_simp; try (with_reducible rfl))
    go_frame
    refine stq 7 47 (.pointer (some ⟨g, a * 4, none⟩)) HC0 ?_ ?_
    ·(intro W _; go_simp; try (with_reducible rfl))
    go_frame
    refine stm 8 48 (.agg (List.toArray cx)) HC0 ?_ ?_
    ·refine yieldsIf_load_mid ?_ _ _ rfl g (a * 4) ?_ cx _ ?_ Tryz.underlying74 ?_ ?_
     ·kernel_rfl
     ·kernel_rfl
     ·(intro W hSw; exact hSw.2)
     ·rfl
     ·(rw [hlcx]; kernel_rfl)
    go_frame
    refine anyM_ready (rs := [9]) (by kernel_rfl) (by simp) ?_
    apply ReadyM.cons
    ·rfl
    rotate_left
    ·exact ReadyM.nil
    intro K hK
    refine if_wanted ?_ ?_
    ·kernel_rfl
    go_simp
    refine HCC.out.mono ?_
    rintro e w5 ⟨r, rfl, hr, hB5⟩
    refine hK.out _ _ (fun h => absurd h (by simp)) ?_
    clear hK K
    try go_frame
    have hr0 : r < 0 := by rw [hn1] at hr; simpa using hr
    refine stx 10 50 ?_ ?_ ?_
    rotate_left
    ·(go_simp; try (with_reducible rfl))
    go_frame
    refine anyM_done (by kernel_rfl) ?_ _
    go_wp2_with fail
    go_roundg (0 + (jl - (h + 1)))
    case rel =>
     refine ⟨h + 1, jl, by go_num, rfl, by omega, by omega, hjl, rfl, fun t s ht hs => ?_, HUP.out, HS.out.drew.keep hB5, grown_below (grown_dn HG.out (World.grownBy.refl _ _)) hB5⟩
     have hyx := HFIT.out.1 hn1
     by_cases e : t = h - m
     ·subst e; have := HY.out; rw [hs] at this; cases this; exact hyx
     ·exact O.tr _ _ _ (Stb.sorted_at HSV.out hs HY.out (by omega)) hyx
    case measure => omega
  ·obtain rfl : il = jl := by omega
   have hlt1 : ¬ ((il : Int) < (il : Int)) := by omega
   have HQ := HPL.out (il - m) HLOW.out HUP.out
   have HP1 := Lib.hid HQ
   have hq : il = m + (il - m) := by omega
   obtain ⟨q, hqq⟩ : ∃ q, il - m = q := ⟨_, rfl⟩
   rw [hqq] at HP1
   have hiq : il = a + 1 + q := by have := HM.out; omega
   have hqV : q ≤ V.length := by have := HBE.out; omega
   have HIQ := Lib.hid hiq; have HQV := Lib.hid hqV
   clear HQ hq hqq hiq hqV
   go_wp2_with fail
   go_loopg [13] q (fun gk s13 wr => ∃ t : Nat, s13 = .int .i64 ((a + t : Nat) : Int) ∧ t ≤ q ∧ gk = q - t ∧ SRow E wr B 74 g cap n (Stb.ins A V t x R) ∧ w.grownBy wr (some g))
   case atStart => exact ⟨0, by go_num, Nat.zero_le _, rfl, by (rw [Stb.ins_first]; exact HS.out), HG.out⟩
   case round =>
    clear HS HG
    obtain ⟨t, rfl, ht, rfl, hS, hG⟩ := hrel
    have HS := Lib.hid hS; have HG := Lib.hid hG
    clear hS hG
    by_cases htq : t < q
    ·obtain ⟨p, hp⟩ : ∃ p, a + t = p := ⟨_, rfl⟩
     rw [hp]
     have hw1 : IntKind.i64.wrap ((il : Int) - 1) = (il : Int) - 1 := by rw [IntKind.wrap_i64]; omega
     have hcnd : (p : Int) < (il : Int) - 1 := by have := HIQ.out; omega
     have htV : t < V.length := by have := HQV.out; omega
     obtain ⟨y, hy⟩ : ∃ y, V[t]? = some y := ⟨_, List.getElem?_eq_getElem htV⟩
     have px := Stb.ins_at (A := A) (C := R) (x := x) (Nat.le_of_lt htV)
     have py := Stb.ins_next (A := A) (C := R) (x := x) hy
     have hsw := Stb.ins_right (A := A) (C := R) (x := x) hy
     rw [← HA.out, hp] at px py hsw
     have hSd := HS.out.drew
     have hpn : p + 1 < n := by have := HIQ.out; omega
     obtain ⟨w1, s1, hS1, hG1⟩ := hSd.store (P := Tryz.prog) (p := p) (by omega) y HSZ.out
     obtain ⟨w2, s2, hS2, hG2⟩ := hS1.store (P := Tryz.prog) (p := p + 1) hpn x HSZ.out
     rw [hsw] at hS2
     have HS2 := Lib.hid hS2
     have HG5 := Lib.hid (grown_dn HG.out (hG1.trans hG2))
     have l1 := hSd.range py
     have l2 := hSd.range px
     have hlcx := E.len x; have hlcy := E.len y
     unfold Enc.val at s1 s2
     rw [HEK.out] at l1 l2 s1 s2 hlcx hlcy
     generalize E.cells x = cx at *
     generalize E.cells y = cy at *
     have HPN := Lib.hid hp
     have i0 : (0 : Int) ≤ (p : Int) + 1 := by omega
     have i1 : (p : Int) + 1 < (n : Int) := by omega
     have i2 : ((p : Int) + 1).toNat = p + 1 := by omega
     have i3 : (p : Int) < (n : Int) := by omega
     have ew : IntKind.i64.wrap ((p : Int) + 1) = (p : Int) + 1 := by rw [IntKind.wrap_i64]; omega
     clear hp hy px py hsw hSd hS1 hS2 hG1 hG2 htV
     have HC0 : wr.drew.rangeAt g ((p + 1) * 4) cy ∧ wr.drew.rangeAt g (p * 4) cx := ⟨l1, l2⟩
     go_wp2_with fail
     refine wp_region_until (fun W => W.rangeAt g ((p + 1) * 4) cy ∧ W.rangeAt g (p * 4) cx) 15 (by kernel_rfl) ?_
     refine stq 0 61 ?_ HC0 ?_ ?_
     rotate_left
     ·(intro W _; go_simp; try (with_reducible rfl))
     go_frame
     refine stq 1 62 ?_ HC0 ?_ ?_
     rotate_left
     ·(intro W _; go_simp; try (with_reducible rfl))
     go_frame
     refine stq 2 63 ?_ HC0 ?_ ?_
     rotate_left
     ·(intro W _; go_simp; try (with_reducible rfl))
     go_frame
     refine stq 3 64 ?_ HC0 ?_ ?_
     rotate_left
     ·(intro W _; go_simp; try (with_reducible rfl))
     go_frame
     refine stq 4 65 ?_ HC0 ?_ ?_
     rotate_left
     ·(intro W _; go_simp; try (with_reducible rfl))
     go_frame
     refine stq 5 66 ?_ HC0 ?_ ?_
     rotate_left
     ·(intro W _; go_simp; try (with_reducible rfl))
     go_frame
     refine stq 6 67 ?_ HC0 ?_ ?_
     rotate_left
     ·(intro W _; go_simp; try (with_reducible rfl))
     go_frame
     refine stq 7 68 ?_ HC0 ?_ ?_
     rotate_left
     ·(intro W _; go_simp; try (with_reducible rfl))
     go_frame
     refine stq 8 69 (.pointer (some ⟨g, (p + 1) * 4, none⟩)) HC0 ?_ ?_
     ·(intro W _; go_simp; try (with_reducible rfl))
     go_frame
     refine stm 9 70 (.agg (List.toArray cy)) HC0 ?_ ?_
     ·refine yieldsIf_load_mid ?_ _ _ rfl g ((p + 1) * 4) ?_ cy _ ?_ Tryz.underlying74 ?_ ?_
      ·kernel_rfl
      ·kernel_rfl
      ·(intro W hSw; exact hSw.1)
      ·rfl
      ·(rw [hlcy]; kernel_rfl)
     go_frame
     refine stq 10 71 ?_ HC0 ?_ ?_
     rotate_left
     ·(intro W _; go_simp; try (with_reducible rfl))
     go_frame
     refine stq 11 72 ?_ HC0 ?_ ?_
     rotate_left
     ·(intro W _; go_simp; try (with_reducible rfl))
     go_frame
     refine stq 12 73 (.pointer (some ⟨g, p * 4, none⟩)) HC0 ?_ ?_
     ·(intro W _; go_simp; try (with_reducible rfl))
     go_frame
     refine stm 13 74 (.agg (List.toArray cx)) HC0 ?_ ?_
     ·refine yieldsIf_load_mid ?_ _ _ rfl g (p * 4) ?_ cx _ ?_ Tryz.underlying74 ?_ ?_
      ·kernel_rfl
      ·kernel_rfl
      ·(intro W hSw; exact hSw.2)
      ·rfl
      ·(rw [hlcx]; kernel_rfl)
     go_frame
     refine stq 14 75 (.pointer (some ⟨g, p * 4, none⟩)) HC0 ?_ ?_
     ·(intro W _; go_simp; try (with_reducible rfl))
     go_frame
     refine stst 15 74 (.tmp 75) (.tmp 70) (.pointer (some ⟨g, p * 4, none⟩)) (.agg (List.toArray cy)) s1 ?_
     simp only [Act.put]
     refine stx 16 76 (.pointer (some ⟨g, (p + 1) * 4, none⟩)) ?_ ?_
     ·(go_simp; try (with_reducible rfl))
     go_frame
     refine stst 17 74 (.tmp 76) (.tmp 74) (.pointer (some ⟨g, (p + 1) * 4, none⟩)) (.agg (List.toArray cx)) s2 ?_
     simp only [Act.put]
     refine anyM_done (by kernel_rfl) ?_ _
     go_wp2_with fail
     go_roundg (q - (t + 1))
     case rel => exact ⟨t + 1, by rw [← Nat.add_assoc, HPN.out]; go_num, by omega, rfl, HS2.out, HG5.out⟩
     case measure => omega
    ·obtain rfl : t = q := by omega
     have hw1 : IntKind.i64.wrap ((il : Int) - 1) = (il : Int) - 1 := by rw [IntKind.wrap_i64]; omega
     have hcnd : ¬ (((a + t : Nat) : Int) < (il : Int) - 1) := by have := HIQ.out; omega
     obtain ⟨p, hp⟩ : ∃ p, a + t = p := ⟨_, rfl⟩
     rw [hp] at hcnd ⊢
     clear hp
     go_wp2_with fail
     refine bodyPost_ret (results_none rfl _ _ _) rfl ?_
     refine ⟨rfl, _, HP1.out.2.1, HP1.out.1, ?_, HG.out⟩
     have := HS.out
     unfold Stb.ins at this
     simpa using this

theorem stCp_sym2 {α : Type} (E : Enc α) (hE : E.k = 4) {lt : α → α → Prop} {neg : α → α → Bool} (O : Stb.Ord lt) (c : FuncId) (lb : Array Value) (eg : ∀ args w, (callFunc c args).run Tryz.prog w = .ok (.enter c args) w) (dom : α → Prop) (w0 : World) (B g cap n : Nat) (HC : CmpOk E w0 g c lb dom neg)
  (A U R : List α) (x : α) (w : World) (hw0 : w0.grownBy w (some g)) (h : SRow E w B 74 g cap n (A ++ (U ++ x :: R))) (hn : n ≤ 1000000) (a m b : Nat) (ha : a = A.length) (hm : m = a + U.length) (hb : b = m + 1) (hU0 : 1 < U.length) (sU : U.Pairwise lt) (hX : ∀ y, y ∈ U → Stb.Fit lt neg y x) (hdx : dom x) (hd : ∀ y, y ∈ U → dom y) :
  Calls Tryz.prog 222 #[.slice (some ⟨g, 0, none⟩) n cap, .int .i64 a, .int .i64 m, .int .i64 b, .func (.func c) #[] lb] w fun e w' => e = .returned (.tuple #[]) ∧ ∃ M, List.Perm M (U ++ [x]) ∧ M.Pairwise lt ∧ SRow E w' B 74 g cap n (A ++ (M ++ R)) ∧ w.grownBy w' (some g) := by
 have hsz : (Tryz.prog.info? 74).map (·.size) = some E.k := by rw [hE]; kernel_rfl
 have HSZ := Lib.hid hsz; have HEK := Lib.hid hE
 have hl := h.len
 simp only [List.length_append, List.length_cons, List.length_nil] at hl
 have HA := Lib.hid ha; have HM := Lib.hid hm; have HBE := Lib.hid hb; have HW0 := Lib.hid hw0; have HCC0 := Lib.hid HC; have H0 := Lib.hid h
 have HX := Lib.hid hX; have HD := Lib.hid hd; have HDX := Lib.hid hdx; have HSU := Lib.hid sU; have HU0 := Lib.hid hU0
 have hbn : b ≤ n := by omega
 have hmn : m < n := by omega
 have han : a ≤ m := by omega
 have hma : ((m : Int) - (a : Int) == 1) = false := by rw [beq_eq_false_iff_ne]; omega
 have hmb : (b : Int) - (m : Int) = 1 := by omega
 have HPL := Lib.hid (fun q => Stb.placed_in (q := q) O sU (x := x))
 clear hsz hl ha hm hb hw0 h HC hE hX hd hdx sU hU0
 go_enter Tryz.func222, Tryz.ntmps222
 go_wp2_with fail
 go_loopg [14, 15] (m - a) (fun gk s14 s15 wr => ∃ (il jl : Nat), s14 = .int .i64 il ∧ s15 = .int .i64 jl ∧ a ≤ il ∧ il ≤ jl ∧ jl ≤ m ∧ gk = 0 + (jl - il) ∧ (∀ t s, t < il - a → U[t]? = some s → lt s x) ∧ (∀ t s, jl - a ≤ t → U[t]? = some s → lt x s) ∧ SRow E wr B 74 g cap n (A ++ (U ++ x :: R)) ∧ w.grownBy wr (some g))
 case atStart => exact ⟨a, m, rfl, rfl, Nat.le_refl _, han, Nat.le_refl _, by omega, fun t s ht => by omega, fun t s ht hs => by (have := (List.getElem?_eq_some_iff.1 hs).1; have := HM.out; omega), H0.out, World.grownBy.refl _ _⟩
 case round =>
  obtain ⟨il, jl, rfl, rfl, hil, hij, hjl, rfl, hlow, hup, hS, hG⟩ := hrel
  have HS := Lib.hid hS; have HG := Lib.hid hG; have HLOW := Lib.hid hlow; have HUP := Lib.hid hup
  clear hS hG hlow hup
  by_cases hlt : il < jl
  ·have hlt1 : (il : Int) < (jl : Int) := by omega
   obtain ⟨h, hh⟩ : ∃ h, (il + jl) / 2 = h := ⟨_, rfl⟩
   have hh1 : ((il : Int) + (jl : Int)) / 2 = (h : Int) := by omega
   have hih : il ≤ h := by omega
   have hhj : h < jl := by omega
   have HM2 := HM.out
   have hhv : h - a < U.length := by omega
   obtain ⟨y, hy⟩ : ∃ y, U[h - a]? = some y := ⟨_, List.getElem?_eq_getElem hhv⟩
   have hyU := List.mem_of_getElem? hy
   have hfit := HX.out y hyU
   have px : (A ++ (U ++ x :: R))[m]? = some x := by
    rw [← List.append_assoc]
    exact at_mid (A ++ U) R x m (by rw [List.length_append]; have := HA.out; omega)
   have py : (A ++ (U ++ x :: R))[h]? = some y := by
    have := Stb.at_F (A := A) (U := U) (R := x :: R) hhv
    rw [hy] at this
    rw [← this]
    congr 1
    have := HA.out; omega
   have hSd := HS.out.drew
   have l1 := hSd.range px
   have l2 := hSd.range py
   have hlcx := E.len x; have hlcy := E.len y
   have hcc := HCC0.out wr.drew x y HDX.out (HD.out y hyU) (HW0.out.trans (grown_dn HG.out (World.grownBy.refl _ _)))
   rw [HEK.out] at l1 l2 hlcx hlcy
   generalize E.cells x = cx at *
   generalize E.cells y = cy at *
   have HCC := Lib.hid hcc
   have HFIT := Lib.hid hfit; have HY := Lib.hid hy
   have HHE := Lib.hid hh
   have i0 : (h : Int) < (n : Int) := by omega
   have i1 : (m : Int) < (n : Int) := by omega
   clear hcc hSd px py hfit hyU hy hhv HM2 hh
   have HC0 : wr.drew.rangeAt g (m * 4) cx ∧ wr.drew.rangeAt g (h * 4) cy := ⟨l1, l2⟩
   go_wp2_with fail
   cases hn1 : neg x y
   ·refine wp_region_until (fun W => W.rangeAt g (m * 4) cx ∧ W.rangeAt g (h * 4) cy) 9 (by kernel_rfl) ?_
    refine stq 0 92 ?_ HC0 ?_ ?_
    rotate_left
    ·(intro W _; go_simp; try (with_reducible rfl))
    go_frame
    refine stq 1 93 ?_ HC0 ?_ ?_
    rotate_left
    ·(intro W _; go_simp; try (with_reducible rfl))
    go_frame
    refine stq 2 94 ?_ HC0 ?_ ?_
    rotate_left
    ·(intro W _; go_simp; try (with_reducible rfl))
    go_frame
    refine stq 3 95 (.pointer (some ⟨g, m * 4, none⟩)) HC0 ?_ ?_
    ·(intro W _; go_simp; try (with_reducible rfl))
    go_frame
    refine stm 4 96 (.agg (List.toArray cx)) HC0 ?_ ?_
    ·refine yieldsIf_load_mid ?_ _ _ rfl g (m * 4) ?_ cx _ ?_ Tryz.underlying74 ?_ ?_
     ·kernel_rfl
     ·kernel_rfl
     ·(intro W hSw; exact hSw.1)
     ·rfl
     ·(rw [hlcx]; kernel_rfl)
    go_frame
    refine stq 5 97 ?_ HC0 ?_ ?_
    rotate_left
    ·(intro W _; go_simp; try (with_reducible rfl))
    go_frame
    refine stq 6 98 ?_ HC0 ?_ ?_
    rotate_left
    ·(intro W _; go_simp; try (with_reducible rfl))
    go_frame
    refine stq 7 99 (.pointer (some ⟨g, h * 4, none⟩)) HC0 ?_ ?_
    ·(intro W _; go_simp; try (with_reducible rfl))
    go_frame
    refine stm 8 100 (.agg (List.toArray cy)) HC0 ?_ ?_
    ·refine yieldsIf_load_mid ?_ _ _ rfl g (h * 4) ?_ cy _ ?_ Tryz.underlying74 ?_ ?_
     ·kernel_rfl
     ·kernel_rfl
     ·(intro W hSw; exact hSw.2)
     ·rfl
     ·(rw [hlcy]; kernel_rfl)
    go_frame
    refine anyM_ready (rs := [9]) (by kernel_rfl) (by simp) ?_
    apply ReadyM.cons
    ·rfl
    rotate_left
    ·exact ReadyM.nil
    intro K hK
    refine if_wanted ?_ ?_
    ·kernel_rfl
    go_simp
    refine HCC.out.mono ?_
    rintro e w5 ⟨r, rfl, hr, hB5⟩
    refine hK.out _ _ (fun h => absurd h (by simp)) ?_
    clear hK K
    try go_frame
    have hr0 : ¬ r < 0 := by rw [hn1] at hr; simpa using hr
    refine stx 10 102 ?_ ?_ ?_
    rotate_left
    ·(go_simp; try (with_reducible rfl))
    go_frame
    refine stx 11 103 ?_ ?_ ?_
    rotate_left
    ·(go_simp; try (with_reducible rfl))
    go_frame
    refine anyM_done (by kernel_rfl) ?_ _
    go_wp2_with fail
    go_roundg (0 + (jl - (h + 1)))
    case rel =>
     refine ⟨h + 1, jl, by go_num, rfl, by omega, by omega, hjl, rfl, fun t s ht hs => ?_, HUP.out, HS.out.drew.keep hB5, grown_below (grown_dn HG.out (World.grownBy.refl _ _)) hB5⟩
     have hyx := HFIT.out.2 hn1
     by_cases e : t = h - a
     ·subst e; have := HY.out; rw [hs] at this; cases this; exact hyx
     ·exact O.tr _ _ _ (Stb.sorted_at HSU.out hs HY.out (by omega)) hyx
    case measure => omega
   ·refine wp_region_until (fun W => W.rangeAt g (m * 4) cx ∧ W.rangeAt g (h * 4) cy) 9 (by kernel_rfl) ?_
    refine stq 0 92 ?_ HC0 ?_ ?_
    rotate_left
    ·(intro W _; go_simp; try (with_reducible rfl))
    go_frame
    refine stq 1 93 ?_ HC0 ?_ ?_
    rotate_left
    ·(intro W _; go_simp; try (with_reducible rfl))
    go_frame
    refine stq 2 94 ?_ HC0 ?_ ?_
    rotate_left
    ·(intro W _; go_simp; try (with_reducible rfl))
    go_frame
    refine stq 3 95 (.pointer (some ⟨g, m * 4, none⟩)) HC0 ?_ ?_
    ·(intro W _; go_simp; try (with_reducible rfl))
    go_frame
    refine stm 4 96 (.agg (List.toArray cx)) HC0 ?_ ?_
    ·refine yieldsIf_load_mid ?_ _ _ rfl g (m * 4) ?_ cx _ ?_ Tryz.underlying74 ?_ ?_
     ·kernel_rfl
     ·kernel_rfl
     ·(intro W hSw; exact hSw.1)
     ·rfl
     ·(rw [hlcx]; kernel_rfl)
    go_frame
    refine stq 5 97 ?_ HC0 ?_ ?_
    rotate_left
    ·(intro W _; go_simp; try (with_reducible rfl))
    go_frame
    refine stq 6 98 ?_ HC0 ?_ ?_
    rotate_left
    ·(intro W _; go_simp; try (with_reducible rfl))
    go_frame
    refine stq 7 99 (.pointer (some ⟨g, h * 4, none⟩)) HC0 ?_ ?_
    ·(intro W _; go_simp; try (with_reducible rfl))
    go_frame
    refine stm 8 100 (.agg (List.toArray cy)) HC0 ?_ ?_
    ·refine yieldsIf_load_mid ?_ _ _ rfl g (h * 4) ?_ cy _ ?_ Tryz.underlying74 ?_ ?_
     ·kernel_rfl
     ·kernel_rfl
     ·(intro W hSw; exact hSw.2)
     ·rfl
     ·(rw [hlcy]; kernel_rfl)
    go_frame
    refine anyM_ready (rs := [9]) (by kernel_rfl) (by simp) ?_
    apply ReadyM.cons
    ·rfl
    rotate_left
    ·exact ReadyM.nil
    intro K hK
    refine if_wanted ?_ ?_
    ·kernel_rfl
    go_simp
    refine HCC.out.mono ?_
    rintro e w5 ⟨r, rfl, hr, hB5⟩
    refine hK.out _ _ (fun h => absurd h (by simp)) ?_
    clear hK K
    try go_frame
    have hr0 : r < 0 := by rw [hn1] at hr; simpa using hr
    refine stx 10 102 ?_ ?_ ?_
    rotate_left
    ·(go_simp; try (with_reducible rfl))
    go_frame
    refine stx 11 103 ?_ ?_ ?_
    rotate_left
    ·(go_simp; try (with_reducible rfl))
    go_frame
    refine anyM_done (by kernel_rfl) ?_ _
    go_wp2_with fail
    go_roundg (0 + (h - il))
    case rel =>
     refine ⟨il, h, rfl, rfl, hil, hih, by omega, rfl, HLOW.out, fun t s ht hs => ?_, HS.out.drew.keep hB5, grown_below (grown_dn HG.out (World.grownBy.refl _ _)) hB5⟩
     have hxy := HFIT.out.1 hn1
     by_cases e : t = h - a
     ·subst e; have := HY.out; rw [hs] at this; cases this; exact hxy
     ·exact O.tr _ _ _ hxy (Stb.sorted_at HSU.out HY.out hs (by omega))
    case measure => omega
  ·obtain rfl : il = jl := by omega
   have hlt1 : ¬ ((il : Int) < (il : Int)) := by omega
   have HP1 := Lib.hid (HPL.out (il - a) HLOW.out HUP.out)
   obtain ⟨q, hqq⟩ : ∃ q, il - a = q := ⟨_, rfl⟩
   rw [hqq] at HP1
   have hiq : il = a + q := by omega
   obtain ⟨ul, hul⟩ : ∃ ul, U.length = ul := ⟨_, rfl⟩
   have hmu : m = a + ul := by have := HM.out; omega
   have hqu : q ≤ ul := by omega
   have HIQ := Lib.hid hiq; have HQU := Lib.hid hqu; have HMU := Lib.hid hmu; have HUL := Lib.hid hul
   have H3 : Hid (SRow E wr B 74 g cap n (Stb.ins A U ul x R)) := Lib.hid (by rw [← hul, Stb.ins_last]; exact HS.out)
   clear hqq hiq hqu hmu hul
   go_wp2_with fail
   go_loopg [17] ul (fun gk s17 wr => ∃ t : Nat, s17 = .int .i64 ((a + t : Nat) : Int) ∧ q ≤ t ∧ t ≤ ul ∧ gk = 0 + t ∧ SRow E wr B 74 g cap n (Stb.ins A U t x R) ∧ w.grownBy wr (some g))
   case atStart => exact ⟨ul, by rw [HMU.out], HQU.out, Nat.le_refl _, by omega, H3.out, HG.out⟩
   case round =>
    clear HS HG H3
    obtain ⟨t, rfl, hqt, ht, rfl, hS, hG⟩ := hrel
    have HS := Lib.hid hS; have HG := Lib.hid hG
    clear hS hG
    by_cases htq : q < t
    ·obtain ⟨t, rfl⟩ : ∃ t', t = t' + 1 := ⟨t - 1, by omega⟩
     obtain ⟨p, hp⟩ : ∃ p, a + t = p := ⟨_, rfl⟩
     have ep : (((a + (t + 1) : Nat) : Int)) = (p : Int) + 1 := by omega
     rw [ep]
     have hcnd : (il : Int) < (p : Int) + 1 := by have := HIQ.out; omega
     have htU : t < U.length := by have := HUL.out; omega
     obtain ⟨y, hy⟩ : ∃ y, U[t]? = some y := ⟨_, List.getElem?_eq_getElem htU⟩
     have px := Stb.ins_at (A := A) (C := R) (x := x) (show t + 1 ≤ U.length by omega)
     have py := Stb.ins_prev (A := A) (C := R) (x := x) hy
     have hsw := Stb.ins_left (A := A) (C := R) (x := x) hy
     rw [← HA.out, ← Nat.add_assoc, hp] at px
     rw [← HA.out, hp] at py hsw
     have hSd := HS.out.drew
     have hpn : p + 1 < n := by
      have := (List.getElem?_eq_some_iff.1 px).1
      have := HS.out.len
      omega
     obtain ⟨w1, s1, hS1, hG1⟩ := hSd.store (P := Tryz.prog) (p := p + 1) hpn y HSZ.out
     obtain ⟨w2, s2, hS2, hG2⟩ := hS1.store (P := Tryz.prog) (p := p) (by omega) x HSZ.out
     rw [hsw] at hS2
     have HS2 := Lib.hid hS2
     have HG5 := Lib.hid (grown_dn HG.out (hG1.trans hG2))
     have l1 := hSd.range px
     have l2 := hSd.range py
     have hlcx := E.len x; have hlcy := E.len y
     unfold Enc.val at s1 s2
     rw [HEK.out] at l1 l2 s1 s2 hlcx hlcy
     generalize E.cells x = cx at *
     generalize E.cells y = cy at *
     have HPN := Lib.hid hp
     have i0 : (0 : Int) ≤ (p : Int) + 1 := by omega
     have i1 : (p : Int) + 1 < (n : Int) := by omega
     have i2 : ((p : Int) + 1).toNat = p + 1 := by omega
     have i3 : (p : Int) < (n : Int) := by omega
     have ew : IntKind.i64.wrap (p : Int) = (p : Int) := by rw [IntKind.wrap_i64]; omega
     clear hp hy px py hsw hSd hS1 hS2 hG1 hG2 htU ep
     have HC0 : wr.drew.rangeAt g ((p + 1) * 4) cx ∧ wr.drew.rangeAt g (p * 4) cy := ⟨l1, l2⟩
     go_wp2_with fail
     refine wp_region_until (fun W => W.rangeAt g ((p + 1) * 4) cx ∧ W.rangeAt g (p * 4) cy) 15 (by kernel_rfl) ?_
     refine stq 0 113 ?_ HC0 ?_ ?_
     rotate_left
     ·(intro W _; go_simp; try (with_reducible rfl))
     go_frame
     refine stq 1 114 ?_ HC0 ?_ ?_
     rotate_left
     ·(intro W _; go_simp; try (with_reducible rfl))
     go_frame
     refine stq 2 115 ?_ HC0 ?_ ?_
     rotate_left
     ·(intro W _; go_simp; try (with_reducible rfl))
     go_frame
     refine stq 3 116 ?_ HC0 ?_ ?_
     rotate_left
     ·(intro W _; go_simp; try (with_reducible rfl))
     go_frame
     refine stq 4 117 ?_ HC0 ?_ ?_
     rotate_left
     ·(intro W _; go_simp; try (with_reducible rfl))
     go_frame
     refine stq 5 118 ?_ HC0 ?_ ?_
     rotate_left
     ·(intro W _; go_simp; try (with_reducible rfl))
     go_frame
     refine stq 6 119 ?_ HC0 ?_ ?_
     rotate_left
     ·(intro W _; go_simp; try (with_reducible rfl))
     go_frame
     refine stq 7 120 ?_ HC0 ?_ ?_
     rotate_left
     ·(intro W _; go_simp; try (with_reducible rfl))
     go_frame
     refine stq 8 121 (.pointer (some ⟨g, p * 4, none⟩)) HC0 ?_ ?_
     ·(intro W _; go_simp; try (with_reducible rfl))
     go_frame
     refine stm 9 122 (.agg (List.toArray cy)) HC0 ?_ ?_
     ·refine yieldsIf_load_mid ?_ _ _ rfl g (p * 4) ?_ cy _ ?_ Tryz.underlying74 ?_ ?_
      ·kernel_rfl
      ·kernel_rfl
      ·(intro W hSw; exact hSw.2)
      ·rfl
      ·(rw [hlcy]; kernel_rfl)
     go_frame
     refine stq 10 123 ?_ HC0 ?_ ?_
     rotate_left
     ·(intro W _; go_simp; try (with_reducible rfl))
     go_frame
     refine stq 11 124 ?_ HC0 ?_ ?_
     rotate_left
     ·(intro W _; go_simp; try (with_reducible rfl))
     go_frame
     refine stq 12 125 (.pointer (some ⟨g, (p + 1) * 4, none⟩)) HC0 ?_ ?_
     ·(intro W _; go_simp; try (with_reducible rfl))
     go_frame
     refine stm 13 126 (.agg (List.toArray cx)) HC0 ?_ ?_
     ·refine yieldsIf_load_mid ?_ _ _ rfl g ((p + 1) * 4) ?_ cx _ ?_ Tryz.underlying74 ?_ ?_
      ·kernel_rfl
      ·kernel_rfl
      ·(intro W hSw; exact hSw.1)
      ·rfl
      ·(rw [hlcx]; kernel_rfl)
     go_frame
     refine stq 14 127 (.pointer (some ⟨g, (p + 1) * 4, none⟩)) HC0 ?_ ?_
     ·(intro W _; go_simp; try (with_reducible rfl))
     go_frame
     refine stst 15 74 (.tmp 127) (.tmp 122) (.pointer (some ⟨g, (p + 1) * 4, none⟩)) (.agg (List.toArray cy)) s1 ?_
     simp only [Act.put]
     refine stx 16 128 (.pointer (some ⟨g, p * 4, none⟩)) ?_ ?_
     ·(go_simp; try (with_reducible rfl))
     go_frame
     refine stst 17 74 (.tmp 128) (.tmp 126) (.pointer (some ⟨g, p * 4, none⟩)) (.agg (List.toArray cx)) s2 ?_
     simp only [Act.put]
     refine anyM_done (by kernel_rfl) ?_ _
     go_wp2_with fail
     go_roundg (0 + t)
     case rel => exact ⟨t, by rw [HPN.out], by omega, by omega, rfl, HS2.out, HG5.out⟩
     case measure => omega
    ·obtain rfl : t = q := by omega
     have hcnd : ¬ ((il : Int) < ((a + t : Nat) : Int)) := by have := HIQ.out; omega
     obtain ⟨p, hp⟩ : ∃ p, a + t = p := ⟨_, rfl⟩
     rw [hp] at hcnd ⊢
     clear hp
     go_wp2_with fail
     refine bodyPost_ret (results_none rfl _ _ _) rfl ?_
     refine ⟨rfl, _, HP1.out.2.2, HP1.out.1, ?_, HG.out⟩
     have := HS.out
     unfold Stb.ins at this
     simpa using this

theorem stCp_symN {α : Type} (E : Enc α) (hE : E.k = 4) {lt : α → α → Prop} {neg : α → α → Bool} (O : Stb.Ord lt) (c : FuncId) (lb : Array Value) (eg : ∀ args w, (callFunc c args).run Tryz.prog w = .ok (.enter c args) w) (dom : α → Prop) (w0 : World) (B g cap n : Nat) (HC : CmpOk E w0 g c lb dom neg)
  (A U V R : List α) (w : World) (hw0 : w0.grownBy w (some g)) (h : SRow E w B 74 g cap n (A ++ (U ++ (V ++ R)))) (hn : n ≤ 1000000) (a m b : Nat) (ha : a = A.length) (hm : m = a + U.length) (hb : b = m + V.length) (hU0 : 1 < U.length) (hV0 : 1 < V.length) (sU : U.Pairwise lt) (sV : V.Pairwise lt) (hX : Stb.Cross lt neg U V) (hdu : ∀ y, y ∈ U → dom y) (hdv : ∀ y, y ∈ V → dom y)
  (ih : ∀ (A U' V' R : List α) (w : World), w0.grownBy w (some g) → SRow E w B 74 g cap n (A ++ (U' ++ (V' ++ R))) → ∀ (a m b : Nat), a = A.length → m = a + U'.length → b = m + V'.length → 0 < U'.length → 0 < V'.length → U'.length + V'.length < U.length + V.length → U'.Pairwise lt → V'.Pairwise lt → Stb.Cross lt neg U' V' → (∀ y, y ∈ U' → dom y) → (∀ y, y ∈ V' → dom y) →
   Calls Tryz.prog 222 #[.slice (some ⟨g, 0, none⟩) n cap, .int .i64 a, .int .i64 m, .int .i64 b, .func (.func c) #[] lb] w fun e w' => e = .returned (.tuple #[]) ∧ ∃ M, List.Perm M (U' ++ V') ∧ M.Pairwise lt ∧ SRow E w' B 74 g cap n (A ++ (M ++ R)) ∧ w.grownBy w' (some g)) :
  Calls Tryz.prog 222 #[.slice (some ⟨g, 0, none⟩) n cap, .int .i64 a, .int .i64 m, .int .i64 b, .func (.func c) #[] lb] w fun e w' => e = .returned (.tuple #[]) ∧ ∃ M, List.Perm M (U ++ V) ∧ M.Pairwise lt ∧ SRow E w' B 74 g cap n (A ++ (M ++ R)) ∧ w.grownBy w' (some g) := by
 have hsz : (Tryz.prog.info? 74).map (·.size) = some E.k := by rw [hE]; kernel_rfl
 have HSZ := Lib.hid hsz; have HEK := Lib.hid hE
 have hl := h.len
 simp only [List.length_append, List.length_cons, List.length_nil] at hl
 have HA := Lib.hid ha; have HM := Lib.hid hm; have HBE := Lib.hid hb; have HW0 := Lib.hid hw0; have HCC0 := Lib.hid HC; have H0 := Lib.hid h
 have HX := Lib.hid hX; have HDU := Lib.hid hdu; have HDV := Lib.hid hdv; have HSU := Lib.hid sU; have HSV := Lib.hid sV; have HU0 := Lib.hid hU0; have HV0 := Lib.hid hV0; have HIH := Lib.hid ih
 have HROT := Lib.hid (fun (A U V R : List α) (w : World) (h : SRow E w B 74 g cap n (A ++ (U ++ (V ++ R)))) (a m b : Nat) (ha : a = A.length) (hm : m = a + U.length) (hb : b = m + V.length) (hU : 0 < U.length) (hV : 0 < V.length) => stCp_rotate E hE B g cap n A U V R w h hn a m b ha hm hb hU hV (.func (.func c) #[] lb))
 obtain ⟨mid, hmid⟩ : ∃ mid, (a + b) / 2 = mid := ⟨_, rfl⟩
 obtain ⟨nn, hnn⟩ : ∃ nn, mid + m = nn := ⟨_, rfl⟩
 have hbn : b ≤ n := by omega
 have hmn : m ≤ n := by omega
 have han : a ≤ n := by omega
 have hma : ((m : Int) - (a : Int) == 1) = false := by rw [beq_eq_false_iff_ne]; omega
 have hmb : ((b : Int) - (m : Int) == 1) = false := by rw [beq_eq_false_iff_ne]; omega
 have hmid1 : ((a : Int) + (b : Int)) / 2 = (mid : Int) := by omega
 have hnn1 : (mid : Int) + (m : Int) = (nn : Int) := by omega
 have hmidn : mid ≤ n := by omega
 have hnnn : nn ≤ n + n := by omega
 have hnn2 : 2 ≤ nn := by omega
 have hp1 : (nn : Int) - 1 = ((nn - 1 : Nat) : Int) := by omega
 have HMID := Lib.hid hmid; have HNN := Lib.hid hnn
 have HAMB : Hid (a + 2 ≤ m ∧ m + 2 ≤ b) := Lib.hid (by omega)
 obtain ⟨p, hp⟩ : ∃ p, nn - 1 = p := ⟨_, rfl⟩
 rw [hp] at hp1
 have HP := Lib.hid hp
 have hpn : p ≤ n + n := by omega
 clear hsz hl ha hm hb hw0 h HC hE hX hdu hdv sU sV hU0 hV0 ih hmid hnn hp
 go_enter Tryz.func222, Tryz.ntmps222
 go_upto_if 140 with fail
 go_cut [20, 21] from 25 (fun s20 s21 w' => ∃ lo hi : Nat, s20 = .int .i64 lo ∧ s21 = .int .i64 hi ∧ Hid (a ≤ lo ∧ lo ≤ hi ∧ hi ≤ m ∧ (∀ t, lo ≤ t → t < hi → m + t ≤ p ∧ p < b + t) ∧ (∀ s, s ≤ hi → s < m → m + s < nn → s < hi) ∧ (∀ s, lo ≤ s → a < s → nn < b + s → lo < s) ∧ nn ≤ b + lo ∧ hi + m ≤ nn) ∧ w = w')
 case first =>
  by_cases hc : mid < m
  ·have hc1 : (mid : Int) < (m : Int) := by omega
   have hs : (nn : Int) - (b : Int) = ((nn - b : Nat) : Int) := by have := HAMB.out; have := HMID.out; have := HNN.out; omega
   go_wp2_with fail
   go_meet
   case rel => exact ⟨nn - b, mid, rfl, rfl, Lib.hid (by have := HAMB.out; have := HMID.out; have := HNN.out; have := HP.out; refine ⟨by omega, by omega, by omega, fun t h1 h2 => ⟨by omega, by omega⟩, fun s h1 h2 h3 => by omega, fun s h1 h2 h3 => by omega, by omega, by omega⟩), rfl⟩
  ·have hc1 : ¬ ((mid : Int) < (m : Int)) := by omega
   go_wp2_with fail
   go_meet
   case rel => exact ⟨a, m, rfl, rfl, Lib.hid (by have := HAMB.out; have := HMID.out; have := HNN.out; have := HP.out; refine ⟨by omega, by omega, by omega, fun t h1 h2 => ⟨by omega, by omega⟩, fun s h1 h2 h3 => by omega, fun s h1 h2 h3 => by omega, by omega, by omega⟩), rfl⟩
 case rest =>
 obtain ⟨lo, hi, rfl, rfl, HLH, rfl⟩ := hcut
 have hhin : hi ≤ n := by have := HLH.out.2.2.1; omega
 have hlon : lo ≤ hi := HLH.out.2.1
 go_wp2_with fail
 go_loopg [20, 21] (hi - lo) (fun gk s20 s21 wr => ∃ (sl rl : Nat), s20 = .int .i64 sl ∧ s21 = .int .i64 rl ∧ lo ≤ sl ∧ sl ≤ rl ∧ rl ≤ hi ∧ gk = 0 + (rl - sl) ∧ (∀ t x y, lo ≤ t → t < sl → U[t - a]? = some x → V[p - t - m]? = some y → lt x y) ∧ (∀ t x y, rl ≤ t → t < hi → U[t - a]? = some x → V[p - t - m]? = some y → lt y x) ∧ SRow E wr B 74 g cap n (A ++ (U ++ (V ++ R))) ∧ w.grownBy wr (some g))
 case atStart => exact ⟨lo, hi, rfl, rfl, Nat.le_refl _, hlon, Nat.le_refl _, by omega, fun t x y h1 h2 => by omega, fun t x y h1 h2 => by omega, H0.out, World.grownBy.refl _ _⟩
 case round =>
  obtain ⟨sl, rl, rfl, rfl, hsl, hsr, hrl, rfl, hlow, hup, hS, hG⟩ := hrel
  have HS := Lib.hid hS; have HG := Lib.hid hG; have HLOW := Lib.hid hlow; have HUP := Lib.hid hup
  clear hS hG hlow hup
  by_cases hlt : sl < rl
  ·have hlt1 : (sl : Int) < (rl : Int) := by omega
   obtain ⟨h, hh⟩ : ∃ h, (sl + rl) / 2 = h := ⟨_, rfl⟩
   have hh1 : ((sl : Int) + (rl : Int)) / 2 = (h : Int) := by omega
   have hih : sl ≤ h := by omega
   have hhj : h < rl := by omega
   obtain ⟨q1, q2, q3, q4, q5, q6, q7, q8⟩ := HLH.out
   obtain ⟨r1, r2⟩ := q4 h (by omega) (by omega)
   obtain ⟨e, he⟩ : ∃ e, p - h = e := ⟨_, rfl⟩
   have he1 : (p : Int) - (h : Int) = (e : Int) := by omega
   have hM := HM.out
   have hB := HBE.out
   have hAA := HA.out
   have hu1 : h - a < U.length := by omega
   have hv1 : e - m < V.length := by omega
   obtain ⟨x, hx⟩ : ∃ x, U[h - a]? = some x := ⟨_, List.getElem?_eq_getElem hu1⟩
   obtain ⟨y, hy⟩ : ∃ y, V[e - m]? = some y := ⟨_, List.getElem?_eq_getElem hv1⟩
   have hxU := List.mem_of_getElem? hx
   have hyV := List.mem_of_getElem? hy
   have hfit := HX.out x hxU y hyV
   have px : (A ++ (U ++ (V ++ R)))[h]? = some x := by
    have := Stb.at_F (A := A) (U := U) (R := V ++ R) hu1
    rw [hx] at this
    rw [← this]
    congr 1
    omega
   have py : (A ++ (U ++ (V ++ R)))[e]? = some y := by
    have := Stb.at_S (A := A) (U := U) (S := V) (R := R) hv1
    rw [hy] at this
    rw [← this]
    congr 1
    omega
   have hSd := HS.out.drew
   have l1 := hSd.range py
   have l2 := hSd.range px
   have hlcx := E.len x; have hlcy := E.len y
   have hcc := HCC0.out wr.drew y x (HDV.out y hyV) (HDU.out x hxU) (HW0.out.trans (grown_dn HG.out (World.grownBy.refl _ _)))
   rw [HEK.out] at l1 l2 hlcx hlcy
   generalize E.cells x = cx at *
   generalize E.cells y = cy at *
   have HCC := Lib.hid hcc
   have HFIT := Lib.hid hfit; have HY := Lib.hid hy; have HX1 := Lib.hid hx; have HE := Lib.hid he
   have i0 : (h : Int) < (n : Int) := by omega
   have i1 : (e : Int) < (n : Int) := by omega
   have ew : IntKind.i64.wrap (e : Int) = (e : Int) := by rw [IntKind.wrap_i64]; omega
   have HR12 := Lib.hid (And.intro r1 r2)
   have HSTEP := Lib.hid (fun t (h1 : lo ≤ t) (h2 : t < hi) => q4 t h1 h2)
   clear hcc hSd px py hfit hyV hxU hy hx hu1 hv1 hM hB hAA hh he r1 r2 q1 q2 q3 q4 q5 q6 q7 q8
   have HC0 : wr.drew.rangeAt g (e * 4) cy ∧ wr.drew.rangeAt g (h * 4) cx := ⟨l1, l2⟩
   go_wp2_with fail
   refine wp_region_until (fun W => W.rangeAt g (e * 4) cy ∧ W.rangeAt g (h * 4) cx) 11 (by kernel_rfl) ?_
   refine stq 0 158 ?_ HC0 ?_ ?_
   rotate_left
   ·(intro W _; go_simp; try (with_reducible rfl))
   go_frame
   refine stq 1 159 ?_ HC0 ?_ ?_
   rotate_left
   ·(intro W _; go_simp; try (with_reducible rfl))
   go_frame
   refine stq 2 160 ?_ HC0 ?_ ?_
   rotate_left
   ·(intro W _; go_simp; try (with_reducible rfl))
   go_frame
   refine stq 3 161 ?_ HC0 ?_ ?_
   rotate_left
   ·(intro W _; go_simp; try (with_reducible rfl))
   go_frame
   refine stq 4 162 ?_ HC0 ?_ ?_
   rotate_left
   ·(intro W _; go_simp; try (with_reducible rfl))
   go_frame
   refine stq 5 163 (.pointer (some ⟨g, e * 4, none⟩)) HC0 ?_ ?_
   ·(intro W _; go_simp; try (with_reducible rfl))
   go_frame
   refine stm 6 164 (.agg (List.toArray cy)) HC0 ?_ ?_
   ·refine yieldsIf_load_mid ?_ _ _ rfl g (e * 4) ?_ cy _ ?_ Tryz.underlying74 ?_ ?_
    ·kernel_rfl
    ·kernel_rfl
    ·(intro W hSw; exact hSw.1)
    ·rfl
    ·(rw [hlcy]; kernel_rfl)
   go_frame
   refine stq 7 165 ?_ HC0 ?_ ?_
   rotate_left
   ·(intro W _; go_simp; try (with_reducible rfl))
   go_frame
   refine stq 8 166 ?_ HC0 ?_ ?_
   rotate_left
   ·(intro W _; go_simp; try (with_reducible rfl))
   go_frame
   refine stq 9 167 (.pointer (some ⟨g, h * 4, none⟩)) HC0 ?_ ?_
   ·(intro W _; go_simp; try (with_reducible rfl))
   go_frame
   refine stm 10 168 (.agg (List.toArray cx)) HC0 ?_ ?_
   ·refine yieldsIf_load_mid ?_ _ _ rfl g (h * 4) ?_ cx _ ?_ Tryz.underlying74 ?_ ?_
    ·kernel_rfl
    ·kernel_rfl
    ·(intro W hSw; exact hSw.2)
    ·rfl
    ·(rw [hlcx]; kernel_rfl)
   go_frame
   refine anyM_ready (rs := [11]) (by kernel_rfl) (by simp) ?_
   apply ReadyM.cons
   ·rfl
   rotate_left
   ·exact ReadyM.nil
   intro K hK
   refine if_wanted ?_ ?_
   ·kernel_rfl
   go_simp
   refine HCC.out.mono ?_
   rintro e w5 ⟨r, rfl, hr, hB5⟩
   refine hK.out _ _ (fun h => absurd h (by simp)) ?_
   clear hK K
   try go_frame
   refine stx 12 170 ?_ ?_ ?_
   rotate_left
   ·(go_simp; try (with_reducible rfl))
   go_frame
   refine stx 13 171 ?_ ?_ ?_
   rotate_left
   ·(go_simp; try (with_reducible rfl))
   go_frame
   refine anyM_done (by kernel_rfl) ?_ _
   cases hn1 : neg y x
   ·have hr0 : ¬ r < 0 := by rw [hn1] at hr; simpa using hr
    go_wp2_with fail
    go_roundg (0 + (rl - (h + 1)))
    case rel =>
     refine ⟨h + 1, rl, by go_num, rfl, by omega, by omega, hrl, rfl, fun t x' y' h1 h2 hx' hy' => ?_, HUP.out, HS.out.drew.keep hB5, grown_below (grown_dn HG.out (World.grownBy.refl _ _)) hB5⟩
     have hxy := HFIT.out.2 hn1
     have := HR12.out; have := HE.out; have := HSTEP.out t h1 (by omega)
     by_cases e1 : t = h
     ·subst e1
      have h3 := HX1.out; rw [hx'] at h3; cases h3
      have h4 := HY.out; rw [← HE.out, hy'] at h4; cases h4
      exact hxy
     ·by_cases e2 : t < sl
      ·exact HLOW.out t x' y' h1 e2 hx' hy'
      ·have g1 : lt x' x := Stb.sorted_at HSU.out hx' HX1.out (by have := HLH.out.1; omega)
       have g2 : lt y y' := Stb.sorted_at HSV.out HY.out hy' (by omega)
       exact O.tr _ _ _ (O.tr _ _ _ g1 hxy) g2
    case measure => omega
   ·have hr0 : r < 0 := by rw [hn1] at hr; simpa using hr
    go_wp2_with fail
    go_roundg (0 + (h - sl))
    case rel =>
     refine ⟨sl, h, rfl, rfl, hsl, hih, by omega, rfl, HLOW.out, fun t x' y' h1 h2 hx' hy' => ?_, HS.out.drew.keep hB5, grown_below (grown_dn HG.out (World.grownBy.refl _ _)) hB5⟩
     have hyx := HFIT.out.1 hn1
     have := HR12.out; have := HE.out; have := HSTEP.out t (by omega) h2
     by_cases e1 : t = h
     ·subst e1
      have h3 := HX1.out; rw [hx'] at h3; cases h3
      have h4 := HY.out; rw [← HE.out, hy'] at h4; cases h4
      exact hyx
     ·have g1 : lt x x' := Stb.sorted_at HSU.out HX1.out hx' (by have := HLH.out.1; omega)
      have g2 : lt y' y := Stb.sorted_at HSV.out hy' HY.out (by omega)
      exact O.tr _ _ _ (O.tr _ _ _ g2 hyx) g1
    case measure => omega
  ·obtain rfl : sl = rl := by omega
   have hlt1 : ¬ ((sl : Int) < (sl : Int)) := by omega
   obtain ⟨q1, q2, q3, q4, q5, q6, q7, q8⟩ := HLH.out
   have hM := HM.out
   have hB := HBE.out
   have hAA := HA.out
   have hNN := HNN.out
   have hMI := HMID.out
   have hPP := HP.out
   have hAMB := HAMB.out
   obtain ⟨en, hen⟩ : ∃ en, nn - sl = en := ⟨_, rfl⟩
   have hsm : sl ≤ m := by omega
   have hme : m ≤ en := by omega
   have heb : en ≤ b := by omega
   have hen1 : (nn : Int) - (sl : Int) = (en : Int) := by omega
   obtain ⟨U1, hU1⟩ : ∃ U1, U.take (sl - a) = U1 := ⟨_, rfl⟩
   obtain ⟨U2, hU2⟩ : ∃ U2, U.drop (sl - a) = U2 := ⟨_, rfl⟩
   obtain ⟨V1, hV1⟩ : ∃ V1, V.take (en - m) = V1 := ⟨_, rfl⟩
   obtain ⟨V2, hV2⟩ : ∃ V2, V.drop (en - m) = V2 := ⟨_, rfl⟩
   have hUU : U1 ++ U2 = U := by rw [← hU1, ← hU2]; exact List.take_append_drop _ _
   have hVV : V1 ++ V2 = V := by rw [← hV1, ← hV2]; exact List.take_append_drop _ _
   have hlU1 : U1.length = sl - a := by rw [← hU1, List.length_take]; omega
   have hlU2 : U2.length = m - sl := by rw [← hU2, List.length_drop]; omega
   have hlV1 : V1.length = en - m := by rw [← hV1, List.length_take]; omega
   have hlV2 : V2.length = b - en := by rw [← hV2, List.length_drop]; omega
   have hx1 : ∀ x, x ∈ V1 → ∀ y, y ∈ U2 → lt x y := by
    rw [← hV1, ← hU2]
    refine Stb.cut_low O HSU.out HSV.out (by omega) fun x y h0 hx hy => ?_
    have hs1 : sl < m := by have := (List.getElem?_eq_some_iff.1 hy).1; omega
    exact HUP.out sl y x (Nat.le_refl _) (q5 sl hrl hs1 (by omega)) hy (by rw [show p - sl - m = en - m - 1 by omega]; exact hx)
   have hx2 : ∀ x, x ∈ U1 → ∀ y, y ∈ V2 → lt x y := by
    rw [← hU1, ← hV2]
    refine Stb.cut_low O HSV.out HSU.out (by omega) fun x y h0 hx hy => ?_
    have hs1 : en < b := by have := (List.getElem?_eq_some_iff.1 hy).1; omega
    have hs2 := q6 sl hsl (by omega) (by omega)
    exact HLOW.out (sl - 1) x y (by omega) (by omega) (by rw [show sl - 1 - a = sl - a - 1 by omega]; exact hx) (by rw [show p - (sl - 1) - m = en - m by omega]; exact hy)
   have H6 : Hid (SRow E wr B 74 g cap n ((A ++ U1) ++ (U2 ++ (V1 ++ (V2 ++ R))))) := Lib.hid (by have := HS.out; rw [← hUU, ← hVV] at this; simpa using this)
   have HLU1 := Lib.hid hlU1; have HLU2 := Lib.hid hlU2; have HLV1 := Lib.hid hlV1; have HLV2 := Lib.hid hlV2
   have HX1 := Lib.hid hx1; have HX2 := Lib.hid hx2
   have hsu := HSU.out
   have hsv := HSV.out
   rw [← hUU, List.pairwise_append] at hsu
   rw [← hVV, List.pairwise_append] at hsv
   have HSU1 := Lib.hid hsu.1; have HSU2 := Lib.hid hsu.2.1; have HSV1 := Lib.hid hsv.1; have HSV2 := Lib.hid hsv.2.1
   have HUU := Lib.hid hUU; have HVV := Lib.hid hVV
   have HEN : Hid (sl ≤ m ∧ m ≤ en ∧ en ≤ b ∧ a ≤ sl ∧ en + sl = mid + m ∧ a + 2 ≤ m ∧ m + 2 ≤ b ∧ 2 * mid ≤ a + b ∧ a + b ≤ 2 * mid + 1) := Lib.hid (by omega)
   have hsln : sl ≤ n := by omega
   have henn : en ≤ n := by omega
   have HC1 : Hid (Stb.Cross lt neg U1 V1) := Lib.hid (HX.out.sub (fun x hx => by rw [← hUU]; exact List.mem_append_left _ hx) (fun x hx => by rw [← hVV]; exact List.mem_append_left _ hx))
   have HC2 : Hid (Stb.Cross lt neg U2 V2) := Lib.hid (HX.out.sub (fun x hx => by rw [← hUU]; exact List.mem_append_right _ hx) (fun x hx => by rw [← hVV]; exact List.mem_append_right _ hx))
   have HD1 := Lib.hid (And.intro (fun y (hy : y ∈ U1) => HDU.out y (by rw [← hUU]; exact List.mem_append_left _ hy)) (fun y (hy : y ∈ V1) => HDV.out y (by rw [← hVV]; exact List.mem_append_left _ hy)))
   have HD2 := Lib.hid (And.intro (fun y (hy : y ∈ U2) => HDU.out y (by rw [← hUU]; exact List.mem_append_right _ hy)) (fun y (hy : y ∈ V2) => HDV.out y (by rw [← hVV]; exact List.mem_append_right _ hy)))
   clear q1 q2 q3 q4 q5 q6 q7 q8 hM hB hAA hNN hMI hPP hAMB hen hsm hme heb hU1 hU2 hV1 hV2 hUU hVV hlU1 hlU2 hlV1 hlV2 hx1 hx2 hsu hsv hsl hrl hsr hlt HLOW HUP hhin hlon hnnn hpn HS hnn1 hmid1 hnn2
   obtain ⟨qa, hqa⟩ : ∃ q : Bool, decide (sl < m ∧ m < en) = q := ⟨_, rfl⟩
   go_upto_region 39 with fail
   go_cut [24, 185] from 178 (fun s24 sq w' => s24 = .int .i64 en ∧ sq = .bool qa ∧ wr = w')
   case first =>
    by_cases c1 : sl < m
    ·have c1' : (sl : Int) < (m : Int) := by omega
     by_cases c2 : m < en
     ·have c2' : (m : Int) < (en : Int) := by omega
      have hq : qa = true := by rw [← hqa]; exact decide_eq_true ⟨c1, c2⟩
      go_wp2_with fail
      go_meet
      case rel => exact ⟨rfl, by rw [hq], rfl⟩
     ·have c2' : ¬ ((m : Int) < (en : Int)) := by omega
      have hq : qa = false := by rw [← hqa]; exact decide_eq_false fun h => c2 h.2
      go_wp2_with fail
      go_meet
      case rel => exact ⟨rfl, by rw [hq], rfl⟩
    ·have c1' : ¬ ((sl : Int) < (m : Int)) := by omega
     have hq : qa = false := by rw [← hqa]; exact decide_eq_false fun h => c1 h.1
     go_wp2_with fail
     go_meet
     case rel => exact ⟨rfl, by rw [hq], rfl⟩
   case rest =>
   obtain ⟨rfl, rfl, rfl⟩ := hcut
   have HQA := Lib.hid hqa; clear hqa
   go_upto_if 185 with fail
   go_cut [24] from 178 (fun s24 w' => s24 = .int .i64 en ∧ SRow E w' B 74 g cap n (A ++ (U1 ++ (V1 ++ (U2 ++ (V2 ++ R))))) ∧ w.grownBy w' (some g))
   case first =>
    cases qa
    ·have hq := of_decide_eq_false HQA.out
     have hv : V1 = [] ∨ U2 = [] := by
      by_cases c1 : sl < m
      ·exact .inl (List.eq_nil_of_length_eq_zero (by rw [HLV1.out]; omega))
      ·exact .inr (List.eq_nil_of_length_eq_zero (by rw [HLU2.out]; omega))
     have HV := Lib.hid hv
     clear hq hv
     go_wp2_with fail
     go_meet
     case rel => exact ⟨rfl, by (have := H6.out; rcases HV.out with hv | hv <;> (rw [hv] at this ⊢; simpa using this)), HG.out⟩
    ·obtain ⟨c1, c2⟩ := of_decide_eq_true HQA.out
     have HR := Lib.hid (HROT.out (A ++ U1) U2 V1 (V2 ++ R) wr H6.out sl m en (by rw [List.length_append, HLU1.out]; have := HEN.out; have := HA.out; omega) (by rw [HLU2.out]; omega) (by rw [HLV1.out]; omega) (by rw [HLU2.out]; omega) (by rw [HLV1.out]; omega))
     clear c1 c2
     go_wp2_with (go_at_call 239; (with_reducible refine HR.out.mono ?_); rintro e w6 ⟨rfl, hS6, hG6⟩; have HS6 := Lib.hid hS6; have HG6 := Lib.hid hG6; clear hS6 hG6)
     go_meet
     case rel => exact ⟨rfl, by (have := HS6.out; simpa using this), HG.out.trans HG6.out⟩
   case rest =>
   obtain ⟨rfl, hS7, hG7⟩ := hcut
   have HS7 := Lib.hid hS7; have HG7 := Lib.hid hG7
   clear hS7 hG7 HG H6
   obtain ⟨qb, hqb⟩ : ∃ q : Bool, decide (a < sl ∧ sl < mid) = q := ⟨_, rfl⟩
   go_upto_region 41 with fail
   go_cut [24, 199] from 192 (fun s24 sq w' => s24 = .int .i64 en ∧ sq = .bool qb ∧ wc = w')
   case first =>
    by_cases c1 : a < sl
    ·have c1' : (a : Int) < (sl : Int) := by omega
     by_cases c2 : sl < mid
     ·have c2' : (sl : Int) < (mid : Int) := by omega
      have hq : qb = true := by rw [← hqb]; exact decide_eq_true ⟨c1, c2⟩
      go_wp2_with fail
      go_meet
      case rel => exact ⟨rfl, by rw [hq], rfl⟩
     ·have c2' : ¬ ((sl : Int) < (mid : Int)) := by omega
      have hq : qb = false := by rw [← hqb]; exact decide_eq_false fun h => c2 h.2
      go_wp2_with fail
      go_meet
      case rel => exact ⟨rfl, by rw [hq], rfl⟩
    ·have c1' : ¬ ((a : Int) < (sl : Int)) := by omega
     have hq : qb = false := by rw [← hqb]; exact decide_eq_false fun h => c1 h.1
     go_wp2_with fail
     go_meet
     case rel => exact ⟨rfl, by rw [hq], rfl⟩
   case rest =>
   obtain ⟨rfl, rfl, rfl⟩ := hcut
   have HQB := Lib.hid hqb; clear hqb
   go_upto_if 199 with fail
   go_cut [24] from 192 (fun s24 w' => s24 = .int .i64 en ∧ ∃ M1, List.Perm M1 (U1 ++ V1) ∧ M1.Pairwise lt ∧ SRow E w' B 74 g cap n (A ++ (M1 ++ (U2 ++ (V2 ++ R)))) ∧ w.grownBy w' (some g))
   case first =>
    cases qb
    ·have hq := of_decide_eq_false HQB.out
     have hv : V1 = [] ∨ U1 = [] := by
      by_cases c1 : a < sl
      ·exact .inl (List.eq_nil_of_length_eq_zero (by rw [HLV1.out]; have := HEN.out; omega))
      ·exact .inr (List.eq_nil_of_length_eq_zero (by rw [HLU1.out]; omega))
     have HV := Lib.hid hv
     clear hq hv
     go_wp2_with fail
     go_meet
     case rel => exact ⟨rfl, U1 ++ V1, List.Perm.refl _, by (rcases HV.out with hv | hv); (rw [hv, List.append_nil]; exact HSU1.out); (rw [hv, List.nil_append]; exact HSV1.out), by (have := HS7.out; simpa using this), HG7.out⟩
    ·obtain ⟨c1, c2⟩ := of_decide_eq_true HQB.out
     have HR := Lib.hid (fun W (hW : wc = W) => HIH.out A U1 V1 (U2 ++ (V2 ++ R)) W (by rw [← hW]; exact HW0.out.trans HG7.out) (by rw [← hW]; exact HS7.out) a sl mid HA.out (by rw [HLU1.out]; omega) (by rw [HLV1.out]; have := HEN.out; omega) (by rw [HLU1.out]; omega) (by rw [HLV1.out]; have := HEN.out; omega) (by rw [HLU1.out, HLV1.out]; have := HEN.out; have := HM.out; have := HBE.out; omega) HSU1.out HSV1.out HC1.out HD1.out.1 HD1.out.2)
     clear c1 c2
     go_wp2_with (go_at_call 222; (with_reducible refine (HR.out _ rfl).mono ?_); rintro e w8 ⟨rfl, M1, hp8, hs8, hS8, hG8⟩; have H8 := Lib.hid (And.intro hp8 (And.intro hs8 (And.intro hS8 hG8))); clear hp8 hs8 hS8 hG8)
     go_meet
     case rel => exact ⟨rfl, M1, H8.out.1, H8.out.2.1, H8.out.2.2.1, HG7.out.trans H8.out.2.2.2⟩
   case rest =>
   obtain ⟨rfl, M1, hp8, hs8, hS8, hG8⟩ := hcut
   have HP8 := Lib.hid hp8; have HS8 := Lib.hid hs8; have HR8 := Lib.hid hS8; have HG8 := Lib.hid hG8
   have HML : Hid (M1.length + a = mid) := Lib.hid (by have := hp8.length_eq; rw [List.length_append, HLU1.out, HLV1.out] at this; have := HEN.out; omega)
   clear hp8 hs8 hS8 hG8 HS7 HG7
   have HFIN := Lib.hid (fun (M2 : List α) (p2 : List.Perm M2 (U2 ++ V2)) (s2 : M2.Pairwise lt) => (by
    have hh := Stb.halves (by rw [HUU.out]; exact HSU.out) (by rw [HVV.out]; exact HSV.out) HX1.out HX2.out HP8.out p2 HS8.out s2
    rw [HUU.out, HVV.out] at hh
    exact hh : List.Perm (M1 ++ M2) (U ++ V) ∧ (M1 ++ M2).Pairwise lt))
   obtain ⟨qc, hqc⟩ : ∃ q : Bool, decide (mid < en ∧ en < b) = q := ⟨_, rfl⟩
   go_upto_region 43 with fail
   go_cut [24, 213] from 206 (fun s24 sq w' => s24 = .int .i64 en ∧ sq = .bool qc ∧ wc = w')
   case first =>
    by_cases c1 : mid < en
    ·have c1' : (mid : Int) < (en : Int) := by omega
     by_cases c2 : en < b
     ·have c2' : (en : Int) < (b : Int) := by omega
      have hq : qc = true := by rw [← hqc]; exact decide_eq_true ⟨c1, c2⟩
      go_wp2_with fail
      go_meet
      case rel => exact ⟨rfl, by rw [hq], rfl⟩
     ·have c2' : ¬ ((en : Int) < (b : Int)) := by omega
      have hq : qc = false := by rw [← hqc]; exact decide_eq_false fun h => c2 h.2
      go_wp2_with fail
      go_meet
      case rel => exact ⟨rfl, by rw [hq], rfl⟩
    ·have c1' : ¬ ((mid : Int) < (en : Int)) := by omega
     have hq : qc = false := by rw [← hqc]; exact decide_eq_false fun h => c1 h.1
     go_wp2_with fail
     go_meet
     case rel => exact ⟨rfl, by rw [hq], rfl⟩
   case rest =>
   obtain ⟨rfl, rfl, rfl⟩ := hcut
   have HQC := Lib.hid hqc; clear hqc
   cases qc
   ·have hq := of_decide_eq_false HQC.out
    have hv : U2 = [] ∨ V2 = [] := by
     by_cases c1 : mid < en
     ·exact .inr (List.eq_nil_of_length_eq_zero (by rw [HLV2.out]; omega))
     ·exact .inl (List.eq_nil_of_length_eq_zero (by rw [HLU2.out]; have := HEN.out; omega))
    have hz := HFIN.out (U2 ++ V2) (List.Perm.refl _) (by (rcases hv with hv | hv); (rw [hv, List.nil_append]; exact HSV2.out); (rw [hv, List.append_nil]; exact HSU2.out))
    have HZ := Lib.hid hz; clear hz hq hv
    go_wp2_with fail
    go_end0
    exact ⟨rfl, M1 ++ (U2 ++ V2), HZ.out.1, HZ.out.2, by (have := HR8.out; simpa using this), HG8.out⟩
   ·obtain ⟨c1, c2⟩ := of_decide_eq_true HQC.out
    have HR := Lib.hid (fun W (hW : wc = W) => HIH.out (A ++ M1) U2 V2 R W (by rw [← hW]; exact HW0.out.trans HG8.out) (by rw [← hW]; have := HR8.out; simpa using this) mid en b (by rw [List.length_append]; have := HML.out; have := HA.out; omega) (by rw [HLU2.out]; have := HEN.out; omega) (by rw [HLV2.out]; have := HEN.out; omega) (by rw [HLU2.out]; have := HEN.out; omega) (by rw [HLV2.out]; omega) (by rw [HLU2.out, HLV2.out]; have := HEN.out; have := HM.out; have := HBE.out; omega) HSU2.out HSV2.out HC2.out HD2.out.1 HD2.out.2)
    clear c1 c2
    go_wp2_with (go_at_call 222; (with_reducible refine (HR.out _ rfl).mono ?_); rintro e w9 ⟨rfl, M2, hp9, hs9, hS9, hG9⟩; have H9 := Lib.hid (And.intro hp9 (And.intro hs9 (And.intro hS9 hG9))); clear hp9 hs9 hS9 hG9)
    go_end0
    exact ⟨rfl, M1 ++ M2, (HFIN.out M2 H9.out.1 H9.out.2.1).1, (HFIN.out M2 H9.out.1 H9.out.2.1).2, by (have := H9.out.2.2.1; simpa using this), HG8.out.trans H9.out.2.2.2⟩

theorem stCp_symMerge {α : Type} (E : Enc α) (hE : E.k = 4) {lt : α → α → Prop} {neg : α → α → Bool} (O : Stb.Ord lt) (c : FuncId) (lb : Array Value) (eg : ∀ args w, (callFunc c args).run Tryz.prog w = .ok (.enter c args) w) (dom : α → Prop) (w0 : World) (B g cap n : Nat) (HC : CmpOk E w0 g c lb dom neg) (hn : n ≤ 1000000) :
  ∀ (N : Nat) (A U V R : List α) (w : World), w0.grownBy w (some g) → SRow E w B 74 g cap n (A ++ (U ++ (V ++ R))) → ∀ (a m b : Nat), a = A.length → m = a + U.length → b = m + V.length → 0 < U.length → 0 < V.length → U.length + V.length ≤ N → U.Pairwise lt → V.Pairwise lt → Stb.Cross lt neg U V → (∀ y, y ∈ U → dom y) → (∀ y, y ∈ V → dom y) →
    Calls Tryz.prog 222 #[.slice (some ⟨g, 0, none⟩) n cap, .int .i64 a, .int .i64 m, .int .i64 b, .func (.func c) #[] lb] w fun e w' => e = .returned (.tuple #[]) ∧ ∃ M, List.Perm M (U ++ V) ∧ M.Pairwise lt ∧ SRow E w' B 74 g cap n (A ++ (M ++ R)) ∧ w.grownBy w' (some g) := by
 intro N
 induction N with
 | zero => intro A U V R w _ _ a m b _ _ _ hu _ hN; omega
 | succ N ih =>
   intro A U V R w hw h a m b ha hm hb hu hv hN sU sV hX hdu hdv
   by_cases h1 : U.length = 1
   ·obtain ⟨x, rfl⟩ := List.length_eq_one_iff.1 h1
    exact stCp_sym1 E hE O c lb eg dom w0 B g cap n HC A V R x w hw h hn a m b ha hm hb hv sV (fun y hy => hX x (by simp) y hy) (hdu x (by simp)) hdv
   ·by_cases h2 : V.length = 1
    ·obtain ⟨x, rfl⟩ := List.length_eq_one_iff.1 h2
     exact stCp_sym2 E hE O c lb eg dom w0 B g cap n HC A U R x w hw h hn a m b ha hm hb (by omega) sU (fun y hy => hX y hy x (by simp)) (hdv x (by simp)) hdu
    ·exact stCp_symN E hE O c lb eg dom w0 B g cap n HC A U V R w hw h hn a m b ha hm hb (by omega) (by omega) sU sV hX hdu hdv
      (fun A' U' V' R' w' hw' h' a' m' b' ha' hm' hb' hu' hv' hN' => ih A' U' V' R' w' hw' h' a' m' b' ha' hm' hb' hu' hv' (by omega))
theorem stCp_stable {α : Type} (E : Enc α) (hE : E.k = 4) {lt : α → α → Prop} {neg : α → α → Bool} (O : Stb.Ord lt) (c : FuncId) (lb : Array Value) (eg : ∀ args w, (callFunc c args).run Tryz.prog w = .ok (.enter c args) w) (dom : α → Prop) (w0 : World) (B g cap n : Nat) (HC : CmpOk E w0 g c lb dom neg) (hn : n ≤ 1000000)
  (L : List α) (w : World) (hw0 : w0.grownBy w (some g)) (h : SRow E w B 74 g cap n L) (hL : L.Pairwise (Stb.Fit lt neg)) (hd : ∀ x, x ∈ L → dom x) :
  Calls Tryz.prog 203 #[.slice (some ⟨g, 0, none⟩) n cap, .int .i64 n, .func (.func c) #[] lb] w fun e w' => e = .returned (.tuple #[]) ∧ ∃ M, List.Perm M L ∧ M.Pairwise lt ∧ SRow E w' B 74 g cap n M ∧ w.grownBy w' (some g) := by
 have hl := h.len
 have HW0 := Lib.hid hw0; have H0 := Lib.hid h; have HLL := Lib.hid hL; have HD := Lib.hid hd; have HLEN := Lib.hid hl
 have HINS := Lib.hid (fun (A X R : List α) (w : World) (hw0 : w0.grownBy w (some g)) (h : SRow E w B 74 g cap n (A ++ (X ++ R))) (a b : Nat) (ha : a = A.length) (hb : b = a + X.length) (hX : X.Pairwise (Stb.Fit lt neg)) (hd : ∀ x, x ∈ X → dom x) => stCp_insertion E hE O c lb eg dom w0 B g cap n HC A X R w hw0 h hn a b ha hb hX hd)
 have HSYM := Lib.hid (fun (N : Nat) => stCp_symMerge E hE O c lb eg dom w0 B g cap n HC hn N)
 clear hl hw0 h hL hd hE HC
 go_enter Tryz.func203, Tryz.ntmps203
 go_wp2_with fail
 go_loopg [7, 8] n (fun gk s7 s8 wr => ∃ (a : Nat) (D : List (List α)) (Z : List α), s7 = .int .i64 a ∧ s8 = .int .i64 ((a : Int) + 20) ∧ a = D.flatten.length ∧ gk = Z.length ∧ a + Z.length = n ∧ List.Perm (D.flatten ++ Z) L ∧ (∀ Y, Y ∈ D → Y.length = 20) ∧ Stb.Chs lt neg D ∧ Stb.Cross lt neg D.flatten Z ∧ Z.Pairwise (Stb.Fit lt neg) ∧ SRow E wr B 74 g cap n (D.flatten ++ Z) ∧ w.grownBy wr (some g))
 case atStart => exact ⟨0, [], L, rfl, by go_num, rfl, HLEN.out.symm, by rw [HLEN.out]; omega, List.Perm.refl _, fun Y hY => (by cases hY), ⟨fun X hX => by (cases hX), List.Pairwise.nil⟩, fun x hx => by (cases hx), HLL.out, H0.out, World.grownBy.refl _ _⟩
 case round =>
  obtain ⟨a, D, Z, rfl, rfl, ha, rfl, haz, hp, hD, hC, hX, hZ, hS, hG⟩ := hrel
  have HA := Lib.hid ha; have HAZ := Lib.hid haz; have HP := Lib.hid hp; have HDD := Lib.hid hD; have HCH := Lib.hid hC; have HX := Lib.hid hX; have HZ := Lib.hid hZ; have HS := Lib.hid hS; have HG := Lib.hid hG
  have han : a ≤ n := by omega
  clear ha haz hp hD hC hX hZ hS hG
  by_cases hlt : a + 20 ≤ n
  ·have hlt1 : (a : Int) + 20 ≤ (n : Int) := by omega
   have hz20 : 20 ≤ Z.length := by have := HAZ.out; omega
   obtain ⟨X, hXe⟩ : ∃ X, Z.take 20 = X := ⟨_, rfl⟩
   obtain ⟨Z', hZe⟩ : ∃ Z', Z.drop 20 = Z' := ⟨_, rfl⟩
   have hXZ : X ++ Z' = Z := by rw [← hXe, ← hZe]; exact List.take_append_drop _ _
   have hXl : X.length = 20 := by rw [← hXe, List.length_take]; omega
   have hZl : Z'.length = Z.length - 20 := by rw [← hZe, List.length_drop]
   have hzp := HZ.out
   rw [← hXZ, List.pairwise_append] at hzp
   have HXZ := Lib.hid hXZ; have HXL := Lib.hid hXl; have HZL := Lib.hid hZl; have HZP := Lib.hid hzp
   have hc := HINS.out D.flatten X Z' wr (HW0.out.trans HG.out) (by rw [hXZ]; exact HS.out) a (a + 20) HA.out (by rw [hXl]) hzp.1 (fun x hx => HD.out x (HP.out.mem_iff.1 (List.mem_append_right _ (by rw [← hXZ]; exact List.mem_append_left _ hx))))
   rw [show ((a + 20 : Nat) : Int) = (a : Int) + 20 by omega] at hc
   have HCI := Lib.hid hc
   clear hc hXe hZe hXZ hXl hZl hzp
   go_wp2_with (go_at_call 221; (with_reducible refine HCI.out.mono ?_); rintro e w4 ⟨rfl, M, hp4, hs4, hS4, hG4⟩)
   have H4 := Lib.hid (And.intro hp4 (And.intro hs4 (And.intro hS4 hG4)))
   clear hp4 hs4 hS4 hG4
   go_roundg (Z.length - 20)
   case rel =>
    obtain ⟨hp4, hs4, hS4, hG4⟩ := H4.out
    have hml : M.length = 20 := by rw [hp4.length_eq, HXL.out]
    have hmz : ∀ x, x ∈ M → x ∈ Z := fun x hx => by rw [← HXZ.out]; exact List.mem_append_left _ (hp4.mem_iff.1 hx)
    refine ⟨a + 20, D ++ [M], Z', by go_num, by go_num, by rw [List.flatten_append, List.length_append, ← HA.out]; simp [hml], by rw [HZL.out], by have := HAZ.out; have := HZL.out; omega, ?_, Stb.snoc_len HDD.out hml, HCH.out.snoc HX.out hmz hs4, ?_, HZP.out.2.1, by simpa using hS4, HG.out.trans hG4⟩
    ·refine List.Perm.trans ?_ HP.out
     rw [← HXZ.out]
     simp only [List.flatten_append, List.flatten_cons, List.flatten_nil, List.append_nil, List.append_assoc]
     exact List.Perm.append_left _ (hp4.append_right _)
    ·intro x hx y hy
     rw [List.flatten_append] at hx
     rcases List.mem_append.1 hx with h | h
     ·exact HX.out x h y (by rw [← HXZ.out]; exact List.mem_append_right _ hy)
     ·have h : x ∈ M := by simpa using h
      exact HZP.out.2.2 x (hp4.mem_iff.1 h) y hy
   case measure => omega
  ·have hlt1 : ¬ ((a : Int) + 20 ≤ (n : Int)) := by omega
   have hc := HINS.out D.flatten Z [] wr (HW0.out.trans HG.out) (by rw [List.append_nil]; exact HS.out) a n HA.out (by have := HAZ.out; omega) HZ.out (fun x hx => HD.out x (HP.out.mem_iff.1 (List.mem_append_right _ hx)))
   have HCI := Lib.hid hc
   have hz20 : Z.length ≤ 20 := by have := HAZ.out; omega
   have HZ20 := Lib.hid hz20
   clear hc hz20
   go_wp2_with (go_at_call 221; (with_reducible refine HCI.out.mono ?_); rintro e w4 ⟨rfl, M, hp4, hs4, hS4, hG4⟩)
   have H5 : Hid (∃ C : List (List α), Stb.Chs lt neg C ∧ Stb.Len 20 C ∧ List.Perm C.flatten L ∧ SRow E w4 B 74 g cap n C.flatten ∧ w.grownBy w4 (some g)) := Lib.hid (by
    have hmz : ∀ x, x ∈ M → x ∈ Z := fun x hx => hp4.mem_iff.1 hx
    refine ⟨D ++ [M], HCH.out.snoc HX.out hmz hs4, Stb.Len.snoc HDD.out (by rw [hp4.length_eq]; exact HZ20.out), ?_, by simpa using hS4, HG.out.trans hG4⟩
    refine List.Perm.trans ?_ HP.out
    simp only [List.flatten_append, List.flatten_cons, List.flatten_nil, List.append_nil]
    exact List.Perm.append_left _ hp4)
   clear hp4 hs4 hS4 hG4 HG HS HP HX HZ HCH HDD HA HAZ HZ20 HCI
   go_loopg [6] (n - 20) (fun gk s6 wr => ∃ (s : Nat) (C : List (List α)), s6 = .int .i64 s ∧ 0 < s ∧ s ≤ 2000020 ∧ gk = n - s ∧ Stb.Chs lt neg C ∧ Stb.Len s C ∧ List.Perm C.flatten L ∧ SRow E wr B 74 g cap n C.flatten ∧ w.grownBy wr (some g))
   case atStart =>
    obtain ⟨C, h1, h2, h3, h4, h5⟩ := H5.out
    exact ⟨20, C, rfl, by omega, by omega, rfl, h1, h2, h3, h4, h5⟩
   case round =>
    clear H5
    obtain ⟨s, C, rfl, hs0, hsb, rfl, hC, hLn, hp, hS, hG⟩ := hrel
    have HCH := Lib.hid hC; have HLN := Lib.hid hLn; have HP := Lib.hid hp; have HS := Lib.hid hS; have HG := Lib.hid hG
    clear hC hLn hp hS hG
    by_cases hsn : s < n
    ·have hsn1 : (s : Int) < (n : Int) := by omega
     go_wp2_with fail
     go_loopg [7, 8] n (fun gk s7 s8 wr => ∃ (a : Nat) (D C' : List (List α)), s7 = .int .i64 a ∧ s8 = .int .i64 ((a + 2 * s : Nat) : Int) ∧ a = D.flatten.length ∧ gk = C'.flatten.length ∧ a + C'.flatten.length = n ∧ (∀ Y, Y ∈ D → Y.length = 2 * s) ∧ Stb.Chs lt neg (D ++ C') ∧ (C' = [] ∨ Stb.Len s C') ∧ List.Perm (D.flatten ++ C'.flatten) L ∧ SRow E wr B 74 g cap n (D.flatten ++ C'.flatten) ∧ w.grownBy wr (some g))
     case atStart => exact ⟨0, [], C, rfl, by go_num, rfl, HS.out.len.symm, by rw [HS.out.len]; omega, fun Y hY => (by cases hY), HCH.out, .inr HLN.out, HP.out, HS.out, HG.out⟩
     case round =>
      clear HS HG HP HCH HLN
      obtain ⟨a, D, C', rfl, rfl, ha, rfl, hac, hDl, hCH, hCL, hp, hS, hG⟩ := hrel
      have HA := Lib.hid ha; have HAC := Lib.hid hac; have HDL := Lib.hid hDl; have HCH := Lib.hid hCH; have HCL := Lib.hid hCL; have HP := Lib.hid hp; have HS := Lib.hid hS; have HG := Lib.hid hG
      have han : a ≤ n := by omega
      obtain ⟨k, hk⟩ : ∃ k, a + s = k := ⟨_, rfl⟩
      obtain ⟨b2, hb2⟩ : ∃ b2, a + 2 * s = b2 := ⟨_, rfl⟩
      have has1 : (a : Int) + (s : Int) = (k : Int) := by omega
      have hkb : k ≤ 4000000 := by omega
      have hbb : b2 ≤ 6000000 := by omega
      rw [hb2]
      have HK := Lib.hid hk; have HB2 := Lib.hid hb2
      clear ha hac hDl hCH hCL hp hS hG hk hb2
      have HSO := Lib.hid (fun (X Y : List α) (C2 : List (List α)) (hc : C' = X :: Y :: C2) (hx : X.length = s) (hy0 : 0 < Y.length) => (by
       subst hc
       obtain ⟨t1, t2, t3⟩ := HCH.out.two
       refine HSYM.out (X.length + Y.length) D.flatten X Y C2.flatten wr (HW0.out.trans HG.out) (by have := HS.out; simpa using this) a k (k + Y.length) HA.out (by rw [hx]; exact HK.out.symm) rfl (by omega) hy0 (Nat.le_refl _) t1 t2 t3 (fun y hy => HD.out y (HP.out.mem_iff.1 ?_)) (fun y hy => HD.out y (HP.out.mem_iff.1 ?_))
       ·simp [hy]
       ·simp [hy] : Calls Tryz.prog 222 #[.slice (some ⟨g, 0, none⟩) n cap, .int .i64 a, .int .i64 k, .int .i64 ((k + Y.length : Nat) : Int), .func (.func c) #[] lb] wr fun e w' => e = .returned (.tuple #[]) ∧ ∃ M, List.Perm M (X ++ Y) ∧ M.Pairwise lt ∧ SRow E w' B 74 g cap n (D.flatten ++ (M ++ C2.flatten)) ∧ wr.grownBy w' (some g)))
      have HPM := Lib.hid (fun (X Y M : List α) (C2 : List (List α)) (hc : C' = X :: Y :: C2) (hp4 : List.Perm M (X ++ Y)) => (by
       refine List.Perm.trans ?_ HP.out
       rw [hc]
       simp only [List.flatten_append, List.flatten_cons, List.flatten_nil, List.append_nil, List.append_assoc]
       exact List.Perm.append_left _ ((hp4.append_right _).trans (by rw [List.append_assoc])) : List.Perm ((D ++ [M]).flatten ++ C2.flatten) L))
      by_cases hlt : b2 ≤ n
      ·have hlt1 : (b2 : Int) ≤ (n : Int) := by omega
       obtain ⟨X, Y, C2, hc, hx, hy, hC2⟩ : ∃ X Y C2, C' = X :: Y :: C2 ∧ X.length = s ∧ Y.length = s ∧ (C2 = [] ∨ Stb.Len s C2) := by
        have hfl : 2 * s ≤ C'.flatten.length := by have := HAC.out; have := HB2.out; omega
        rcases HCL.out with h0 | h0
        ·rw [h0] at hfl; simp at hfl; omega
        ·exact h0.two hfl hs0
       have hcall := HSO.out X Y C2 hc hx (by omega)
       rw [hy, show k + s = b2 by have := HK.out; have := HB2.out; omega] at hcall
       have HCALL := Lib.hid hcall; have HC' := Lib.hid hc; have HXY := Lib.hid (And.intro hx (And.intro hy hC2))
       clear hcall hc hx hy hC2 HSO
       go_wp2_with (go_at_call 222; (with_reducible refine HCALL.out.mono ?_); rintro e w7 ⟨rfl, M, hp7, hs7, hS7, hG7⟩)
       have H7 := Lib.hid (And.intro hp7 (And.intro hs7 (And.intro hS7 hG7)))
       clear hp7 hs7 hS7 hG7
       go_roundg (C'.flatten.length - 2 * s)
       case rel =>
        obtain ⟨hp7, hs7, hS7, hG7⟩ := H7.out
        obtain ⟨hx, hy, hC2⟩ := HXY.out
        have hml : M.length = 2 * s := by rw [hp7.length_eq, List.length_append, hx, hy]; omega
        have hfl : C'.flatten.length = 2 * s + C2.flatten.length := by rw [HC'.out]; simp [hx, hy]; omega
        have hch := HCH.out
        rw [HC'.out] at hch
        exact ⟨b2, D ++ [M], C2, rfl, by go_num, by (have := HB2.out; rw [List.flatten_append, List.length_append, ← HA.out]; simp [hml]; omega), by omega, by (have := HAC.out; have := HB2.out; omega), Stb.snoc_len HDL.out hml, by have := hch.merge hp7 hs7; simpa using this, hC2, HPM.out X Y M C2 HC'.out hp7, by simpa using hS7, HG.out.trans hG7⟩
       case measure => have := HAC.out; have := HB2.out; omega
      ·have hlt1 : ¬ ((b2 : Int) ≤ (n : Int)) := by omega
       by_cases hms : k < n
       ·have hms1 : (k : Int) < (n : Int) := by omega
        obtain ⟨X, Y, hc, hx, hy0, hys⟩ := Stb.Len.rest HCL.out (by have := HAC.out; have := HB2.out; omega) (by have := HAC.out; have := HK.out; omega)
        have hcall := HSO.out X Y [] hc hx hy0
        rw [show k + Y.length = n by (have h0 := HAC.out; rw [hc] at h0; have h1 := HK.out; simp [hx] at h0; omega)] at hcall
        have HCALL := Lib.hid hcall; have HC' := Lib.hid hc; have HXY := Lib.hid (And.intro hx (And.intro hy0 hys))
        clear hcall hc hx hy0 hys HSO
        go_wp2_with (go_at_call 222; (with_reducible refine HCALL.out.mono ?_); rintro e w7 ⟨rfl, M, hp7, hs7, hS7, hG7⟩)
        have H7 := Lib.hid (And.intro hp7 (And.intro hs7 (And.intro hS7 hG7)))
        clear hp7 hs7 hS7 hG7
        go_roundg (n - 2 * s)
        case rel =>
         obtain ⟨hp7, hs7, hS7, hG7⟩ := H7.out
         obtain ⟨hx, hy0, hys⟩ := HXY.out
         have hml : M.length ≤ 2 * s := by rw [hp7.length_eq, List.length_append, hx]; omega
         have hch := HCH.out
         rw [HC'.out] at hch
         have hpm := HPM.out X Y M [] HC'.out hp7
         rw [List.flatten_nil, List.append_nil] at hpm
         exact ⟨2 * s, D ++ [M], by rw [show ((2 * s : Nat) : Int) = (s : Int) * 2 by omega], by omega, by omega, rfl, by have := hch.merge hp7 hs7; simpa using this, Stb.Len.snoc HDL.out hml, hpm, by simpa using hS7, HG.out.trans hG7⟩
        case measure => omega
       ·have hms1 : ¬ ((k : Int) < (n : Int)) := by omega
        have hend : ∃ C3 : List (List α), Stb.Chs lt neg C3 ∧ Stb.Len (2 * s) C3 ∧ C3.flatten = D.flatten ++ C'.flatten := by
         rcases Stb.Len.last HCL.out (by have := HAC.out; have := HK.out; omega) hs0 with h0 | ⟨X, h0, hx⟩ | ⟨X, h0, hx⟩
         ·refine ⟨D, by have := HCH.out; rwa [h0, List.append_nil] at this, Stb.Len.full HDL.out (fun hD => ?_), by rw [h0]; simp⟩
          have h1 := HAC.out; have h2 := HA.out
          rw [hD] at h2; rw [h0] at h1
          simp at h1 h2; omega
         ·exact ⟨D ++ [X], by have := HCH.out; rwa [h0] at this, Stb.Len.snoc HDL.out (by omega), by rw [h0]; simp⟩
         ·have hch := HCH.out
          rw [h0] at hch
          obtain ⟨t1, _, _⟩ := hch.two
          have := hch.merge (M := X) (by simp) t1
          exact ⟨D ++ [X], by simpa using this, Stb.Len.snoc HDL.out (by omega), by rw [h0]; simp⟩
        have HEND := Lib.hid hend
        clear hend HSO HPM
        go_wp2_with fail
        go_roundg (n - 2 * s)
        case rel =>
         obtain ⟨C3, e1, e2, e3⟩ := HEND.out
         exact ⟨2 * s, C3, by rw [show ((2 * s : Nat) : Int) = (s : Int) * 2 by omega], by omega, by omega, rfl, e1, e2, by rw [e3]; exact HP.out, by rw [e3]; exact HS.out, HG.out⟩
        case measure => omega
    ·have hsn1 : ¬ ((s : Int) < (n : Int)) := by omega
     go_wp2_with fail
     go_end0
     have := HS.out.len
     exact ⟨rfl, C.flatten, HP.out, HCH.out.sorted HLN.out (by omega) hs0, HS.out, HG.out⟩
theorem stCp_sortStable {α : Type} (E : Enc α) (hE : E.k = 4) {lt : α → α → Prop} {neg : α → α → Bool} (O : Stb.Ord lt) (c : FuncId) (lb : Array Value) (eg : ∀ args w, (callFunc c args).run Tryz.prog w = .ok (.enter c args) w) (dom : α → Prop) (B g cap n : Nat) (hn : n ≤ 1000000)
  (L : List α) (w : World) (HC : CmpOk E w g c lb dom neg) (h : SRow E w B 74 g cap n L) (hL : L.Pairwise (Stb.Fit lt neg)) (hd : ∀ x, x ∈ L → dom x) :
  Calls Tryz.prog 167 #[.slice (some ⟨g, 0, none⟩) n cap, .func (.func c) #[] lb] w fun e w' => e = .returned (.tuple #[]) ∧ ∃ M, List.Perm M L ∧ M.Pairwise lt ∧ SRow E w' B 74 g cap n M ∧ w.grownBy w' (some g) := by
 have HS := Lib.hid (stCp_stable E hE O c lb eg dom w B g cap n HC hn L w (World.grownBy.refl _ _) h hL hd)
 clear h hL hd HC
 go_enter Tryz.func167, Tryz.ntmps167
 go_wp2_with (go_at_call 203; (with_reducible refine HS.out.mono ?_); rintro e w4 ⟨rfl, hM⟩)
 go_end0
 exact ⟨rfl, hM⟩
end Go.Proofs.YthdiccdnggloiaaGreatDoor

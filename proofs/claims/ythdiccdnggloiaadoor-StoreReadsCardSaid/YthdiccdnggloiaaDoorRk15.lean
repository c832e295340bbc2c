/- Parts of the proof, no condition: StRef2, StRef3, StRef4, StRef5. -/
import Derived.Test.YthdiccdnggloiaaDoorRk4
import Derived.Lib.QuietBelow
import Derived.Test.YthdiccdnggloiaaDoorRk3
set_option maxRecDepth 100000
set_option maxHeartbeats 16000000
set_option linter.unusedSimpArgs false
set_option linter.unusedVariables false
namespace Go.Proofs.YthdiccdnggloiaaDoor
open Go.RowKit Go.Sort Go.Shelf Go.Maps
theorem before_is (x y : Cop) (w : World) :
  Calls Tryd.prog 31 #[.agg #[.string x.dig, .string x.tier, .bool x.good, .int .i64 x.asked], .agg #[.string y.dig, .string y.tier, .bool y.good, .int .i64 y.asked]] w fun e w' => e = .returned (.bool (St.ahead x y)) ∧ Below w.heap.size w w' := by
 obtain ⟨W1, hW1, hP, hz1, hB1⟩ := box w #[.string x.dig, .string x.tier, .bool x.good, .int .i64 x.asked] 62
 obtain ⟨W2, hW2, hQ, hz2, hB2⟩ := box W1 #[.string y.dig, .string y.tier, .bool y.good, .int .i64 y.asked] 62
 have HW1 := Lib.hid hW1; have HW2 := Lib.hid hW2
 have HBB := Lib.hid (below_up hB1 hB2)
 have hP2 := hP.keep hB2
 rw [hz1] at hQ
 have d0 : W2.cell? ⟨w.heap.size, 0, none⟩ = some (.string x.dig) := (hP2.cell 0).trans rfl
 have d1 : W2.cell? ⟨w.heap.size, 1, none⟩ = some (.string x.tier) := (hP2.cell 1).trans rfl
 have e0 : W2.cell? ⟨w.heap.size + 1, 0, none⟩ = some (.string y.dig) := (hQ.cell 0).trans rfl
 have e1 : W2.cell? ⟨w.heap.size + 1, 1, none⟩ = some (.string y.tier) := (hQ.cell 1).trans rfl
 have HV : Hid (St.ahead x y = (Op.bytesLess x.dig.toList y.dig.toList || (x.dig.toList == y.dig.toList && Op.bytesLess x.tier.toList y.tier.toList))) := Lib.hid rfl
 obtain ⟨a1, h1⟩ : ∃ a1, Op.bytesLess x.dig.toList y.dig.toList = a1 := ⟨_, rfl⟩
 obtain ⟨a2, h2⟩ : ∃ a2, (x.dig.toList == y.dig.toList) = a2 := ⟨_, rfl⟩
 obtain ⟨a3, h3⟩ : ∃ a3, Op.bytesLess x.tier.toList y.tier.toList = a3 := ⟨_, rfl⟩
 rw [h1, h2, h3] at HV
 clear hW1 hW2 hP hP2 hQ hB1 hB2 hz1 hz2
 cases a1 <;> cases a2 <;> cases a3 <;>
  (go_enter Tryd.func31, Tryd.ntmps31
   go_wp2_with fail
   rw [HW1.out, HW2.out]
   go_wp2_with fail
   go_ret
   exact ⟨ret_bool (by rw [HV.out]; rfl), HBB.out⟩)
namespace St
def faultE (f : Fil) : Int := if Fd.fileB f.dig = true then fileR f else 1
end St
theorem fileFault_is (x : Fil) (hz : x.dig.size ≤ 9223372036854775807) (w : World) :
  Calls Tryd.prog 28 #[.agg #[.string x.dig, .int .i64 x.size, .int .i64 x.kind, .string x.frm]] w fun e w' => e = .returned (.int .i64 (St.faultE x)) ∧ Below w.heap.size w w' := by
 obtain ⟨W3, hW3, hX3, hz3, hB3⟩ := box w #[.string x.dig, .int .i64 x.size, .int .i64 x.kind, .string x.frm] 47
 have HW3 := Lib.hid hW3; have HB3 := Lib.hid hB3
 have d0 : W3.cell? ⟨w.heap.size, 0, none⟩ = some (.string x.dig) := (hX3.cell 0).trans rfl
 have d1 : W3.cell? ⟨w.heap.size, 1, none⟩ = some (.int .i64 x.size) := (hX3.cell 1).trans rfl
 have d2 : W3.cell? ⟨w.heap.size, 2, none⟩ = some (.int .i64 x.kind) := (hX3.cell 2).trans rfl
 have d3 : W3.cell? ⟨w.heap.size, 3, none⟩ = some (.string x.frm) := (hX3.cell 3).trans rfl
 have HDG := Lib.hid (isDigest_is x.dig hz _ rfl W3)
 have HO1 := Lib.hid (fun W => inS_is x.size 0 1000000000 W)
 have HO2 := Lib.hid (fun W => inS_is x.kind 1 3 W)
 obtain ⟨q, hq⟩ : ∃ q, St.faultE x = q := ⟨_, rfl⟩
 rw [hq]
 unfold St.faultE St.fileR at hq
 clear hW3 hX3 hB3 hz3 hz
 generalize Fd.fileB x.dig = bd at *
 generalize St.inB x.size 0 1000000000 = b1 at *
 generalize St.inB x.kind 1 3 = b2 at *
 cases bd
 ·have HQ := Lib.hid hq
  clear hq
  go_enter Tryd.func28, Tryd.ntmps28
  go_wp2_with fail
  rw [HW3.out]
  go_wp2_with (first | (go_at_call 27; (with_reducible refine HDG.out.mono ?_); rintro e w4 ⟨rfl, rfl⟩) | (go_at_call 24; first | ((with_reducible refine (HO1.out _).mono ?_); rintro e w4 ⟨rfl, rfl⟩) | ((with_reducible refine (HO2.out _).mono ?_); rintro e w4 ⟨rfl, rfl⟩)))
  go_ret
  exact ⟨ret_int (by rw [← HQ.out]; rfl), HB3.out⟩
 cases b1
 ·have HQ := Lib.hid hq
  clear hq
  go_enter Tryd.func28, Tryd.ntmps28
  go_wp2_with fail
  rw [HW3.out]
  go_wp2_with (first | (go_at_call 27; (with_reducible refine HDG.out.mono ?_); rintro e w4 ⟨rfl, rfl⟩) | (go_at_call 24; first | ((with_reducible refine (HO1.out _).mono ?_); rintro e w4 ⟨rfl, rfl⟩) | ((with_reducible refine (HO2.out _).mono ?_); rintro e w4 ⟨rfl, rfl⟩)))
  go_ret
  exact ⟨ret_int (by rw [← HQ.out]; rfl), HB3.out⟩
 cases b2
 ·have HQ := Lib.hid hq
  clear hq
  go_enter Tryd.func28, Tryd.ntmps28
  go_wp2_with fail
  rw [HW3.out]
  go_wp2_with (first | (go_at_call 27; (with_reducible refine HDG.out.mono ?_); rintro e w4 ⟨rfl, rfl⟩) | (go_at_call 24; first | ((with_reducible refine (HO1.out _).mono ?_); rintro e w4 ⟨rfl, rfl⟩) | ((with_reducible refine (HO2.out _).mono ?_); rintro e w4 ⟨rfl, rfl⟩)))
  go_ret
  exact ⟨ret_int (by rw [← HQ.out]; rfl), HB3.out⟩
 by_cases hk : x.kind = 1
 ·have hk2 : (x.kind == 1) = true := by simpa using hk
  cases he : x.frm.toList.isEmpty
  ·have HQ : Hid ((1 : Int) = q) := Lib.hid (by rw [← hq, if_pos rfl, if_pos rfl, if_pos rfl, if_pos ⟨hk, he⟩])
   clear hq hk
   go_enter Tryd.func28, Tryd.ntmps28
   go_wp2_with fail
   rw [HW3.out]
   go_wp2_with (first | (go_at_call 27; (with_reducible refine HDG.out.mono ?_); rintro e w4 ⟨rfl, rfl⟩) | (go_at_call 24; first | ((with_reducible refine (HO1.out _).mono ?_); rintro e w4 ⟨rfl, rfl⟩) | ((with_reducible refine (HO2.out _).mono ?_); rintro e w4 ⟨rfl, rfl⟩)))
   go_ret
   exact ⟨ret_int HQ.out, HB3.out⟩
  ·have HQ : Hid ((0 : Int) = q) := Lib.hid (by rw [← hq, if_pos rfl, if_pos rfl, if_pos rfl, if_neg (by rintro ⟨_, g⟩; rw [he] at g; cases g)])
   clear hq hk
   go_enter Tryd.func28, Tryd.ntmps28
   go_wp2_with fail
   rw [HW3.out]
   go_wp2_with (first | (go_at_call 27; (with_reducible refine HDG.out.mono ?_); rintro e w4 ⟨rfl, rfl⟩) | (go_at_call 24; first | ((with_reducible refine (HO1.out _).mono ?_); rintro e w4 ⟨rfl, rfl⟩) | ((with_reducible refine (HO2.out _).mono ?_); rintro e w4 ⟨rfl, rfl⟩)))
   go_ret
   exact ⟨ret_int HQ.out, HB3.out⟩
 ·have hk2 : (x.kind == 1) = false := by simpa using hk
  have HQ : Hid ((0 : Int) = q) := Lib.hid (by rw [← hq, if_pos rfl, if_pos rfl, if_pos rfl, if_neg (by rintro ⟨g, _⟩; exact hk g)])
  clear hq
  go_enter Tryd.func28, Tryd.ntmps28
  go_wp2_with fail
  rw [HW3.out]
  go_wp2_with (first | (go_at_call 27; (with_reducible refine HDG.out.mono ?_); rintro e w4 ⟨rfl, rfl⟩) | (go_at_call 24; first | ((with_reducible refine (HO1.out _).mono ?_); rintro e w4 ⟨rfl, rfl⟩) | ((with_reducible refine (HO2.out _).mono ?_); rintro e w4 ⟨rfl, rfl⟩)))
  go_ret
  exact ⟨ret_int HQ.out, HB3.out⟩
theorem idxS_is (L : List ByteArray) (sa : Option Addr) (sc : Nat) (z : ByteArray) (w : World) (hr : RowE St.eS w sa L) (hl : L.length ≤ sc ∧ sc ≤ 9223372036854775807) :
  Calls Tryd.prog 92 #[.slice sa L.length sc, .string z] w fun e w' => (∃ r : Int, e = .returned (.int .i64 r) ∧ (0 ≤ r ↔ St.hasS L z = true)) ∧ w = w' := by
 have HR := Lib.hid hr
 have HQ : Hid (∀ r : Int, (0 ≤ r ↔ (L.drop 0).any (fun x => St.eq x z) = true) → (0 ≤ r ↔ St.hasS L z = true)) := Lib.hid fun r h => h
 obtain ⟨n, hn⟩ : ∃ n, L.length = n := ⟨_, rfl⟩
 have HN := Lib.hid hn
 rw [hn] at hl ⊢
 clear hr hn
 go_enter Tryd.func92, Tryd.ntmps92
 go_wp2_with fail
 go_loopg [8] n (fun gk i wr => ∃ j : Nat, j ≤ n ∧ gk = n - j ∧ i = .int .i64 j ∧ (∀ r : Int, (0 ≤ r ↔ (L.drop j).any (fun x => St.eq x z) = true) → (0 ≤ r ↔ St.hasS L z = true)) ∧ w = wr)
 case atStart => exact ⟨0, by omega, rfl, rfl, HQ.out, rfl⟩
 case round =>
  obtain ⟨j, hj, rfl, rfl, hs, rfl⟩ := hrel
  have HSC := Lib.hid hs; clear hs
  by_cases hlt : j < n
  ·obtain ⟨x, hx⟩ : ∃ x, L[j]? = some x := ⟨_, List.getElem?_eq_getElem (by rw [HN.out]; exact hlt)⟩
   obtain ⟨b, off, ha, hb, hcell⟩ := HR.out (by rw [HN.out]; omega)
   have c0 : w.cell? ⟨b, off + j, none⟩ = some (.string x) := by
    have := hcell j x hx 0 (.string x) rfl
    rw [show off + j * St.eS.k + 0 = off + j by simp [St.eS]] at this
    exact this
   have HX : Hid (L.drop j = x :: L.drop (j + 1)) := Lib.hid (by
    obtain ⟨h1, h2⟩ := List.getElem?_eq_some_iff.1 hx
    rw [List.drop_eq_getElem_cons h1, h2])
   have hj0 : (0 : Int) ≤ (j : Int) := by omega
   have hj1 : (j : Int) < (n : Int) := by omega
   obtain ⟨bq, hbq⟩ : ∃ bq, (x.toList == z.toList) = bq := ⟨_, rfl⟩
   obtain ⟨bq2, hbq2⟩ : ∃ bq, (z.toList == x.toList) = bq := ⟨_, rfl⟩
   have hbe : bq2 = bq := by
    rw [← hbq, ← hbq2, Bool.eq_iff_iff, beq_iff_eq, beq_iff_eq]
    exact eq_comm
   subst hbe
   have HBQ : Hid (St.eq x z = bq2) := Lib.hid hbq
   rw [ha]
   clear hcell hx
   cases bq2
   ·have HNX : Hid (∀ r : Int, (0 ≤ r ↔ (L.drop (j + 1)).any (fun x => St.eq x z) = true) → (0 ≤ r ↔ St.hasS L z = true)) := Lib.hid fun r h => HSC.out r (by rw [HX.out, List.any_cons, HBQ.out, Bool.false_or]; exact h)
    go_wp2_with fail
    rw [← ha]
    go_roundg (n - (j + 1))
    case rel => exact ⟨j + 1, by omega, rfl, by go_num, HNX.out, rfl⟩
    case measure => omega
   ·go_wp2_with fail
    go_ret
    exact ⟨⟨_, rfl, HSC.out _ (by rw [HX.out, List.any_cons, HBQ.out, Bool.true_or]; exact ⟨fun _ => rfl, fun _ => by omega⟩)⟩, rfl⟩
  ·obtain rfl : j = n := by omega
   go_wp2_with fail
   go_ret
   exact ⟨⟨_, rfl, HSC.out _ (by rw [List.drop_eq_nil_of_le (by rw [HN.out]; exact Nat.le_refl _)]; simp)⟩, rfl⟩
theorem containsS_is (L : List ByteArray) (sa : Option Addr) (sc : Nat) (z : ByteArray) (w : World) (hr : RowE St.eS w sa L) (hl : L.length ≤ sc ∧ sc ≤ 9223372036854775807) :
  Calls Tryd.prog 75 #[.slice sa L.length sc, .string z] w fun e w' => e = .returned (.bool (St.hasS L z)) ∧ w = w' := by
 have HC := Lib.hid (idxS_is L sa sc z w hr hl)
 go_enter Tryd.func75, Tryd.ntmps75
 go_wp2_with (go_at_call 92; (with_reducible refine HC.out.mono ?_); rintro e w4 ⟨⟨r, rfl, hr2⟩, rfl⟩)
 go_ret
 refine ⟨ret_bool ?_, rfl⟩
 rw [Bool.eq_iff_iff, ← hr2]
theorem keptError_is (s : Sto) (a : StA) (w : World) (hI : StIn w s a) :
  Calls Tryd.prog 34 #[.agg #[.int .i64 s.least, .int .i64 s.wait, .slice a.ta s.tiers.length a.tc, .slice a.fa s.files.length a.fc, .slice a.ca s.copies.length a.cc, .slice a.ha s.held.length a.hc, .slice a.ba s.bin.length a.bc]] w fun e w' => e = .returned (.int .i64 (St.keptE s)) ∧ Below w.heap.size w w' := by
 obtain ⟨W1, hW1, hP, hz1, hB1⟩ := box w #[.int .i64 s.least, .int .i64 s.wait, .slice a.ta s.tiers.length a.tc, .slice a.fa s.files.length a.fc, .slice a.ca s.copies.length a.cc, .slice a.ha s.held.length a.hc, .slice a.ba s.bin.length a.bc] 28
 have HW1 := Lib.hid hW1
 have HI1 := Lib.hid (hI.keep hB1)
 have q0 : W1.cell? ⟨w.heap.size, 0, none⟩ = some (.int .i64 s.least) := (hP.cell 0).trans rfl
 have q1 : W1.cell? ⟨w.heap.size, 1, none⟩ = some (.int .i64 s.wait) := (hP.cell 1).trans rfl
 have q2 : W1.cell? ⟨w.heap.size, 2, none⟩ = some (.slice a.ta s.tiers.length a.tc) := (hP.cell 2).trans rfl
 have q3 : W1.cell? ⟨w.heap.size, 3, none⟩ = some (.slice a.fa s.files.length a.fc) := (hP.cell 3).trans rfl
 have q4 : W1.cell? ⟨w.heap.size, 4, none⟩ = some (.slice a.ca s.copies.length a.cc) := (hP.cell 4).trans rfl
 have q5 : W1.cell? ⟨w.heap.size, 5, none⟩ = some (.slice a.ha s.held.length a.hc) := (hP.cell 5).trans rfl
 have q6 : W1.cell? ⟨w.heap.size, 6, none⟩ = some (.slice a.ba s.bin.length a.bc) := (hP.cell 6).trans rfl
 have HP := Lib.hid hP; have HB1 := Lib.hid hB1
 clear hW1 hP
 have hhl := hI.hl; have hbl := hI.bl
 obtain ⟨qa, hqa⟩ : ∃ qa, St.scan (St.heldE s.files) [] s.held = qa := ⟨_, rfl⟩
 obtain ⟨qb, hqb⟩ : ∃ qb, St.scan (St.binE s.files s.held) [] s.bin = qb := ⟨_, rfl⟩
 have HF : Hid (St.keptE s = if qa = 0 then qb else qa) := Lib.hid (by unfold St.keptE; rw [hqa, hqb])
 have HQ1 : Hid (St.scan (St.heldE s.files) (s.held.take 0) (s.held.drop 0) = qa) := Lib.hid hqa
 have HQ2 : Hid (St.scan (St.binE s.files s.held) (s.bin.take 0) (s.bin.drop 0) = qb) := Lib.hid hqb
 have HOR := Lib.hid (fun (d : ByteArray) W (hb : Below W1.heap.size W1 W) => original_is s a d W (HI1.out.keep hb))
 have HHS := Lib.hid (fun (d : ByteArray) W (hb : Below W1.heap.size W1 W) => containsS_is s.held a.ha a.hc d W (HI1.out.keep hb).he hhl)
 have HID := Lib.hid (fun (n : Int) W => inS_is n 0 73048 W)
 have HCL : Hid (∀ W, Below W1.heap.size W1 W → W.cell? ⟨w.heap.size, 0, none⟩ = some (.int .i64 s.least) ∧ W.cell? ⟨w.heap.size, 1, none⟩ = some (.int .i64 s.wait) ∧ W.cell? ⟨w.heap.size, 2, none⟩ = some (.slice a.ta s.tiers.length a.tc) ∧ W.cell? ⟨w.heap.size, 3, none⟩ = some (.slice a.fa s.files.length a.fc) ∧ W.cell? ⟨w.heap.size, 4, none⟩ = some (.slice a.ca s.copies.length a.cc) ∧ W.cell? ⟨w.heap.size, 5, none⟩ = some (.slice a.ha s.held.length a.hc) ∧ W.cell? ⟨w.heap.size, 6, none⟩ = some (.slice a.ba s.bin.length a.bc)) := Lib.hid fun W hb =>
  have k := HP.out.keep hb
  ⟨(k.cell 0).trans rfl, (k.cell 1).trans rfl, (k.cell 2).trans rfl, (k.cell 3).trans rfl, (k.cell 4).trans rfl, (k.cell 5).trans rfl, (k.cell 6).trans rfl⟩
 clear hI hqa hqb
 obtain ⟨n, hn⟩ : ∃ n, s.held.length = n := ⟨_, rfl⟩
 have HN := Lib.hid hn
 obtain ⟨nt, hnt⟩ : ∃ nt, s.bin.length = nt := ⟨_, rfl⟩
 have HNT := Lib.hid hnt
 rw [hn] at q5 hhl HW1 HOR HHS HCL ⊢
 rw [hnt] at q6 hbl HW1 HOR HCL ⊢
 clear hn hnt
 go_enter Tryd.func34, Tryd.ntmps34
 go_wp2_with fail
 rw [HW1.out]
 go_wp2_with fail
 clear q0 q1 q2 q3 q4 q5 q6
 go_loopg [10] n (fun gk i wr => ∃ j : Nat, j ≤ n ∧ gk = n - j ∧ i = .int .i64 j ∧ St.scan (St.heldE s.files) (s.held.take j) (s.held.drop j) = qa ∧ Below W1.heap.size W1 wr)
 case atStart => exact ⟨0, by omega, rfl, rfl, HQ1.out, Below.refl _ _⟩
 case round =>
  obtain ⟨j, hj, rfl, rfl, hs, hBW⟩ := hrel
  have HS := Lib.hid hs; clear hs
  have HBR := Lib.hid (below_up HB1.out hBW)
  by_cases hlt : j < n
  ·obtain ⟨x, hx⟩ : ∃ x, s.held[j]? = some x := ⟨_, List.getElem?_eq_getElem (by rw [HN.out]; exact hlt)⟩
   obtain ⟨b, off, ha, hb, hcell⟩ := (HI1.out.keep hBW).he (by rw [HN.out]; omega)
   have HCE : Hid (∀ (W : World), Below W1.heap.size W1 W → ∀ (i : Nat) (y : ByteArray), s.held[i]? = some y → W.cell? ⟨b, off + i, none⟩ = some (.string y)) := Lib.hid fun W hb i y hy => by
    obtain ⟨b2, off2, ha2, hb2, hc2⟩ := (HI1.out.keep hb).he (by rw [HN.out]; omega)
    rw [ha] at ha2; cases ha2
    have := hc2 i y hy 0 (.string y) rfl
    rw [show off + i * St.eS.k + 0 = off + i by simp [St.eS]] at this
    exact this
   have c0 := HCE.out _ hBW j x hx
   clear hcell
   have HX := Lib.hid hx
   obtain ⟨kd, hkd⟩ : ∃ kd, decide (St.kindOf s.files x = 1) = kd := ⟨_, rfl⟩
   have HOX := Lib.hid (HOR.out x _ hBW)
   rw [hkd] at HOX
   have HDF : Hid (St.heldE s.files (s.held.take j) x = if kd = true then (match (s.held.take j).getLast? with | some p => (if St.le x p = true then 5 else 0) | none => 0) else 7) := Lib.hid (by unfold St.heldE; rw [← hkd]; simp only [decide_eq_true_eq]; rfl)
   obtain ⟨m0, m1, m2, m3, m4, m5, m6⟩ := HCL.out _ hBW
   have hj0 : (0 : Int) ≤ (j : Int) := by omega
   have hj1 : (j : Int) < (n : Int) := by omega
   have HBW := Lib.hid hBW
   clear hx hkd hBW
   rw [ha] at m5 HOX HCL ⊢
   cases kd
   ·have HBD : Hid (St.heldE s.files (s.held.take j) x = 7) := Lib.hid (by rw [HDF.out]; rfl)
    have HE := Lib.hid (St.scan_here HS.out HX.out (by rw [HBD.out]; decide))
    go_wp2_with (go_at_call 29; (with_reducible refine HOX.out.mono ?_); rintro e w6 ⟨rfl, hB6⟩)
    go_ret
    exact ⟨ret_int (by rw [HF.out, HE.out, HBD.out]; rfl), below_up HBR.out hB6⟩
   ·have HDG : Hid (St.heldE s.files (s.held.take j) x = (match (s.held.take j).getLast? with | some p => (if St.le x p = true then 5 else 0) | none => 0)) := Lib.hid (by rw [HDF.out, if_pos rfl])
    go_upto_region 6 with (go_at_call 29; (with_reducible refine HOX.out.mono ?_); rintro e w6 ⟨rfl, hB6⟩; have HBJ := Lib.hid (below_up HBW.out hB6); have HAL := Lib.hid (below_up HBR.out hB6))
    clear m0 m1 m2 m3 m4 m5 m6 c0
    obtain ⟨m0, m1, m2, m3, m4, m5, m6⟩ := HCL.out _ HBJ.out
    rcases Nat.eq_zero_or_pos j with rfl | hjp
    ·have HBD : Hid (St.heldE s.files (s.held.take 0) x = 0) := Lib.hid (by rw [HDG.out, St.last_zero])
     have HE := Lib.hid (St.scan_next HS.out HX.out HBD.out)
     go_wp2_with fail
     rw [← ha]
     go_roundg (n - (0 + 1))
     case rel => exact ⟨0 + 1, by omega, rfl, by go_num, HE.out, HBJ.out⟩
     case measure => omega
    ·obtain ⟨p, hp, hlast⟩ := St.last_at (L := s.held) (by rw [HN.out]; exact hlt) hjp
     obtain ⟨i, rfl⟩ : ∃ i, j = i + 1 := ⟨j - 1, by omega⟩
     rw [Nat.add_sub_cancel] at hp
     have p0 := HCE.out _ HBJ.out i p hp
     obtain ⟨bl, hbq⟩ : ∃ bl, (Op.bytesLess x.toList p.toList || x.toList == p.toList) = bl := ⟨_, rfl⟩
     have HBQ : Hid (St.le x p = bl) := Lib.hid hbq
     have HDZ : Hid (St.heldE s.files (s.held.take (i + 1)) x = if bl = true then 5 else 0) := Lib.hid (by rw [HDG.out, hlast, ← HBQ.out])
     clear hp hlast
     cases bl
     ·have HBD : Hid (St.heldE s.files (s.held.take (i + 1)) x = 0) := Lib.hid (by rw [HDZ.out]; rfl)
      have HE := Lib.hid (St.scan_next HS.out HX.out HBD.out)
      go_wp2_with fail
      rw [← ha]
      go_roundg (n - (i + 1 + 1))
      case rel => exact ⟨i + 1 + 1, by omega, rfl, by go_num, HE.out, HBJ.out⟩
      case measure => omega
     ·have HBD : Hid (St.heldE s.files (s.held.take (i + 1)) x = 5) := Lib.hid (by rw [HDZ.out]; rfl)
      have HE := Lib.hid (St.scan_here HS.out HX.out (by rw [HBD.out]; decide))
      go_wp2_with fail
      go_ret
      exact ⟨ret_int (by rw [HF.out, HE.out, HBD.out]; rfl), HAL.out⟩
  ·obtain rfl : j = n := by omega
   have HE := HS.out
   rw [← HN.out] at HE
   have hq0 := St.scan_done HE
   have HF2 : Hid (St.keptE s = qb) := Lib.hid (by rw [HF.out, if_pos hq0])
   clear HE hq0
   obtain ⟨m0, m1, m2, m3, m4, m5, m6⟩ := HCL.out _ hBW
   have HBK := Lib.hid hBW
   clear hBW
   go_wp2_with fail
   clear m0 m1 m2 m3 m4 m5 m6
   go_loopg [35] nt (fun gk i wq => ∃ k : Nat, k ≤ nt ∧ gk = nt - k ∧ i = .int .i64 k ∧ St.scan (St.binE s.files s.held) (s.bin.take k) (s.bin.drop k) = qb ∧ Below W1.heap.size W1 wq)
   case atStart => exact ⟨0, by omega, rfl, rfl, HQ2.out, HBK.out⟩
   case round =>
    obtain ⟨k, hk, rfl, rfl, hs, hBWq⟩ := hrel
    have HS2 := Lib.hid hs; clear hs
    have HBQ := Lib.hid (below_up HB1.out hBWq)
    by_cases hlt2 : k < nt
    ·obtain ⟨x, hx⟩ : ∃ x, s.bin[k]? = some x := ⟨_, List.getElem?_eq_getElem (by rw [HNT.out]; exact hlt2)⟩
     obtain ⟨b, off, ha, hb, hcell⟩ := (HI1.out.keep hBWq).bi (by rw [HNT.out]; omega)
     have c0 : wr.cell? ⟨b, off + k * 2, none⟩ = some (.string x.dig) := hcell k x hx 0 (.string x.dig) rfl
     have c1 : wr.cell? ⟨b, off + k * 2 + 1, none⟩ = some (.int .i64 x.day) := hcell k x hx 1 (.int .i64 x.day) rfl
     clear hcell
     have HX := Lib.hid hx
     obtain ⟨W3, hW3, hX3, hz3, hB3⟩ := box wr #[.string x.dig, .int .i64 x.day] 88
     have HW3 := Lib.hid hW3
     have HD : Hid (∀ W, Below W3.heap.size W3 W → W.cell? ⟨wr.heap.size, 0, none⟩ = some (.string x.dig) ∧ W.cell? ⟨wr.heap.size, 1, none⟩ = some (.int .i64 x.day)) := Lib.hid fun W hb =>
      have k := hX3.keep hb
      ⟨(k.cell 0).trans rfl, (k.cell 1).trans rfl⟩
     obtain ⟨d0, d1⟩ := HD.out _ (Below.refl _ _)
     have HAL3 := Lib.hid (below_up HBQ.out hB3)
     have HAW3 := Lib.hid (below_up hBWq hB3)
     obtain ⟨kd, hkd⟩ : ∃ kd, decide (St.kindOf s.files x.dig = 1) = kd := ⟨_, rfl⟩
     have HOX := Lib.hid (HOR.out x.dig _ HAW3.out)
     rw [hkd] at HOX
     have HDF : Hid (St.binE s.files s.held (s.bin.take k) x = if kd = true then (match (s.bin.take k).getLast? with | some p => (if St.le x.dig p.dig = true then 5 else St.binR s.held x) | none => St.binR s.held x) else 7) := Lib.hid (by unfold St.binE; rw [← hkd]; simp only [decide_eq_true_eq]; rfl)
     obtain ⟨m0, m1, m2, m3, m4, m5, m6⟩ := HCL.out _ HAW3.out
     have hj0 : (0 : Int) ≤ (k : Int) := by omega
     have hj1 : (k : Int) < (nt : Int) := by omega
     have HPV : Hid (∀ W, Below W1.heap.size W1 W → ∀ (i : Nat) (y : Gon), s.bin[i]? = some y → W.cell? ⟨b, off + i * 2, none⟩ = some (.string y.dig)) := Lib.hid fun W hb i y hy => by
      obtain ⟨b2, off2, ha2, hb2, hc2⟩ := (HI1.out.keep hb).bi (by rw [HNT.out]; omega)
      rw [ha] at ha2; cases ha2
      exact hc2 i y hy 0 _ rfl
     clear hx hX3 hz3 hB3 hW3 hBWq hkd
     rw [ha] at m6 HOX HCL ⊢
     cases kd
     ·have HBD : Hid (St.binE s.files s.held (s.bin.take k) x = 7) := Lib.hid (by rw [HDF.out]; rfl)
      have HE := Lib.hid (St.scan_here HS2.out HX.out (by rw [HBD.out]; decide))
      go_upto_region 12 with fail
      rw [HW3.out]
      go_wp2_with (go_at_call 29; (with_reducible refine HOX.out.mono ?_); rintro e w6 ⟨rfl, hB6⟩)
      go_ret
      exact ⟨ret_int (by rw [HF2.out, HE.out, HBD.out]), below_up HAL3.out hB6⟩
     ·have HDG : Hid (St.binE s.files s.held (s.bin.take k) x = (match (s.bin.take k).getLast? with | some p => (if St.le x.dig p.dig = true then 5 else St.binR s.held x) | none => St.binR s.held x)) := Lib.hid (by rw [HDF.out, if_pos rfl])
      obtain ⟨dy, hdy⟩ : ∃ dy, St.inB x.day 0 73048 = dy := ⟨_, rfl⟩
      have HDY := Lib.hid hdy
      clear hdy
      go_upto_region 12 with fail
      rw [HW3.out]
      go_upto_region 14 with (go_at_call 29; (with_reducible refine HOX.out.mono ?_); rintro e w6 ⟨rfl, hB6⟩; have HB36 := Lib.hid hB6)
      have HAL6 := Lib.hid (below_up HAL3.out HB36.out)
      have HAW6 := Lib.hid (below_up HAW3.out HB36.out)
      have HAQ6 := HAW6
      clear c0 c1 m0 m1 m2 m3 m4 m5 m6 d0 d1
      obtain ⟨d0, d1⟩ := HD.out _ HB36.out
      obtain ⟨m0, m1, m2, m3, m4, m5, m6⟩ := HCL.out _ HAW6.out
      have k0 := cell_regrown d0
      have k6 := cell_regrown m6
      clear m0 m1 m2 m3 m4 m5 m6 d0 d1
      rcases Nat.eq_zero_or_pos k with rfl | hjp
      ·have HDZ : Hid (St.binE s.files s.held (s.bin.take 0) x = St.binR s.held x) := Lib.hid (by rw [HDG.out, St.last_zero])
       refine wp_region_quiet_below (by kernel_rfl) (by kernel_rfl) ?_
       repeat (go_big_quiet_step ((fail)))
       refine wpQuiet_nil ?_
       intro _ hw'
       obtain ⟨⟨dq, osq⟩, hw''⟩ := hw'
       subst hw''
       have hBw7 := below_regrown w6 dq osq
       generalize grow (redrawn w6 dq) osq = w7 at *
       clear dq osq
       clear k0 k6
       obtain ⟨d0, d1⟩ := HD.out _ (below_up HB36.out hBw7)
       obtain ⟨m0, m1, m2, m3, m4, m5, m6⟩ := HCL.out _ (below_up HAW6.out hBw7)
       have HAW7 := Lib.hid (below_up HAW6.out hBw7)
       have HAL7 := Lib.hid (below_up HAL6.out hBw7)
       have HAQ7 := Lib.hid (below_up HAQ6.out hBw7)
       have HH2 := Lib.hid (HHS.out x.dig _ HAW7.out)
       cases dy
       ·have HBD : Hid (St.binE s.files s.held (s.bin.take (0)) x = 2) := Lib.hid (by rw [HDZ.out]; unfold St.binR; rw [HDY.out]; rfl)
        have HE := Lib.hid (St.scan_here HS2.out HX.out (by rw [HBD.out]; decide))
        go_wp2_with (go_at_call 24; (with_reducible refine (HID.out _ _).mono ?_); rw [HDY.out]; rintro e w8 ⟨rfl, rfl⟩)
        go_ret
        exact ⟨ret_int (by rw [HF2.out, HE.out, HBD.out]), HAL7.out⟩
       ·obtain ⟨hh, hhh⟩ : ∃ hh, St.hasS s.held x.dig = hh := ⟨_, rfl⟩
        have HBR2 : Hid (St.binE s.files s.held (s.bin.take (0)) x = if hh = true then 6 else 0) := Lib.hid (by rw [HDZ.out]; unfold St.binR; rw [HDY.out, hhh]; rfl)
        rw [hhh] at HH2
        clear hhh
        cases hh
        ·have HBD : Hid (St.binE s.files s.held (s.bin.take (0)) x = 0) := Lib.hid (by rw [HBR2.out]; rfl)
         have HE := Lib.hid (St.scan_next HS2.out HX.out HBD.out)
         go_wp2_with (first | (go_at_call 24; (with_reducible refine (HID.out _ _).mono ?_); rw [HDY.out]; rintro e w8 ⟨rfl, rfl⟩) | (go_at_call 75; (with_reducible refine HH2.out.mono ?_); rintro e w8 ⟨rfl, rfl⟩))
         rw [← ha]
         go_roundg (nt - (0 + 1))
         case rel => exact ⟨0 + 1, by omega, rfl, by go_num, HE.out, HAQ7.out⟩
         case measure => omega
        ·have HBD : Hid (St.binE s.files s.held (s.bin.take (0)) x = 6) := Lib.hid (by rw [HBR2.out]; rfl)
         have HE := Lib.hid (St.scan_here HS2.out HX.out (by rw [HBD.out]; decide))
         go_wp2_with (first | (go_at_call 24; (with_reducible refine (HID.out _ _).mono ?_); rw [HDY.out]; rintro e w8 ⟨rfl, rfl⟩) | (go_at_call 75; (with_reducible refine HH2.out.mono ?_); rintro e w8 ⟨rfl, rfl⟩))
         go_ret
         exact ⟨ret_int (by rw [HF2.out, HE.out, HBD.out]), HAL7.out⟩
      ·obtain ⟨p, hp, hlast⟩ := St.last_at (L := s.bin) (by rw [HNT.out]; exact hlt2) hjp
       obtain ⟨i, rfl⟩ : ∃ i, k = i + 1 := ⟨k - 1, by omega⟩
       rw [Nat.add_sub_cancel] at hp
       have k5 := cell_regrown (HPV.out _ HAW6.out i p hp)
       obtain ⟨bl, hbq⟩ : ∃ bl, (Op.bytesLess x.dig.toList p.dig.toList || x.dig.toList == p.dig.toList) = bl := ⟨_, rfl⟩
       have HBQ2 : Hid (St.le x.dig p.dig = bl) := Lib.hid hbq
       have HDP : Hid (St.binE s.files s.held (s.bin.take (i + 1)) x = if bl = true then 5 else St.binR s.held x) := Lib.hid (by rw [HDG.out, hlast, ← HBQ2.out])
       have HBC := Lib.hid hbq
       clear hp hlast hbq
       refine wp_region_quiet_below (by kernel_rfl) (by kernel_rfl) ?_
       repeat (go_big_quiet_step ((fail)))
       refine wpQuiet_nil ?_
       intro _ hw'
       obtain ⟨⟨dq, osq⟩, hw''⟩ := hw'
       subst hw''
       have hBw7 := below_regrown w6 dq osq
       generalize grow (redrawn w6 dq) osq = w7 at *
       clear dq osq
       clear k0 k5 k6
       cases bl
       ·have HDZ : Hid (St.binE s.files s.held (s.bin.take (i + 1)) x = St.binR s.held x) := Lib.hid (by rw [HDP.out]; rfl)
        simp only [HBC.out]
        obtain ⟨d0, d1⟩ := HD.out _ (below_up HB36.out hBw7)
        obtain ⟨m0, m1, m2, m3, m4, m5, m6⟩ := HCL.out _ (below_up HAW6.out hBw7)
        have HAW7 := Lib.hid (below_up HAW6.out hBw7)
        have HAL7 := Lib.hid (below_up HAL6.out hBw7)
        have HAQ7 := Lib.hid (below_up HAQ6.out hBw7)
        have HH2 := Lib.hid (HHS.out x.dig _ HAW7.out)
        cases dy
        ·have HBD : Hid (St.binE s.files s.held (s.bin.take (i + 1)) x = 2) := Lib.hid (by rw [HDZ.out]; unfold St.binR; rw [HDY.out]; rfl)
         have HE := Lib.hid (St.scan_here HS2.out HX.out (by rw [HBD.out]; decide))
         go_wp2_with (go_at_call 24; (with_reducible refine (HID.out _ _).mono ?_); rw [HDY.out]; rintro e w8 ⟨rfl, rfl⟩)
         go_ret
         exact ⟨ret_int (by rw [HF2.out, HE.out, HBD.out]), HAL7.out⟩
        ·obtain ⟨hh, hhh⟩ : ∃ hh, St.hasS s.held x.dig = hh := ⟨_, rfl⟩
         have HBR2 : Hid (St.binE s.files s.held (s.bin.take (i + 1)) x = if hh = true then 6 else 0) := Lib.hid (by rw [HDZ.out]; unfold St.binR; rw [HDY.out, hhh]; rfl)
         rw [hhh] at HH2
         clear hhh
         cases hh
         ·have HBD : Hid (St.binE s.files s.held (s.bin.take (i + 1)) x = 0) := Lib.hid (by rw [HBR2.out]; rfl)
          have HE := Lib.hid (St.scan_next HS2.out HX.out HBD.out)
          go_wp2_with (first | (go_at_call 24; (with_reducible refine (HID.out _ _).mono ?_); rw [HDY.out]; rintro e w8 ⟨rfl, rfl⟩) | (go_at_call 75; (with_reducible refine HH2.out.mono ?_); rintro e w8 ⟨rfl, rfl⟩))
          rw [← ha]
          go_roundg (nt - (i + 1 + 1))
          case rel => exact ⟨i + 1 + 1, by omega, rfl, by go_num, HE.out, HAQ7.out⟩
          case measure => omega
         ·have HBD : Hid (St.binE s.files s.held (s.bin.take (i + 1)) x = 6) := Lib.hid (by rw [HBR2.out]; rfl)
          have HE := Lib.hid (St.scan_here HS2.out HX.out (by rw [HBD.out]; decide))
          go_wp2_with (first | (go_at_call 24; (with_reducible refine (HID.out _ _).mono ?_); rw [HDY.out]; rintro e w8 ⟨rfl, rfl⟩) | (go_at_call 75; (with_reducible refine HH2.out.mono ?_); rintro e w8 ⟨rfl, rfl⟩))
          go_ret
          exact ⟨ret_int (by rw [HF2.out, HE.out, HBD.out]), HAL7.out⟩
       ·have HBD : Hid (St.binE s.files s.held (s.bin.take (i + 1)) x = 5) := Lib.hid (by rw [HDP.out]; rfl)
        have HE := Lib.hid (St.scan_here HS2.out HX.out (by rw [HBD.out]; decide))
        simp only [HBC.out]
        go_wp2_with fail
        go_ret
        exact ⟨ret_int (by rw [HF2.out, HE.out, HBD.out]), below_up HAL6.out hBw7⟩
    ·obtain rfl : k = nt := by omega
     have HE := HS2.out
     rw [← HNT.out] at HE
     have HE2 := Lib.hid (St.scan_done HE)
     clear HE
     go_wp2_with fail
     go_ret
     exact ⟨ret_int (by rw [HF2.out, HE2.out]), HBQ.out⟩
theorem freeIn_is (s : Sto) (a : StA) (x : Tir) (k : Nat) (hk : s.tiers[k]? = some x) (hka : St.tierAt s.tiers x.name = (k : Int)) (w : World) (hI : StIn w s a) (hz : St.Szs s.files) (hc : s.copies.length ≤ 4000) (hr : 0 ≤ x.room ∧ x.room ≤ 1000000000000) :
  Calls Tryd.prog 33 #[.agg #[.int .i64 s.least, .int .i64 s.wait, .slice a.ta s.tiers.length a.tc, .slice a.fa s.files.length a.fc, .slice a.ca s.copies.length a.cc, .slice a.ha s.held.length a.hc, .slice a.ba s.bin.length a.bc], .string x.name] w fun e w' => e = .returned (.int .i64 (x.room - St.used s.files x.name s.copies)) ∧ Below w.heap.size w w' := by
 obtain ⟨W1, hW1, hP, hz1, hB1⟩ := box w #[.int .i64 s.least, .int .i64 s.wait, .slice a.ta s.tiers.length a.tc, .slice a.fa s.files.length a.fc, .slice a.ca s.copies.length a.cc, .slice a.ha s.held.length a.hc, .slice a.ba s.bin.length a.bc] 28
 have HW1 := Lib.hid hW1
 have HI1 := Lib.hid (hI.keep hB1)
 have q0 : W1.cell? ⟨w.heap.size, 0, none⟩ = some (.int .i64 s.least) := (hP.cell 0).trans rfl
 have q1 : W1.cell? ⟨w.heap.size, 1, none⟩ = some (.int .i64 s.wait) := (hP.cell 1).trans rfl
 have q2 : W1.cell? ⟨w.heap.size, 2, none⟩ = some (.slice a.ta s.tiers.length a.tc) := (hP.cell 2).trans rfl
 have q3 : W1.cell? ⟨w.heap.size, 3, none⟩ = some (.slice a.fa s.files.length a.fc) := (hP.cell 3).trans rfl
 have q4 : W1.cell? ⟨w.heap.size, 4, none⟩ = some (.slice a.ca s.copies.length a.cc) := (hP.cell 4).trans rfl
 have q5 : W1.cell? ⟨w.heap.size, 5, none⟩ = some (.slice a.ha s.held.length a.hc) := (hP.cell 5).trans rfl
 have q6 : W1.cell? ⟨w.heap.size, 6, none⟩ = some (.slice a.ba s.bin.length a.bc) := (hP.cell 6).trans rfl
 have HP := Lib.hid hP; have HB1 := Lib.hid hB1
 clear hW1 hP
 have hcl := hI.cl
 have htl := hI.tl
 have HZ := Lib.hid hz
 have hklt := (List.getElem?_eq_some_iff.1 hk).1
 have HT := Lib.hid (fun d os => Calls.regrown_of (w := W1) (d := d) (os := os) (tierOf_is s a x.name _ (HI1.out.keep (below_regrown W1 d os))))
 rw [hka] at HT
 obtain ⟨tb, toff, hta, htb, htc⟩ := HI1.out.ti (by omega)
 have t1 : W1.cell? ⟨tb, toff + k * 4 + 1, none⟩ = some (.int .i64 x.room) := htc k x hk 1 (.int .i64 x.room) rfl
 have HFO := Lib.hid (fun (d : ByteArray) W (hb : Below W1.heap.size W1 W) => fileOf_is s a d W (HI1.out.keep hb))
 have HCL : Hid (∀ W, Below W1.heap.size W1 W → W.cell? ⟨w.heap.size, 0, none⟩ = some (.int .i64 s.least) ∧ W.cell? ⟨w.heap.size, 1, none⟩ = some (.int .i64 s.wait) ∧ W.cell? ⟨w.heap.size, 2, none⟩ = some (.slice a.ta s.tiers.length a.tc) ∧ W.cell? ⟨w.heap.size, 3, none⟩ = some (.slice a.fa s.files.length a.fc) ∧ W.cell? ⟨w.heap.size, 4, none⟩ = some (.slice a.ca s.copies.length a.cc) ∧ W.cell? ⟨w.heap.size, 5, none⟩ = some (.slice a.ha s.held.length a.hc) ∧ W.cell? ⟨w.heap.size, 6, none⟩ = some (.slice a.ba s.bin.length a.bc)) := Lib.hid fun W hb =>
  have k := HP.out.keep hb
  ⟨(k.cell 0).trans rfl, (k.cell 1).trans rfl, (k.cell 2).trans rfl, (k.cell 3).trans rfl, (k.cell 4).trans rfl, (k.cell 5).trans rfl, (k.cell 6).trans rfl⟩
 obtain ⟨tot, htot⟩ : ∃ tot, x.room - St.used s.files x.name s.copies = tot := ⟨_, rfl⟩
 rw [htot]
 have hub := St.used_bd hz x.name s.copies
 have htt : -5000000000000 ≤ tot ∧ tot ≤ 1000000000000 := by omega
 have HT0 : Hid (x.room = tot + St.used s.files x.name (s.copies.drop 0)) := Lib.hid (by rw [List.drop_zero]; omega)
 clear hI hz htot hub hka htc hk
 obtain ⟨n, hn⟩ : ∃ n, s.copies.length = n := ⟨_, rfl⟩
 have HN := Lib.hid hn
 obtain ⟨nt, hnt⟩ : ∃ nt, s.tiers.length = nt := ⟨_, rfl⟩
 rw [hn] at q4 hcl hc HW1 HT HFO HCL ⊢
 rw [hnt] at q2 htl hklt HW1 HT HFO HCL ⊢
 rw [hta] at q2 HW1 HT HFO HCL ⊢
 clear hn hnt
 have hk0 : (0 : Int) ≤ (k : Int) := by omega
 have hk1 : (k : Int) < (nt : Int) := by omega
 go_enter Tryd.func33, Tryd.ntmps33
 go_wp2_with fail
 rw [HW1.out]
 have k0 := cell_regrown q0
 have k1 := cell_regrown q1
 have k2 := cell_regrown q2
 have k3 := cell_regrown q3
 have k4 := cell_regrown q4
 have k5 := cell_regrown q5
 have k6 := cell_regrown q6
 have k7 := cell_regrown t1
 refine wp_region_quiet_below (by kernel_rfl) (by kernel_rfl) ?_
 repeat (go_big_quiet_step ((go_at_call 26; with_reducible exact HT.out _ _)))
 refine wpQuiet_nil ?_
 intro _ hw'
 obtain ⟨⟨dq, osq⟩, hw''⟩ := hw'
 subst hw''
 have hBw2 := below_regrown W1 dq osq
 generalize grow (redrawn W1 dq) osq = w2 at *
 clear dq osq
 clear k0 k1 k2 k3 k4 k5 k6 k7 q0 q1 q2 q3 q4 q5 q6 t1
 obtain ⟨m0, m1, m2, m3, m4, m5, m6⟩ := HCL.out _ hBw2
 have HB2 := Lib.hid hBw2
 go_wp2_with fail
 clear m0 m1 m2 m3 m4 m5 m6 hBw2
 go_loopg [5, 21] n (fun gk v i wr => ∃ (j : Nat) (z : Int), j ≤ n ∧ gk = n - j ∧ i = .int .i64 j ∧ v = .int .i64 z ∧ z = tot + St.used s.files x.name (s.copies.drop j) ∧ Below W1.heap.size W1 wr)
 case atStart => exact ⟨0, x.room, by omega, rfl, rfl, rfl, HT0.out, HB2.out⟩
 case round =>
  obtain ⟨j, z, hj, rfl, rfl, rfl, hz, hB⟩ := hrel
  by_cases hlt : j < n
  ·obtain ⟨y, hy⟩ : ∃ y, s.copies[j]? = some y := ⟨_, List.getElem?_eq_getElem (by rw [HN.out]; exact hlt)⟩
   obtain ⟨b, off, ha, hb, hcell⟩ := (HI1.out.keep hB).co (by rw [HN.out]; omega)
   have c0 : wr.cell? ⟨b, off + j * 4, none⟩ = some (.string y.dig) := hcell j y hy 0 (.string y.dig) rfl
   have c1 : wr.cell? ⟨b, off + j * 4 + 1, none⟩ = some (.string y.tier) := hcell j y hy 1 (.string y.tier) rfl
   have c2 : wr.cell? ⟨b, off + j * 4 + 2, none⟩ = some (.bool y.good) := hcell j y hy 2 (.bool y.good) rfl
   have c3 : wr.cell? ⟨b, off + j * 4 + 3, none⟩ = some (.int .i64 y.asked) := hcell j y hy 3 (.int .i64 y.asked) rfl
   clear hcell
   obtain ⟨W3, hW3, hX3, hz3, hB3⟩ := box wr #[.string y.dig, .string y.tier, .bool y.good, .int .i64 y.asked] 62
   have HW3 := Lib.hid hW3
   have d0 : W3.cell? ⟨wr.heap.size, 0, none⟩ = some (.string y.dig) := (hX3.cell 0).trans rfl
   have d1 : W3.cell? ⟨wr.heap.size, 1, none⟩ = some (.string y.tier) := (hX3.cell 1).trans rfl
   have HAL := Lib.hid (below_up hB hB3)
   have HFF := Lib.hid (HFO.out y.dig _ HAL.out)
   obtain ⟨f, hf⟩ : ∃ f, St.filD s.files y.dig = f := ⟨_, rfl⟩
   obtain ⟨fb, hfb⟩ : ∃ fb, (St.fileOf s.files y.dig).isSome = fb := ⟨_, rfl⟩
   rw [hf, hfb] at HFF
   unfold St.fval at HFF
   have hfz : 0 ≤ f.size ∧ f.size ≤ 1000000000 := by rw [← hf, St.filD_size]; exact St.size_bd HZ.out y.dig
   have hstep := St.used_drop (F := s.files) (n := x.name) hy
   have hub := St.used_bd HZ.out x.name (s.copies.drop (j + 1))
   have hl1 : (s.copies.drop (j + 1)).length ≤ 4000 := by rw [List.length_drop]; have := HN.out; omega
   have hsz : St.sizeOf s.files y.dig = f.size := by rw [← hf, St.filD_size]
   rw [hsz] at hstep
   obtain ⟨m0, m1, m2, m3, m4, m5, m6⟩ := HCL.out _ HAL.out
   have hj0 : (0 : Int) ≤ (j : Int) := by omega
   have hj1 : (j : Int) < (n : Int) := by omega
   obtain ⟨ud, hud⟩ : ∃ ud, St.used s.files x.name (s.copies.drop (j + 1)) = ud := ⟨_, rfl⟩
   have HUD := Lib.hid hud
   rw [hud] at hstep hub
   clear hud
   obtain ⟨bq, hbq⟩ : ∃ bq, (y.tier.toList == x.name.toList) = bq := ⟨_, rfl⟩
   have hbq' : St.eq y.tier x.name = bq := hbq
   rw [hbq'] at hstep
   rw [hstep] at hz
   have hbnd : 0 ≤ ud ∧ ud ≤ 4000000000000 := by omega
   have HB3 := Lib.hid hB3
   clear hy hB hX3 hz3 hB3 hW3 hf hfb hsz hstep hub hl1 hbq'
   rw [ha] at m4 HFF ⊢
   cases bq
   ·rw [if_neg (by decide)] at hz
    have HZN : Hid (z = tot + ud) := Lib.hid (by omega)
    have hzb : -5000000000000 ≤ z ∧ z ≤ 5000000000000 := by omega
    clear hz
    go_upto_region 5 with fail
    rw [HW3.out]
    go_wp2_with fail
    rw [← ha]
    go_roundg (n - (j + 1))
    case rel => exact ⟨j + 1, z, by omega, rfl, by go_num, rfl, by rw [HUD.out]; exact HZN.out, HAL.out⟩
    case measure => omega
   ·rw [if_pos rfl] at hz
    have HZN : Hid (z - f.size = tot + ud) := Lib.hid (by omega)
    have hzb : -5000000000000 ≤ z ∧ z ≤ 5001000000000 := by omega
    clear hz
    go_upto_region 5 with fail
    rw [HW3.out]
    go_wp2_with (go_at_call 30; (with_reducible refine HFF.out.mono ?_); rintro e w4 ⟨rfl, hB4⟩)
    rw [← ha]
    go_roundg (n - (j + 1))
    case rel => exact ⟨j + 1, z - f.size, by omega, rfl, by go_num, rfl, by rw [HUD.out]; exact HZN.out, below_allocs (below_up HAL.out hB4) _⟩
    case measure => omega
  ·obtain rfl : j = n := by omega
   have hz2 : z = tot := by
    rw [hz, List.drop_eq_nil_of_le (by rw [HN.out]; exact Nat.le_refl _)]; simp [St.used]
   have HZ2 := Lib.hid hz2
   clear hz hz2
   go_wp2_with fail
   go_ret
   exact ⟨ret_int HZ2.out, below_up HB1.out hB⟩
theorem stErr_sizes (s : Sto) (a : StA) (w : World) (hI : StIn w s a) (hne : St.sizesE s ≠ 0) :
  Calls Tryd.prog 7 #[.agg #[.int .i64 s.least, .int .i64 s.wait, .slice a.ta s.tiers.length a.tc, .slice a.fa s.files.length a.fc, .slice a.ca s.copies.length a.cc, .slice a.ha s.held.length a.hc, .slice a.ba s.bin.length a.bc]] w fun e w' => e = .returned (.int .i64 (St.sizesE s)) ∧ Below w.heap.size w w' := by
 obtain ⟨W1, hW1, hP, hz1, hB1⟩ := box w #[.int .i64 s.least, .int .i64 s.wait, .slice a.ta s.tiers.length a.tc, .slice a.fa s.files.length a.fc, .slice a.ca s.copies.length a.cc, .slice a.ha s.held.length a.hc, .slice a.ba s.bin.length a.bc] 28
 have HW1 := Lib.hid hW1
 have HI1 := Lib.hid (hI.keep hB1)
 have q0 : W1.cell? ⟨w.heap.size, 0, none⟩ = some (.int .i64 s.least) := (hP.cell 0).trans rfl
 have q1 : W1.cell? ⟨w.heap.size, 1, none⟩ = some (.int .i64 s.wait) := (hP.cell 1).trans rfl
 have q2 : W1.cell? ⟨w.heap.size, 2, none⟩ = some (.slice a.ta s.tiers.length a.tc) := (hP.cell 2).trans rfl
 have q3 : W1.cell? ⟨w.heap.size, 3, none⟩ = some (.slice a.fa s.files.length a.fc) := (hP.cell 3).trans rfl
 have q4 : W1.cell? ⟨w.heap.size, 4, none⟩ = some (.slice a.ca s.copies.length a.cc) := (hP.cell 4).trans rfl
 have q5 : W1.cell? ⟨w.heap.size, 5, none⟩ = some (.slice a.ha s.held.length a.hc) := (hP.cell 5).trans rfl
 have q6 : W1.cell? ⟨w.heap.size, 6, none⟩ = some (.slice a.ba s.bin.length a.bc) := (hP.cell 6).trans rfl
 have HP := Lib.hid hP; have HB1 := Lib.hid hB1
 clear hW1 hP
 obtain ⟨q, hq⟩ : ∃ q, St.sizesE s = q := ⟨_, rfl⟩
 rw [hq] at hne ⊢
 unfold St.sizesE at hq
 have HO1 := Lib.hid (fun W => inS_is s.least 1 8 W)
 have HO2 := Lib.hid (fun W => inS_is s.wait 0 1000 W)
 have h1 := hI.tl; have h2 := hI.fl; have h3 := hI.cl; have h4 := hI.hl; have h5 := hI.bl
 clear hI
 generalize s.tiers.length = n1 at *
 generalize s.files.length = n2 at *
 generalize s.copies.length = n3 at *
 generalize s.held.length = n4 at *
 generalize s.bin.length = n5 at *
 generalize St.inB s.least 1 8 = b1 at *
 generalize St.inB s.wait 0 1000 = b2 at *
 cases b1
 ·have HQ : Hid ((2 : Int) = q) := Lib.hid (by rw [← hq, if_neg (by simp)])
  clear hq
  go_enter Tryd.func7, Tryd.ntmps7
  go_wp2_with fail
  rw [HW1.out]
  go_wp2_with (go_at_call 24; first | ((with_reducible refine (HO1.out _).mono ?_); rintro e w2 ⟨rfl, rfl⟩) | ((with_reducible refine (HO2.out _).mono ?_); rintro e w2 ⟨rfl, rfl⟩))
  go_ret
  exact ⟨ret_int HQ.out, HB1.out⟩
 ·cases b2
  ·have HQ : Hid ((2 : Int) = q) := Lib.hid (by rw [← hq, if_neg (by simp)])
   clear hq
   go_enter Tryd.func7, Tryd.ntmps7
   go_wp2_with fail
   rw [HW1.out]
   go_wp2_with (go_at_call 24; first | ((with_reducible refine (HO1.out _).mono ?_); rintro e w2 ⟨rfl, rfl⟩) | ((with_reducible refine (HO2.out _).mono ?_); rintro e w2 ⟨rfl, rfl⟩))
   go_ret
   exact ⟨ret_int HQ.out, HB1.out⟩
  ·rw [if_pos ⟨rfl, rfl⟩] at hq
   by_cases g1 : 8 < n1
   ·have HQ : Hid ((4 : Int) = q) := Lib.hid (by rw [← hq, if_pos (.inl g1)])
    have g1' : (8 : Int) < (n1 : Int) := by omega
    clear hq
    go_enter Tryd.func7, Tryd.ntmps7
    go_wp2_with fail
    rw [HW1.out]
    go_wp2_with (go_at_call 24; first | ((with_reducible refine (HO1.out _).mono ?_); rintro e w2 ⟨rfl, rfl⟩) | ((with_reducible refine (HO2.out _).mono ?_); rintro e w2 ⟨rfl, rfl⟩))
    go_ret
    exact ⟨ret_int HQ.out, HB1.out⟩
   have g1' : ¬ ((8 : Int) < (n1 : Int)) := by omega
   by_cases g2 : 500 < n2
   ·have HQ : Hid ((4 : Int) = q) := Lib.hid (by rw [← hq, if_pos (.inr (.inl g2))])
    have g2' : (500 : Int) < (n2 : Int) := by omega
    clear hq
    go_enter Tryd.func7, Tryd.ntmps7
    go_wp2_with fail
    rw [HW1.out]
    go_wp2_with (go_at_call 24; first | ((with_reducible refine (HO1.out _).mono ?_); rintro e w2 ⟨rfl, rfl⟩) | ((with_reducible refine (HO2.out _).mono ?_); rintro e w2 ⟨rfl, rfl⟩))
    go_ret
    exact ⟨ret_int HQ.out, HB1.out⟩
   have g2' : ¬ ((500 : Int) < (n2 : Int)) := by omega
   by_cases g3 : 4000 < n3
   ·have HQ : Hid ((4 : Int) = q) := Lib.hid (by rw [← hq, if_pos (.inr (.inr (.inl g3)))])
    have g3' : (4000 : Int) < (n3 : Int) := by omega
    clear hq
    go_enter Tryd.func7, Tryd.ntmps7
    go_wp2_with fail
    rw [HW1.out]
    go_wp2_with (go_at_call 24; first | ((with_reducible refine (HO1.out _).mono ?_); rintro e w2 ⟨rfl, rfl⟩) | ((with_reducible refine (HO2.out _).mono ?_); rintro e w2 ⟨rfl, rfl⟩))
    go_ret
    exact ⟨ret_int HQ.out, HB1.out⟩
   have g3' : ¬ ((4000 : Int) < (n3 : Int)) := by omega
   by_cases g4 : 500 < n4
   ·have HQ : Hid ((4 : Int) = q) := Lib.hid (by rw [← hq, if_pos (.inr (.inr (.inr (.inl g4))))])
    have g4' : (500 : Int) < (n4 : Int) := by omega
    clear hq
    go_enter Tryd.func7, Tryd.ntmps7
    go_wp2_with fail
    rw [HW1.out]
    go_wp2_with (go_at_call 24; first | ((with_reducible refine (HO1.out _).mono ?_); rintro e w2 ⟨rfl, rfl⟩) | ((with_reducible refine (HO2.out _).mono ?_); rintro e w2 ⟨rfl, rfl⟩))
    go_ret
    exact ⟨ret_int HQ.out, HB1.out⟩
   have g4' : ¬ ((500 : Int) < (n4 : Int)) := by omega
   by_cases g5 : 500 < n5
   ·have HQ : Hid ((4 : Int) = q) := Lib.hid (by rw [← hq, if_pos (.inr (.inr (.inr (.inr g5))))])
    have g5' : (500 : Int) < (n5 : Int) := by omega
    clear hq
    go_enter Tryd.func7, Tryd.ntmps7
    go_wp2_with fail
    rw [HW1.out]
    go_wp2_with (go_at_call 24; first | ((with_reducible refine (HO1.out _).mono ?_); rintro e w2 ⟨rfl, rfl⟩) | ((with_reducible refine (HO2.out _).mono ?_); rintro e w2 ⟨rfl, rfl⟩))
    go_ret
    exact ⟨ret_int HQ.out, HB1.out⟩
   exact absurd (by rw [← hq, if_neg (by omega)]) hne
end Go.Proofs.YthdiccdnggloiaaDoor

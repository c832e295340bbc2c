/- Parts of the proof, no condition: CxStr. -/
import Derived.Test.YtimjmjmpaicdbaaGreatDoorPc15
import Derived.Test.YtimjmjmpaicdbaaGreatDoorPc18
set_option maxRecDepth 100000
set_option maxHeartbeats 8000000
set_option linter.unusedSimpArgs false
set_option linter.unusedVariables false
namespace Go.Proofs.YtimjmjmpaicdbaaGreatDoor
open Go.RowKit Go.Sort Go.Shelf
theorem condStr_leaf (c : Cnd) (h : c.Good) (hop : ¬ c.op ≤ 3) (w : World) (hI : c.In w) (hmx : Mx w) :
  Calls Tryz.prog 22 #[.agg #[.int .i64 c.op, .slice c.ka c.kn c.kc, .string c.text, .int .i64 c.low, .int .i64 c.high, .slice c.aa c.an c.ac]] w fun e w' => e = .returned (.tuple #[.string (Tx.mk (Cx.txt c).1), .bool ((Cx.txt c).2 == 0)]) ∧ Below w.heap.size w w' := by
 rw [Cx.txt_leaf h.ne hop]
 have hr := hI.row
 rcases Cnd.ops h.op with g | g | g | g | g | g | g | g | g | g
 ·omega
 ·omega
 ·exact csLeaf_4 _ _ _ _ _ _ _ _ _ _ _ _ w g (Cx.textB h (.inl g))
 ·exact csLeaf_5 _ _ _ _ _ _ _ _ _ _ _ _ w g (Cx.textB h (.inr g))
 ·exact csLeaf_6 _ _ _ _ _ _ _ _ _ _ _ _ w g (Cx.lowB h (.inl g))
 ·exact csLeaf_7 _ _ _ _ _ _ _ _ _ _ _ _ w g (Cx.lowB h (.inr (.inl g))) ⟨(Cx.highB h (.inl g)).1, (Cx.highB h (.inl g)).2.1⟩
 ·exact csLeaf_8 _ _ _ _ _ _ _ _ _ _ _ _ w g hmx
 ·rcases g with g | g | g | g | g | g
  ·exact csLeaf_9 _ _ _ _ _ _ _ _ _ _ _ _ w g
  ·exact csLeaf_10 _ _ _ _ _ _ _ _ _ _ _ _ w g
  ·exact csLeaf_11 _ _ _ _ _ _ _ _ _ _ _ _ w g
  ·exact csLeaf_12 _ _ _ _ _ _ _ _ _ _ _ _ w g
  ·exact csLeaf_13 _ _ _ _ _ _ _ _ _ _ _ _ w g
  ·exact csLeaf_16 _ _ _ _ _ _ _ _ _ _ _ _ w g
 ·exact csLeaf_14 _ _ _ _ _ _ _ _ _ _ _ _ w g (Cx.lowB h (.inr (.inr (.inr g)))) (h.at1 g) h.places hr
 ·exact csLeaf_15 _ _ _ _ _ _ _ _ _ _ _ _ w g (h.at2 g) h.places hr
theorem condStr_node (c : Cnd) (h : c.Good) (hc : Cx.cnt c ≤ 100) (hop : c.op = 1 ∨ c.op = 2 ∨ c.op = 3)
  (ih : ∀ i, i < c.kn → ∀ w, (c.kids i).In w → Mx w → Calls Tryz.prog 22 #[.agg #[.int .i64 (c.kids i).op, .slice (c.kids i).ka (c.kids i).kn (c.kids i).kc, .string (c.kids i).text, .int .i64 (c.kids i).low, .int .i64 (c.kids i).high, .slice (c.kids i).aa (c.kids i).an (c.kids i).ac]] w fun e w' => e = .returned (.tuple #[.string (Tx.mk (Cx.txt (c.kids i)).1), .bool ((Cx.txt (c.kids i)).2 == 0)]) ∧ Below w.heap.size w w')
  (w : World) (hI : c.In w) (hmx : Mx w) :
  Calls Tryz.prog 22 #[.agg #[.int .i64 c.op, .slice c.ka c.kn c.kc, .string c.text, .int .i64 c.low, .int .i64 c.high, .slice c.aa c.an c.ac]] w fun e w' => e = .returned (.tuple #[.string (Tx.mk (Cx.txt c).1), .bool ((Cx.txt c).2 == 0)]) ∧ Below w.heap.size w w' := by
 have hop3 : c.op ≤ 3 := by omega
 have HALL := Lib.hid (Cx.txt_all h.ne hop3)
 have HNOT := Lib.hid (fun (j : Nat) (hj : j < c.kn) (g : (Cx.txt (c.kids j)).2 ≠ 0) => Cx.txt_not h.ne hop3 hj g)
 have HOR := Lib.hid (fun (j : Nat) (hj : j < c.kn) => Cx.txt_err (h.each j hj))
 have HJB := Lib.hid (fun (j : Nat) (hj : j ≤ c.kn) => Cx.jn_kids h hc hj)
 have HKS : Hid (∀ j, j < c.kn → (Tx.mk (Cx.txt (c.kids j)).1).size ≤ 60000) := Lib.hid fun j hj => by
  have h1 := Cx.txt_len _ (h.each j hj)
  have h2 := Cx.cnt_kid h.ne hj
  rw [Tx.mk_size]; omega
 have hkn := h.few
 have HIH := Lib.hid ih
 have HI := Lib.hid hI; have HM := Lib.hid hmx
 clear ih hI hmx h hc hop3
 obtain ⟨W1, hW1, hP, hz1, hB1⟩ := box w #[.int .i64 c.op, .slice c.ka c.kn c.kc, .string c.text, .int .i64 c.low, .int .i64 c.high, .slice c.aa c.an c.ac] 25
 have HW1 := Lib.hid hW1
 obtain ⟨q0, q1, q2, q3, q4, q5⟩ := hP.six
 clear hW1 hP q2 q3 q4 q5
 generalize c.op = op at *
 have HN := Lib.hid (fun W => nestWord_is op W)
 rcases hop with rfl | rfl | rfl
 ·first | rw [if_pos rfl] at HN | rw [if_neg (by decide), if_pos rfl] at HN | rw [if_neg (by decide), if_neg (by decide), if_pos rfl] at HN
  go_enter Tryz.func22, Tryz.ntmps22
  go_wp2_with fail
  rw [HW1.out]
  go_wp2_with (go_at_call 61; (with_reducible refine (HN.out _).mono ?_); rintro e wq ⟨rfl, hwq⟩; subst wq)
  have HB1 := Lib.hid hB1
  clear q0 q1 hB1 HN
  go_loopg [5, 22] c.kn (fun gk v i wr => ∃ j : Nat, j ≤ c.kn ∧ gk = c.kn - j ∧ i = .int .i64 j ∧ v = .string (Tx.mk (Cx.word 1 ++ Cx.jn (fun i => (Cx.txt (c.kids i)).1) j)) ∧ Cx.okTo c j ∧ Below w.heap.size w wr)
  case atStart => exact ⟨0, by omega, rfl, rfl, by rfl, Cx.okTo_zero _, HB1.out⟩
  case round =>
   obtain ⟨j, hj, rfl, rfl, rfl, hok, hB⟩ := hrel
   have HOK := Lib.hid hok
   clear hok
   have hjl := HJB.out j hj
   have hwl := Cx.word_len 1
   have hms : (Tx.mk (Cx.word 1 ++ Cx.jn (fun i => (Cx.txt (c.kids i)).1) j)).size ≤ 60007 := by rw [Tx.mk_size, List.length_append]; omega
   by_cases hlt : j < c.kn
   ·obtain ⟨b, off, hka, hbl, hcell⟩ := (Cnd.In.keep hB HI.out).kid (by omega)
    rw [hka]
    obtain ⟨s0, s1, s2, s3, s4, s5⟩ := hcell j hlt
    clear hcell
    have hor := HOR.out j hlt
    have HNJ := Lib.hid (HNOT.out j hlt)
    have HON := Lib.hid (fun g => Cx.okTo_succ HOK.out (j := j) g)
    have hks := HKS.out j hlt
    have HNX : Hid (Tx.mk (Cx.word 1 ++ Cx.jn (fun i => (Cx.txt (c.kids i)).1) (j + 1)) = if j = 0 then Tx.mk (Cx.word 1 ++ Cx.jn (fun i => (Cx.txt (c.kids i)).1) j) ++ Tx.mk (Cx.txt (c.kids j)).1 else Tx.mk (Cx.word 1 ++ Cx.jn (fun i => (Cx.txt (c.kids i)).1) j) ++ ⟨#[44, 32]⟩ ++ Tx.mk (Cx.txt (c.kids j)).1) := Lib.hid (by
     split
     ·rename_i e; subst e
      rw [Cx.jn_one, Cx.jn_zero, List.append_nil, Tx.mk_append]
     ·rw [Cx.jn_succ _ (by omega), ← List.append_assoc, ← List.append_assoc, ← Tx.mk_append, ← Tx.mk_append])
    obtain ⟨x, hx⟩ : ∃ x, c.kids j = x := ⟨_, rfl⟩
    have hall := below_allocs hB (.cells #[.int .i64 x.op, .slice x.ka x.kn x.kc, .string x.text, .int .i64 x.low, .int .i64 x.high, .slice x.aa x.an x.ac] 25)
    have hCALL := HIH.out j hlt (wr.alloc (.cells #[.int .i64 x.op, .slice x.ka x.kn x.kc, .string x.text, .int .i64 x.low, .int .i64 x.high, .slice x.aa x.an x.ac] 25)) (Cnd.In.keep hall (HI.out.each j hlt)) (HM.out.below hall)
    rw [hx] at hCALL s0 s1 s2 s3 s4 s5 hor HNJ HON HNX hks
    obtain ⟨S, e0, hS, he0⟩ : ∃ S e0, Tx.mk (Cx.txt x).1 = S ∧ (Cx.txt x).2 = e0 := ⟨_, _, rfl, rfl⟩
    rw [hS] at HNX hCALL hks
    rw [he0] at hCALL hor HNJ HON
    have HBA := Lib.hid hall
    generalize Tx.mk (Cx.word 1 ++ Cx.jn (fun i => (Cx.txt (c.kids i)).1) j) = M at *
    have hj0 : (0 : Int) ≤ (j : Int) := by omega
    have hj1 : (j : Int) < (c.kn : Int) := by omega
    by_cases hz : e0 = 0
    ·subst hz
     rw [show ((0 : Int) == 0) = true from rfl] at hCALL
     have HCALL := Lib.hid hCALL
     clear hCALL hx hS he0 hall hwl hjl
     have HON2 := Lib.hid (HON.out rfl)
     clear hor HNJ HON
     by_cases hj0' : j = 0
     ·have HNX2 := Lib.hid (by have := HNX.out; rwa [if_pos hj0'] at this)
      subst hj0'
      simp only [Nat.zero_mul, Nat.add_zero] at s0 s1 s2 s3 s4 s5
      go_wp2_with (go_at_call 22; refine HCALL.out.mono ?_; rintro e w7 ⟨rfl, hB7⟩)
      rw [← hka]
      go_roundg (c.kn - (0 + 1))
      case rel => exact ⟨0 + 1, by omega, rfl, by go_num, by rw [HNX2.out], HON2.out, below_up HBA.out hB7⟩
      case measure => omega
     ·have HNX2 := Lib.hid (by have := HNX.out; rwa [if_neg hj0'] at this)
      have hjp : (0 : Int) < (j : Int) := by omega
      have hjp2 : 0 < j := by omega
      clear hj0'
      go_wp2_with (go_at_call 22; refine HCALL.out.mono ?_; rintro e w7 ⟨rfl, hB7⟩)
      rw [← hka]
      go_roundg (c.kn - (j + 1))
      case rel => exact ⟨j + 1, by omega, rfl, by go_num, by rw [HNX2.out], HON2.out, below_up HBA.out hB7⟩
      case measure => omega
    ·obtain rfl : e0 = 1 := by omega
     rw [show ((1 : Int) == 0) = false from rfl] at hCALL
     have HCALL := Lib.hid hCALL
     clear hCALL hx hS he0 hall hwl hjl
     have HTX := Lib.hid (HNJ.out hz)
     clear hor HNJ HON hz
     by_cases hj0' : j = 0
     ·subst hj0'
      simp only [Nat.zero_mul, Nat.add_zero] at s0 s1 s2 s3 s4 s5
      go_wp2_with (go_at_call 22; refine HCALL.out.mono ?_; rintro e w7 ⟨rfl, hB7⟩)
      go_ret2
      exact ⟨by rw [HTX.out]; rfl, below_up HBA.out hB7⟩
     ·have hjp : (0 : Int) < (j : Int) := by omega
      have hjp2 : 0 < j := by omega
      clear hj0'
      go_wp2_with (go_at_call 22; refine HCALL.out.mono ?_; rintro e w7 ⟨rfl, hB7⟩)
      go_ret2
      exact ⟨by rw [HTX.out]; rfl, below_up HBA.out hB7⟩
   ·obtain rfl : j = c.kn := by omega
    have HTX := Lib.hid (HALL.out HOK.out)
    have HWL : Hid (Tx.mk (Cx.word 1 ++ Cx.jn (fun i => (Cx.txt (c.kids i)).1) c.kn ++ [41]) = Tx.mk (Cx.word 1 ++ Cx.jn (fun i => (Cx.txt (c.kids i)).1) c.kn) ++ ⟨#[41]⟩) := Lib.hid (by rw [← Tx.mk_append])
    generalize Tx.mk (Cx.word 1 ++ Cx.jn (fun i => (Cx.txt (c.kids i)).1) c.kn) = J at *
    go_wp2_with fail
    go_ret2
    exact ⟨by rw [HTX.out]; show _ = Ending.returned (.tuple #[.string (Tx.mk (Cx.word 1 ++ _ ++ [41])), .bool true]); rw [HWL.out]; rfl, hB⟩
 ·first | rw [if_pos rfl] at HN | rw [if_neg (by decide), if_pos rfl] at HN | rw [if_neg (by decide), if_neg (by decide), if_pos rfl] at HN
  go_enter Tryz.func22, Tryz.ntmps22
  go_wp2_with fail
  rw [HW1.out]
  go_wp2_with (go_at_call 61; (with_reducible refine (HN.out _).mono ?_); rintro e wq ⟨rfl, hwq⟩; subst wq)
  have HB1 := Lib.hid hB1
  clear q0 q1 hB1 HN
  go_loopg [5, 22] c.kn (fun gk v i wr => ∃ j : Nat, j ≤ c.kn ∧ gk = c.kn - j ∧ i = .int .i64 j ∧ v = .string (Tx.mk (Cx.word 2 ++ Cx.jn (fun i => (Cx.txt (c.kids i)).1) j)) ∧ Cx.okTo c j ∧ Below w.heap.size w wr)
  case atStart => exact ⟨0, by omega, rfl, rfl, by rfl, Cx.okTo_zero _, HB1.out⟩
  case round =>
   obtain ⟨j, hj, rfl, rfl, rfl, hok, hB⟩ := hrel
   have HOK := Lib.hid hok
   clear hok
   have hjl := HJB.out j hj
   have hwl := Cx.word_len 2
   have hms : (Tx.mk (Cx.word 2 ++ Cx.jn (fun i => (Cx.txt (c.kids i)).1) j)).size ≤ 60007 := by rw [Tx.mk_size, List.length_append]; omega
   by_cases hlt : j < c.kn
   ·obtain ⟨b, off, hka, hbl, hcell⟩ := (Cnd.In.keep hB HI.out).kid (by omega)
    rw [hka]
    obtain ⟨s0, s1, s2, s3, s4, s5⟩ := hcell j hlt
    clear hcell
    have hor := HOR.out j hlt
    have HNJ := Lib.hid (HNOT.out j hlt)
    have HON := Lib.hid (fun g => Cx.okTo_succ HOK.out (j := j) g)
    have hks := HKS.out j hlt
    have HNX : Hid (Tx.mk (Cx.word 2 ++ Cx.jn (fun i => (Cx.txt (c.kids i)).1) (j + 1)) = if j = 0 then Tx.mk (Cx.word 2 ++ Cx.jn (fun i => (Cx.txt (c.kids i)).1) j) ++ Tx.mk (Cx.txt (c.kids j)).1 else Tx.mk (Cx.word 2 ++ Cx.jn (fun i => (Cx.txt (c.kids i)).1) j) ++ ⟨#[44, 32]⟩ ++ Tx.mk (Cx.txt (c.kids j)).1) := Lib.hid (by
     split
     ·rename_i e; subst e
      rw [Cx.jn_one, Cx.jn_zero, List.append_nil, Tx.mk_append]
     ·rw [Cx.jn_succ _ (by omega), ← List.append_assoc, ← List.append_assoc, ← Tx.mk_append, ← Tx.mk_append])
    obtain ⟨x, hx⟩ : ∃ x, c.kids j = x := ⟨_, rfl⟩
    have hall := below_allocs hB (.cells #[.int .i64 x.op, .slice x.ka x.kn x.kc, .string x.text, .int .i64 x.low, .int .i64 x.high, .slice x.aa x.an x.ac] 25)
    have hCALL := HIH.out j hlt (wr.alloc (.cells #[.int .i64 x.op, .slice x.ka x.kn x.kc, .string x.text, .int .i64 x.low, .int .i64 x.high, .slice x.aa x.an x.ac] 25)) (Cnd.In.keep hall (HI.out.each j hlt)) (HM.out.below hall)
    rw [hx] at hCALL s0 s1 s2 s3 s4 s5 hor HNJ HON HNX hks
    obtain ⟨S, e0, hS, he0⟩ : ∃ S e0, Tx.mk (Cx.txt x).1 = S ∧ (Cx.txt x).2 = e0 := ⟨_, _, rfl, rfl⟩
    rw [hS] at HNX hCALL hks
    rw [he0] at hCALL hor HNJ HON
    have HBA := Lib.hid hall
    generalize Tx.mk (Cx.word 2 ++ Cx.jn (fun i => (Cx.txt (c.kids i)).1) j) = M at *
    have hj0 : (0 : Int) ≤ (j : Int) := by omega
    have hj1 : (j : Int) < (c.kn : Int) := by omega
    by_cases hz : e0 = 0
    ·subst hz
     rw [show ((0 : Int) == 0) = true from rfl] at hCALL
     have HCALL := Lib.hid hCALL
     clear hCALL hx hS he0 hall hwl hjl
     have HON2 := Lib.hid (HON.out rfl)
     clear hor HNJ HON
     by_cases hj0' : j = 0
     ·have HNX2 := Lib.hid (by have := HNX.out; rwa [if_pos hj0'] at this)
      subst hj0'
      simp only [Nat.zero_mul, Nat.add_zero] at s0 s1 s2 s3 s4 s5
      go_wp2_with (go_at_call 22; refine HCALL.out.mono ?_; rintro e w7 ⟨rfl, hB7⟩)
      rw [← hka]
      go_roundg (c.kn - (0 + 1))
      case rel => exact ⟨0 + 1, by omega, rfl, by go_num, by rw [HNX2.out], HON2.out, below_up HBA.out hB7⟩
      case measure => omega
     ·have HNX2 := Lib.hid (by have := HNX.out; rwa [if_neg hj0'] at this)
      have hjp : (0 : Int) < (j : Int) := by omega
      have hjp2 : 0 < j := by omega
      clear hj0'
      go_wp2_with (go_at_call 22; refine HCALL.out.mono ?_; rintro e w7 ⟨rfl, hB7⟩)
      rw [← hka]
      go_roundg (c.kn - (j + 1))
      case rel => exact ⟨j + 1, by omega, rfl, by go_num, by rw [HNX2.out], HON2.out, below_up HBA.out hB7⟩
      case measure => omega
    ·obtain rfl : e0 = 1 := by omega
     rw [show ((1 : Int) == 0) = false from rfl] at hCALL
     have HCALL := Lib.hid hCALL
     clear hCALL hx hS he0 hall hwl hjl
     have HTX := Lib.hid (HNJ.out hz)
     clear hor HNJ HON hz
     by_cases hj0' : j = 0
     ·subst hj0'
      simp only [Nat.zero_mul, Nat.add_zero] at s0 s1 s2 s3 s4 s5
      go_wp2_with (go_at_call 22; refine HCALL.out.mono ?_; rintro e w7 ⟨rfl, hB7⟩)
      go_ret2
      exact ⟨by rw [HTX.out]; rfl, below_up HBA.out hB7⟩
     ·have hjp : (0 : Int) < (j : Int) := by omega
      have hjp2 : 0 < j := by omega
      clear hj0'
      go_wp2_with (go_at_call 22; refine HCALL.out.mono ?_; rintro e w7 ⟨rfl, hB7⟩)
      go_ret2
      exact ⟨by rw [HTX.out]; rfl, below_up HBA.out hB7⟩
   ·obtain rfl : j = c.kn := by omega
    have HTX := Lib.hid (HALL.out HOK.out)
    have HWL : Hid (Tx.mk (Cx.word 2 ++ Cx.jn (fun i => (Cx.txt (c.kids i)).1) c.kn ++ [41]) = Tx.mk (Cx.word 2 ++ Cx.jn (fun i => (Cx.txt (c.kids i)).1) c.kn) ++ ⟨#[41]⟩) := Lib.hid (by rw [← Tx.mk_append])
    generalize Tx.mk (Cx.word 2 ++ Cx.jn (fun i => (Cx.txt (c.kids i)).1) c.kn) = J at *
    go_wp2_with fail
    go_ret2
    exact ⟨by rw [HTX.out]; show _ = Ending.returned (.tuple #[.string (Tx.mk (Cx.word 2 ++ _ ++ [41])), .bool true]); rw [HWL.out]; rfl, hB⟩
 ·first | rw [if_pos rfl] at HN | rw [if_neg (by decide), if_pos rfl] at HN | rw [if_neg (by decide), if_neg (by decide), if_pos rfl] at HN
  go_enter Tryz.func22, Tryz.ntmps22
  go_wp2_with fail
  rw [HW1.out]
  go_wp2_with (go_at_call 61; (with_reducible refine (HN.out _).mono ?_); rintro e wq ⟨rfl, hwq⟩; subst wq)
  have HB1 := Lib.hid hB1
  clear q0 q1 hB1 HN
  go_loopg [5, 22] c.kn (fun gk v i wr => ∃ j : Nat, j ≤ c.kn ∧ gk = c.kn - j ∧ i = .int .i64 j ∧ v = .string (Tx.mk (Cx.word 3 ++ Cx.jn (fun i => (Cx.txt (c.kids i)).1) j)) ∧ Cx.okTo c j ∧ Below w.heap.size w wr)
  case atStart => exact ⟨0, by omega, rfl, rfl, by rfl, Cx.okTo_zero _, HB1.out⟩
  case round =>
   obtain ⟨j, hj, rfl, rfl, rfl, hok, hB⟩ := hrel
   have HOK := Lib.hid hok
   clear hok
   have hjl := HJB.out j hj
   have hwl := Cx.word_len 3
   have hms : (Tx.mk (Cx.word 3 ++ Cx.jn (fun i => (Cx.txt (c.kids i)).1) j)).size ≤ 60007 := by rw [Tx.mk_size, List.length_append]; omega
   by_cases hlt : j < c.kn
   ·obtain ⟨b, off, hka, hbl, hcell⟩ := (Cnd.In.keep hB HI.out).kid (by omega)
    rw [hka]
    obtain ⟨s0, s1, s2, s3, s4, s5⟩ := hcell j hlt
    clear hcell
    have hor := HOR.out j hlt
    have HNJ := Lib.hid (HNOT.out j hlt)
    have HON := Lib.hid (fun g => Cx.okTo_succ HOK.out (j := j) g)
    have hks := HKS.out j hlt
    have HNX : Hid (Tx.mk (Cx.word 3 ++ Cx.jn (fun i => (Cx.txt (c.kids i)).1) (j + 1)) = if j = 0 then Tx.mk (Cx.word 3 ++ Cx.jn (fun i => (Cx.txt (c.kids i)).1) j) ++ Tx.mk (Cx.txt (c.kids j)).1 else Tx.mk (Cx.word 3 ++ Cx.jn (fun i => (Cx.txt (c.kids i)).1) j) ++ ⟨#[44, 32]⟩ ++ Tx.mk (Cx.txt (c.kids j)).1) := Lib.hid (by
     split
     ·rename_i e; subst e
      rw [Cx.jn_one, Cx.jn_zero, List.append_nil, Tx.mk_append]
     ·rw [Cx.jn_succ _ (by omega), ← List.append_assoc, ← List.append_assoc, ← Tx.mk_append, ← Tx.mk_append])
    obtain ⟨x, hx⟩ : ∃ x, c.kids j = x := ⟨_, rfl⟩
    have hall := below_allocs hB (.cells #[.int .i64 x.op, .slice x.ka x.kn x.kc, .string x.text, .int .i64 x.low, .int .i64 x.high, .slice x.aa x.an x.ac] 25)
    have hCALL := HIH.out j hlt (wr.alloc (.cells #[.int .i64 x.op, .slice x.ka x.kn x.kc, .string x.text, .int .i64 x.low, .int .i64 x.high, .slice x.aa x.an x.ac] 25)) (Cnd.In.keep hall (HI.out.each j hlt)) (HM.out.below hall)
    rw [hx] at hCALL s0 s1 s2 s3 s4 s5 hor HNJ HON HNX hks
    obtain ⟨S, e0, hS, he0⟩ : ∃ S e0, Tx.mk (Cx.txt x).1 = S ∧ (Cx.txt x).2 = e0 := ⟨_, _, rfl, rfl⟩
    rw [hS] at HNX hCALL hks
    rw [he0] at hCALL hor HNJ HON
    have HBA := Lib.hid hall
    generalize Tx.mk (Cx.word 3 ++ Cx.jn (fun i => (Cx.txt (c.kids i)).1) j) = M at *
    have hj0 : (0 : Int) ≤ (j : Int) := by omega
    have hj1 : (j : Int) < (c.kn : Int) := by omega
    by_cases hz : e0 = 0
    ·subst hz
     rw [show ((0 : Int) == 0) = true from rfl] at hCALL
     have HCALL := Lib.hid hCALL
     clear hCALL hx hS he0 hall hwl hjl
     have HON2 := Lib.hid (HON.out rfl)
     clear hor HNJ HON
     by_cases hj0' : j = 0
     ·have HNX2 := Lib.hid (by have := HNX.out; rwa [if_pos hj0'] at this)
      subst hj0'
      simp only [Nat.zero_mul, Nat.add_zero] at s0 s1 s2 s3 s4 s5
      go_wp2_with (go_at_call 22; refine HCALL.out.mono ?_; rintro e w7 ⟨rfl, hB7⟩)
      rw [← hka]
      go_roundg (c.kn - (0 + 1))
      case rel => exact ⟨0 + 1, by omega, rfl, by go_num, by rw [HNX2.out], HON2.out, below_up HBA.out hB7⟩
      case measure => omega
     ·have HNX2 := Lib.hid (by have := HNX.out; rwa [if_neg hj0'] at this)
      have hjp : (0 : Int) < (j : Int) := by omega
      have hjp2 : 0 < j := by omega
      clear hj0'
      go_wp2_with (go_at_call 22; refine HCALL.out.mono ?_; rintro e w7 ⟨rfl, hB7⟩)
      rw [← hka]
      go_roundg (c.kn - (j + 1))
      case rel => exact ⟨j + 1, by omega, rfl, by go_num, by rw [HNX2.out], HON2.out, below_up HBA.out hB7⟩
      case measure => omega
    ·obtain rfl : e0 = 1 := by omega
     rw [show ((1 : Int) == 0) = false from rfl] at hCALL
     have HCALL := Lib.hid hCALL
     clear hCALL hx hS he0 hall hwl hjl
     have HTX := Lib.hid (HNJ.out hz)
     clear hor HNJ HON hz
     by_cases hj0' : j = 0
     ·subst hj0'
      simp only [Nat.zero_mul, Nat.add_zero] at s0 s1 s2 s3 s4 s5
      go_wp2_with (go_at_call 22; refine HCALL.out.mono ?_; rintro e w7 ⟨rfl, hB7⟩)
      go_ret2
      exact ⟨by rw [HTX.out]; rfl, below_up HBA.out hB7⟩
     ·have hjp : (0 : Int) < (j : Int) := by omega
      have hjp2 : 0 < j := by omega
      clear hj0'
      go_wp2_with (go_at_call 22; refine HCALL.out.mono ?_; rintro e w7 ⟨rfl, hB7⟩)
      go_ret2
      exact ⟨by rw [HTX.out]; rfl, below_up HBA.out hB7⟩
   ·obtain rfl : j = c.kn := by omega
    have HTX := Lib.hid (HALL.out HOK.out)
    have HWL : Hid (Tx.mk (Cx.word 3 ++ Cx.jn (fun i => (Cx.txt (c.kids i)).1) c.kn ++ [41]) = Tx.mk (Cx.word 3 ++ Cx.jn (fun i => (Cx.txt (c.kids i)).1) c.kn) ++ ⟨#[41]⟩) := Lib.hid (by rw [← Tx.mk_append])
    generalize Tx.mk (Cx.word 3 ++ Cx.jn (fun i => (Cx.txt (c.kids i)).1) c.kn) = J at *
    go_wp2_with fail
    go_ret2
    exact ⟨by rw [HTX.out]; show _ = Ending.returned (.tuple #[.string (Tx.mk (Cx.word 3 ++ _ ++ [41])), .bool true]); rw [HWL.out]; rfl, hB⟩
theorem condStr_is : ∀ (c : Cnd), c.Good → Cx.cnt c ≤ 100 → ∀ w, c.In w → Mx w → Calls Tryz.prog 22 #[.agg #[.int .i64 c.op, .slice c.ka c.kn c.kc, .string c.text, .int .i64 c.low, .int .i64 c.high, .slice c.aa c.an c.ac]] w fun e w' => e = .returned (.tuple #[.string (Tx.mk (Cx.txt c).1), .bool ((Cx.txt c).2 == 0)]) ∧ Below w.heap.size w w' := by
 refine Cnd.ind (fun h => absurd rfl h.ne) fun c hne ih h hc w hI hmx => ?_
 by_cases hop : c.op ≤ 3
 ·have h1 := h.op
  exact condStr_node c h hc (by omega) (fun i hi => ih i (h.each i hi) (Nat.le_trans (Cx.cnt_kid hne hi) hc)) w hI hmx
 ·exact condStr_leaf c h hop w hI hmx
end Go.Proofs.YtimjmjmpaicdbaaGreatDoor

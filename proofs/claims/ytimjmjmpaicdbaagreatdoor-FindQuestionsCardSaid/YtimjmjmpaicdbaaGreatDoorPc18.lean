/- Parts of the proof, no condition: CxTxt. -/
import Derived.Test.YtimjmjmpaicdbaaGreatDoorPc17
import Derived.Test.YtimjmjmpaicdbaaGreatDoorPc5
set_option maxRecDepth 100000
set_option maxHeartbeats 8000000
set_option linter.unusedSimpArgs false
set_option linter.unusedVariables false
namespace Go.Proofs.YtimjmjmpaicdbaaGreatDoor
open Go.RowKit Go.Sort Go.Shelf
def Cx.okTo (c : Cnd) (j : Nat) : Prop := ∀ i, i < j → (Cx.txt (c.kids i)).2 = 0
theorem Cx.okTo_zero (c : Cnd) : Cx.okTo c 0 := fun i h => absurd h (Nat.not_lt_zero _)
theorem Cx.okTo_succ {c : Cnd} {j : Nat} (h : Cx.okTo c j) (hj : (Cx.txt (c.kids j)).2 = 0) : Cx.okTo c (j + 1) := fun i hi => by
 by_cases e : i = j
 ·subst e; exact hj
 ·exact h i (by omega)
theorem Cx.txt_all {c : Cnd} (hne : c ≠ .zero) (hop : c.op ≤ 3) (h : Cx.okTo c c.kn) : Cx.txt c = (Cx.word c.op ++ Cx.jn (fun i => (Cx.txt (c.kids i)).1) c.kn ++ [41], 0) := by
 rw [Cx.txt_eq hne]
 unfold Cx.node
 rw [if_pos hop]
 exact if_pos h
theorem Cx.txt_not {c : Cnd} (hne : c ≠ .zero) (hop : c.op ≤ 3) {j : Nat} (hj : j < c.kn) (h : (Cx.txt (c.kids j)).2 ≠ 0) : Cx.txt c = ([], 1) := by
 rw [Cx.txt_eq hne]
 unfold Cx.node
 rw [if_pos hop]
 exact if_neg (fun g => h (g j hj))
theorem Cx.txt_leaf {c : Cnd} (hne : c ≠ .zero) (hop : ¬ c.op ≤ 3) : Cx.txt c = (Cx.word c.op ++ Cx.leafT c.op c.text c.low c.high c.lat c.lon, Cx.leafE c.op c.low c.high) := by
 rw [Cx.txt_eq hne]
 unfold Cx.node
 rw [if_neg hop]
noncomputable def Cx.kidsT (c : Cnd) (j : Nat) : List (List UInt8) := (List.range j).map fun i => (Cx.txt (c.kids i)).1
theorem Cx.kidsT_succ (c : Cnd) (j : Nat) : (Cx.kidsT c (j + 1)).map strV = (Cx.kidsT c j).map strV ++ [.string (Tx.mk (Cx.txt (c.kids j)).1)] := by
 unfold Cx.kidsT
 rw [List.range_succ, List.map_append, List.map_append]; rfl
theorem Cx.kidsT_join (c : Cnd) (j : Nat) : Lib.join (Cx.kidsT c j) [44, 32] = Cx.jn (fun i => (Cx.txt (c.kids i)).1) j := rfl
theorem Cnd.Good.places {c : Cnd} (h : c.Good) : ∀ k, k < c.an → (-90000000 ≤ c.lat k ∧ c.lat k ≤ 90000000) ∧ (-180000000 ≤ c.lon k ∧ c.lon k ≤ 180000000) := fun k hk => Cx.placeAt h hk
theorem condText_leaf (c : Cnd) (h : c.Good) (hop : ¬ c.op ≤ 3) (w : World) (hI : c.In w) (ht : Tx.Tab w) (hmx : Mx w) :
  Calls Tryz.prog 21 #[.agg #[.int .i64 c.op, .slice c.ka c.kn c.kc, .string c.text, .int .i64 c.low, .int .i64 c.high, .slice c.aa c.an c.ac]] w fun e w' => e = .returned (.tuple #[.string (Tx.mk (Cx.txt c).1), .int .i64 (Cx.txt c).2]) ∧ Below w.heap.size w w' := by
 rw [Cx.txt_leaf h.ne hop]
 have hr := hI.row
 rcases Cnd.ops h.op with g | g | g | g | g | g | g | g | g | g
 ·omega
 ·omega
 ·exact ctLeaf_4 _ _ _ _ _ _ _ _ _ _ _ _ w ht g (Cx.textB h (.inl g))
 ·exact ctLeaf_5 _ _ _ _ _ _ _ _ _ _ _ _ w ht g (Cx.textB h (.inr g))
 ·exact ctLeaf_6 _ _ _ _ _ _ _ _ _ _ _ _ w ht g (Cx.lowB h (.inl g))
 ·exact ctLeaf_7 _ _ _ _ _ _ _ _ _ _ _ _ w ht g (Cx.lowB h (.inr (.inl g))) ⟨(Cx.highB h (.inl g)).1, (Cx.highB h (.inl g)).2.1⟩
 ·exact ctLeaf_8 _ _ _ _ _ _ _ _ _ _ _ _ w ht g hmx
 ·rcases g with g | g | g | g | g | g
  ·exact ctLeaf_9 _ _ _ _ _ _ _ _ _ _ _ _ w ht g
  ·exact ctLeaf_10 _ _ _ _ _ _ _ _ _ _ _ _ w ht g
  ·exact ctLeaf_11 _ _ _ _ _ _ _ _ _ _ _ _ w ht g
  ·exact ctLeaf_12 _ _ _ _ _ _ _ _ _ _ _ _ w ht g
  ·exact ctLeaf_13 _ _ _ _ _ _ _ _ _ _ _ _ w ht g
  ·exact ctLeaf_16 _ _ _ _ _ _ _ _ _ _ _ _ w ht g
 ·exact ctLeaf_14 _ _ _ _ _ _ _ _ _ _ _ _ w ht g (Cx.lowB h (.inr (.inr (.inr g)))) (h.at1 g) h.places hr
 ·exact ctLeaf_15 _ _ _ _ _ _ _ _ _ _ _ _ w ht g (h.at2 g) h.places hr
theorem condText_node (c : Cnd) (h : c.Good) (hc : Cx.cnt c ≤ 100) (hop : c.op = 1 ∨ c.op = 2 ∨ c.op = 3)
  (ih : ∀ i, i < c.kn → ∀ w, (c.kids i).In w → Tx.Tab w → Mx w → Calls Tryz.prog 21 #[.agg #[.int .i64 (c.kids i).op, .slice (c.kids i).ka (c.kids i).kn (c.kids i).kc, .string (c.kids i).text, .int .i64 (c.kids i).low, .int .i64 (c.kids i).high, .slice (c.kids i).aa (c.kids i).an (c.kids i).ac]] w fun e w' => e = .returned (.tuple #[.string (Tx.mk (Cx.txt (c.kids i)).1), .int .i64 (Cx.txt (c.kids i)).2]) ∧ Below w.heap.size w w')
  (w : World) (hI : c.In w) (ht : Tx.Tab w) (hmx : Mx w) :
  Calls Tryz.prog 21 #[.agg #[.int .i64 c.op, .slice c.ka c.kn c.kc, .string c.text, .int .i64 c.low, .int .i64 c.high, .slice c.aa c.an c.ac]] w fun e w' => e = .returned (.tuple #[.string (Tx.mk (Cx.txt c).1), .int .i64 (Cx.txt c).2]) ∧ Below w.heap.size w w' := by
 obtain ⟨i0, hi, hz0, hz1', hz2⟩ := info_parts infoStr
 have HI0 := Lib.hid hi; have HI1 := Lib.hid hz0; have HI2 := Lib.hid hz1'; have HI3 := Lib.hid hz2
 have hop3 : c.op ≤ 3 := by omega
 have HALL := Lib.hid (Cx.txt_all h.ne hop3)
 have HNOT := Lib.hid (fun (j : Nat) (hj : j < c.kn) (g : (Cx.txt (c.kids j)).2 ≠ 0) => Cx.txt_not h.ne hop3 hj g)
 have HOR := Lib.hid (fun (j : Nat) (hj : j < c.kn) => Cx.txt_err (h.each j hj))
 have HJB := Lib.hid (fun (j : Nat) (hj : j ≤ c.kn) => Cx.jn_kids h hc hj)
 have HW := Lib.hid (fun W => opWord_is c.op h.op W)
 have hws := Cx.wrd_size c.op
 have HWD : Hid (∀ l, Tx.mk (Cx.word c.op ++ l ++ [41]) = Cx.wrd c.op ++ Tx.mk l ++ ⟨#[41]⟩) := Lib.hid fun l => by rw [← Tx.mk_append, ← Tx.mk_append]; rfl
 have hkn := h.few
 have HIH := Lib.hid ih
 have HI := Lib.hid hI; have HT := Lib.hid ht; have HM := Lib.hid hmx
 clear ih hI ht hmx hi hz0 hz1' hz2 h hc hop3
 obtain ⟨W1, hW1, hP, hz1, hB1⟩ := box w #[.int .i64 c.op, .slice c.ka c.kn c.kc, .string c.text, .int .i64 c.low, .int .i64 c.high, .slice c.aa c.an c.ac] 25
 have HW1 := Lib.hid hW1
 obtain ⟨q0, q1, q2, q3, q4, q5⟩ := hP.six
 clear hW1 hP q2 q3 q4 q5
 generalize Cx.wrd c.op = X at *
 generalize c.op = op at *
 rcases hop with rfl | rfl | rfl
 all_goals
  go_enter Tryz.func21, Tryz.ntmps21
  go_wp2_with fail
  rw [HW1.out]
  go_wp2_with (go_at_call 56; (with_reducible refine (HW.out _).mono ?_); rintro e wq ⟨rfl, hwq⟩; subst wq)
  have HB1 := Lib.hid hB1
  clear q0 q1 hB1 HW
  go_loopg [5, 24] c.kn (fun gk v i wr => ∃ j : Nat, j ≤ c.kn ∧ gk = c.kn - j ∧ i = .int .i64 j ∧ wr.ownsRow w.heap.size 9 1 v j ((Cx.kidsT c j).map strV) ∧ Cx.okTo c j ∧ Below w.heap.size w wr)
  case atStart => exact ⟨0, by omega, rfl, rfl, World.ownsRow_nil _ _ _ _, Cx.okTo_zero _, HB1.out⟩
  case round =>
   obtain ⟨j, hj, rfl, rfl, hown, hok, hB⟩ := hrel
   have HOK := Lib.hid hok
   clear hok
   by_cases hlt : j < c.kn
   ·obtain ⟨b, off, hka, hbl, hcell⟩ := (Cnd.In.keep hB HI.out).kid (by omega)
    rw [hka]
    obtain ⟨s0, s1, s2, s3, s4, s5⟩ := hcell j hlt
    clear hcell
    have HTN := Lib.hid (Cx.kidsT_succ c j)
    have hor := HOR.out j hlt
    have HNJ := Lib.hid (HNOT.out j hlt)
    have HON := Lib.hid (fun g => Cx.okTo_succ HOK.out (j := j) g)
    obtain ⟨x, hx⟩ : ∃ x, c.kids j = x := ⟨_, rfl⟩
    have hall := below_allocs hB (.cells #[.int .i64 x.op, .slice x.ka x.kn x.kc, .string x.text, .int .i64 x.low, .int .i64 x.high, .slice x.aa x.an x.ac] 25)
    have hCALL := HIH.out j hlt (wr.alloc (.cells #[.int .i64 x.op, .slice x.ka x.kn x.kc, .string x.text, .int .i64 x.low, .int .i64 x.high, .slice x.aa x.an x.ac] 25)) (Cnd.In.keep hall (HI.out.each j hlt)) (Tx.tab_below HT.out hall) (HM.out.below hall)
    rw [hx] at hCALL s0 s1 s2 s3 s4 s5 HTN hor HNJ HON
    obtain ⟨S, e0, hS, he0⟩ : ∃ S e0, Tx.mk (Cx.txt x).1 = S ∧ (Cx.txt x).2 = e0 := ⟨_, _, rfl, rfl⟩
    rw [hS] at HTN hCALL
    rw [he0] at hCALL hor HNJ HON
    have HCALL := Lib.hid hCALL
    have hownA := own_keepC hown (below_allocs (Below.refl _ _) (.cells #[.int .i64 x.op, .slice x.ka x.kn x.kc, .string x.text, .int .i64 x.low, .int .i64 x.high, .slice x.aa x.an x.ac] 25))
    have HBA := Lib.hid hall
    have hws2 := hB.size
    clear hCALL hx hS he0 hall
    have hj0 : (0 : Int) ≤ (j : Int) := by omega
    have hj1 : (j : Int) < (c.kn : Int) := by omega
    by_cases hz : e0 = 0
    ·subst hz
     have HON2 := Lib.hid (HON.out rfl)
     clear hor HNJ HON
     go_wp2_with (first
      | (go_at_call 21; refine HCALL.out.mono ?_; rintro e w7 ⟨rfl, hB7⟩; have hown7 := own_keepC hownA hB7; have hB07 := below_up HBA.out hB7; have hs7 := hB07.size)
      | (at_builtin; refine wpList_append_own2 _ rfl _ _ 83 rfl w.heap.size 9 i0 (.string ByteArray.empty) 1 16 Tryz.underlying83 HI0.out HI1.out HI2.out HI3.out rfl (by decide) _ _ _ rfl (hown7.alloc _) ⟨w7.heap.size, 0, none⟩ 1 1 [.string S] rfl (by decide) rfl (cell_one_new _ _ _) (by simp [Value.oneCell']) (by unfold maxLen; omega) (by omega) (by simp; omega) ?_; intro g8 cap8 w8 hown8 hgrow8 hnew8))
     have hBA7 := hB07.alloc hs7 (.cells #[.string S] 9)
     have HB8 := Lib.hid (below_grownC hBA7 (hown7.alloc (.cells #[.string S] 9)) hgrow8 (by simp; omega))
     rw [← hka]
     go_roundg (c.kn - (j + 1))
     case rel => exact ⟨j + 1, by omega, rfl, by go_num, by rw [HTN.out]; exact hown8, HON2.out, HB8.out⟩
     case measure => omega
    ·obtain rfl : e0 = 1 := by omega
     have HTX := Lib.hid (HNJ.out hz)
     clear hor HNJ HON hz
     go_wp2_with (go_at_call 21; refine HCALL.out.mono ?_; rintro e w7 ⟨rfl, hB7⟩)
     go_ret2
     exact ⟨by rw [HTX.out]; rfl, below_up HBA.out hB7⟩
   ·obtain rfl : j = c.kn := by omega
    have HTX := Lib.hid (HALL.out HOK.out)
    have hjb := HJB.out c.kn (by omega)
    have HJ := Lib.hid (join_is (Cx.kidsT c c.kn) [44, 32] w.heap.size _ c.kn wr hown (by omega) (by rw [Cx.kidsT_join]; omega))
    have hJs : (Tx.mk (Cx.jn (fun i => (Cx.txt (c.kids i)).1) c.kn)).size ≤ 60000 := by rw [Tx.mk_size]; exact hjb
    rw [Cx.kidsT_join] at HJ
    have HWL := Lib.hid (HWD.out (Cx.jn (fun i => (Cx.txt (c.kids i)).1) c.kn))
    generalize Tx.mk (Cx.jn (fun i => (Cx.txt (c.kids i)).1) c.kn) = J at *
    go_wp2_with (go_at_call 57; refine HJ.out.mono ?_; rintro e w4 ⟨rfl, hB4⟩)
    go_ret2
    exact ⟨by rw [HTX.out]; show _ = Ending.returned (.tuple #[.string (Tx.mk (Cx.word _ ++ _ ++ [41])), .int .i64 0]); rw [HWL.out]; rfl, below_up hB hB4⟩
theorem condText_is : ∀ (c : Cnd), c.Good → Cx.cnt c ≤ 100 → ∀ w, c.In w → Tx.Tab w → Mx w → Calls Tryz.prog 21 #[.agg #[.int .i64 c.op, .slice c.ka c.kn c.kc, .string c.text, .int .i64 c.low, .int .i64 c.high, .slice c.aa c.an c.ac]] w fun e w' => e = .returned (.tuple #[.string (Tx.mk (Cx.txt c).1), .int .i64 (Cx.txt c).2]) ∧ Below w.heap.size w w' := by
 refine Cnd.ind (fun h => absurd rfl h.ne) fun c hne ih h hc w hI ht hmx => ?_
 by_cases hop : c.op ≤ 3
 ·have h1 := h.op
  exact condText_node c h hc (by omega) (fun i hi => ih i (h.each i hi) (Nat.le_trans (Cx.cnt_kid hne hi) hc)) w hI ht hmx
 ·exact condText_leaf c h hop w hI ht hmx
end Go.Proofs.YtimjmjmpaicdbaaGreatDoor

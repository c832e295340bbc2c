/- Parts of the proof, no condition: RefAI, RefQ. -/
import Derived.Test.YtimjmjmpaicdbaaGreatDoorPk14
import Derived.Test.YtimjmjmpaicdbaaGreatDoorPk21
import Derived.Test.YtimjmjmpaicdbaaGreatDoorPk19
import Derived.Maps.RangeWalk
set_option maxRecDepth 100000
set_option maxHeartbeats 8000000
set_option linter.unusedSimpArgs false
set_option linter.unusedVariables false
namespace Go.Proofs.YtimjmjmpaicdbaaGreatDoor
open Go.RowKit Go.Sort Go.Shelf
theorem Blk.range {w : World} {b : Nat} {c : Array Value} {t : TypeId} (h : Blk w b c t) : w.rangeAt b 0 c.toList := fun j v hv => by
 rw [Nat.zero_add, h.cell, ← Array.getElem?_toList]; exact hv
def IntsCap (w : World) (xs : List Int) (e : Ending) (w' : World) : Prop :=
 ∃ (a : Option Addr) (ca : Nat), e = .returned (.slice a xs.length ca) ∧ xs.length ≤ ca ∧ ca ≤ 9223372036854775807 ∧ RowL w' a xs ∧ (0 < xs.length → ∃ g, a = some ⟨g, 0, none⟩) ∧ Below w.heap.size w w'
theorem idsR_cap (a : Option Addr) (n ca : Nat) (x : Nat → Ph) (w : World) (hx : Phs w a n x) (hn : n ≤ 100000) :
  Calls Tryz.prog 52 #[.slice a n ca] w (IntsCap w (Fd.idsL x n)) := by
 obtain ⟨i0, hi0, hy0, hy1, hy2⟩ := info_parts infoInt
 have HI0 := Lib.hid hi0; have HI1 := Lib.hid hy0; have HI2 := Lib.hid hy1; have HI3 := Lib.hid hy2
 have HX := Lib.hid hx
 clear hx hi0 hy0 hy1 hy2
 go_enter Tryz.func52, Tryz.ntmps52
 go_wp2_with fail
 go_loopg [3, 8] n (fun gk v i wr => ∃ j : Nat, j ≤ n ∧ gk = n - j ∧ i = .int .i64 j ∧ wr.ownsRow w.heap.size 3 1 v j ((Fd.idsL x j).map (Value.int .i64)) ∧ Below w.heap.size w wr)
 case atStart => exact ⟨0, by omega, rfl, rfl, World.ownsRow_nil _ _ _ _, Below.refl _ _⟩
 case round =>
  obtain ⟨j, hj, rfl, rfl, hown, hB⟩ := hrel
  have hsz := hB.size
  by_cases hlt : j < n
  ·have HXr := HX.out.keep hB
   obtain ⟨b, off, rfl, hb, hcell⟩ := HXr.row (by omega)
   obtain ⟨q0, q1, q2, q3, q4, q5, q6, q7, q8, q9, q10, q11, q12⟩ := hcell j hlt
   have HY := Lib.hid (Fd.idsL_succ x j)
   clear hcell HXr
   generalize x j = y at *
   generalize hL : Fd.idsL x j = L at *
   obtain ⟨W4, hW4, hP, hz4, hB4⟩ := bxP wr y
   have HW4 := Lib.hid hW4
   have hB04 := below_up hB hB4
   have hsz4 := hB04.size
   have HOWN4 := Lib.hid (own_keepH hown hB4)
   clear hW4 hown hL hz4
   obtain ⟨m0, m1, m2, m3, m4, m5, m6, m7, m8, m9, m10, m11, m12⟩ := hP.photo
   go_upto_region 5 with fail
   rw [HW4.out]
   clear q0 q1 q2 q3 q4 q5 q6 q7 q8 q9 q10 q11 q12
   go_wp2_with (at_builtin; refine wpList_append_own2 _ rfl _ _ 40 rfl w.heap.size 3 i0 (.int .i64 0) 1 8 Tryz.underlying40 HI0.out HI1.out HI2.out HI3.out rfl (by decide) _ _ _ rfl (HOWN4.out.alloc _) ⟨W4.heap.size, 0, none⟩ 1 1 [.int .i64 y.id] rfl (by decide) rfl (cell_one_new _ _ _) (by simp [Value.oneCell']) (by unfold maxLen; omega) (by omega) (by simp; omega) ?_; intro g8 cap8 w8 hown8 hgrow8 hnew8)
   have HOWN8 := Lib.hid hown8
   have HB8 := Lib.hid ((below_allocs hB04 (.cells #[.int .i64 y.id] 3)).grown hgrow8 (by simp; omega) (fun k e => (HOWN4.out.lt k e).1))
   clear hown8 hgrow8 hnew8
   go_roundg (n - (j + 1))
   case rel => exact ⟨j + 1, by omega, rfl, by go_num, by rw [HY.out, List.map_append]; exact HOWN8.out, HB8.out⟩
   case measure => omega
  ·obtain rfl : j = n := by omega
   have hll := Fd.idsL_len x j
   generalize Fd.idsL x j = L at *
   rcases hown.2 with ⟨rfl, h0⟩ | ⟨g, cap, cur, rfl, hg, hcell, hk, hm, _⟩
   ·subst h0
    obtain rfl := List.eq_nil_of_length_eq_zero hll
    clear hown hll
    go_wp2_with fail
    go_ret
    exact ⟨none, 0, rfl, Nat.le_refl _, by omega, RowL.nil _ _, fun h => absurd h (by simp), hB⟩
   ·have hm2 : cap ≤ 9223372036854775807 := hm
    have HR := Lib.hid (RowL.of_own hown)
    have HLL := Lib.hid hll
    have HK := Lib.hid (show j ≤ cap from hk)
    clear hown hcell hm hll hk
    go_wp2_with fail
    go_ret
    exact ⟨_, _, by rw [HLL.out]; rfl, by rw [HLL.out]; exact HK.out, hm2, HR.out, fun _ => ⟨g, rfl⟩, hB⟩
theorem RowL.drop {w : World} {b off : Nat} {xs : List Int} (h : RowL w (some ⟨b, off, none⟩) xs) (k : Nat) : RowL w (some ⟨b, off + k, none⟩) (xs.drop k) := by
 intro h0
 rw [List.length_drop] at h0
 obtain ⟨b', off', e, hb, hc⟩ := h (by omega)
 cases e
 refine ⟨_, _, rfl, hb, fun i hi => ?_⟩
 rw [List.length_drop] at hi
 have := hc (k + i) (by omega)
 show w.cell? ⟨b, off + k + i, none⟩ = some (.int .i64 ((xs.drop k)[i]?.getD 0))
 rw [List.getElem?_drop, Nat.add_assoc]
 exact this
theorem RowL.take {w : World} {a : Option Addr} {xs : List Int} (h : RowL w a xs) (k : Nat) : RowL w a (xs.take k) := by
 intro h0
 rw [List.length_take] at h0
 obtain ⟨b, off, e, hb, hc⟩ := h (by omega)
 refine ⟨b, off, e, hb, fun i hi => ?_⟩
 rw [List.length_take] at hi
 have := hc i (by omega)
 show w.cell? ⟨b, off + i, none⟩ = some (.int .i64 ((xs.take k)[i]?.getD 0))
 rw [List.getElem?_take, if_pos (by omega)]
 exact this
def QInPost (w : World) (l : List Ak.Srt) (fn mn : Nat) (L : List Ph) (e : Ending) (w' : World) : Prop :=
 ∃ (a : Option Addr) (ca : Nat) (M : List Ph), e = .returned (.slice a ((Ak.win fn mn M).map Ph.id).length ca) ∧ List.Perm M L ∧ M.Pairwise (Ak.lt l) ∧ RowL w' a ((Ak.win fn mn M).map Ph.id) ∧ Below w.heap.size w w'
theorem askIn_is (c : Cnd) (l : List Ak.Srt) (hk : ∀ s, s ∈ l → 1 ≤ s.by_ ∧ s.by_ ≤ 5) (hl : l.length ≤ 1000000) (sa : Option Addr) (sc fn mn : Nat) (hfm : fn ≤ 1000 ∧ mn ≤ 1000) (a : Option Addr) (n ca : Nat) (x : Nat → Ph) (w : World) (hx : Phs w a n x) (hF : ∀ i, i < n → (x i).Fits) (hl0 : Fd.lerr x n = 0) (hc : c.In w) (hG : c.Fits) (hmx : MxL w) (hc0 : c.err = 0) (hr : RowE Ak.eS w sa l) :
  Calls Tryz.prog 18 #[.slice a n ca, .agg #[.int .i64 c.op, .slice c.ka c.kn c.kc, .string c.text, .int .i64 c.low, .int .i64 c.high, .slice c.aa c.an c.ac, .slice sa l.length sc, .int .i64 fn, .int .i64 mn]] w (QInPost w l fn mn (Fd.sel (fun p => c.holds p) x n)) := by
 have hfew := Fd.lerr_few hl0
 have hle := Fd.sel_le (fun p => c.holds p) x n
 obtain ⟨W1, hW1, hQ, hz1, hB1⟩ := box w #[.int .i64 c.op, .slice c.ka c.kn c.kc, .string c.text, .int .i64 c.low, .int .i64 c.high, .slice c.aa c.an c.ac, .slice sa l.length sc, .int .i64 fn, .int .i64 mn] 33
 have HW1 := Lib.hid hW1
 have HFD := Lib.hid (found_is (fun p => c.holds p) c a n ca x W1 (hx.keep hB1) (fun V i hi hV => holdsFor_is c V (x i) (Cnd.In.keep (below_up hB1 hV) hc) hG (Cnd.good_of hc hc0) ((hx.each i hi).keep (below_up hB1 hV)) (Ph.right_of (hF i hi) (Fd.lerr_each hl0 i hi)) (hmx.below (below_up hB1 hV))) hfew)
 have hne := Ak.sel_ne (f := fun p => c.holds p) (Ak.ids_ne hl0)
 have hR : ∀ i, i < n → (x i).Right := fun i hi => Ph.right_of (hF i hi) (Fd.lerr_each hl0 i hi)
 have hdm : ∀ p, p ∈ Fd.sel (fun p => c.holds p) x n → Ak.Dom p := fun p hp => by
  obtain ⟨i, hi, rfl⟩ := Fd.sel_mem hp
  exact ⟨(hR i hi).shape.1, (hR i hi).shape.2.1⟩
 have HIN0 := Lib.hid (fun W (hb : Below w.heap.size w W) p (hp : p ∈ Fd.sel (fun p => c.holds p) x n) => (by
  obtain ⟨i, hi, rfl⟩ := Fd.sel_mem hp
  exact (hx.each i hi).keep hb : p.In W))
 generalize hS : Fd.sel (fun p => c.holds p) x n = S at *
 have HNE := Lib.hid hne; have HDM := Lib.hid hdm
 have HAH := Lib.hid (fun (p r : Ph) (hp : Ak.Dom p) (hr' : Ak.Dom r) W (hb : Below W1.heap.size W1 W) => aheadR_is l hk hl p r hp hr' sa sc W (hr.keep (below_up hB1 hb)))
 obtain ⟨q0, q1, q2, q3, q4, q5, q6, q7, q8⟩ := hQ.nine
 have HQ := Lib.hid hQ; have HB1 := Lib.hid hB1
 obtain ⟨ns, hns⟩ : ∃ ns, S.length = ns := ⟨_, rfl⟩
 have HNS := Lib.hid hns
 have hns2 : ns ≤ 1000 := by omega
 obtain ⟨nl, hnl⟩ : ∃ nl, l.length = nl := ⟨_, rfl⟩
 have HNL := Lib.hid hnl
 rw [hnl] at q6 HW1 HQ HAH
 rw [hnl]
 clear hS hW1 hz1 hc hG hr hQ hB1 hx hF hl0 hmx hc0 hR hne hdm hle hns hk hnl
 have hz1 : w.heap.size < W1.heap.size := HQ.out.lt
 go_enter Tryz.func18, Tryz.ntmps18
 go_upto_region 1 with fail
 rw [HW1.out]
 go_wp2_with (go_at_call 49; (with_reducible refine HFD.out.mono ?_); rintro e w7 ⟨a7, c7, rfl, hk7, hm7, hS7, hB7⟩; rw [HNS.out])
 have HS7 := Lib.hid (RowE.of_phs hS7)
 have HB7 := Lib.hid hB7
 have hs7 := hB7.size
 have HQ7 := Lib.hid (HQ.out.keep hB7)
 clear hS7 hB7 q0 q1 q2 q3 q4 q5 q6 q7 q8
 go_loopg [5, 15] ns (fun gk v i wr => ∃ (j : Nat) (O : List Ph), j ≤ ns ∧ gk = ns - j ∧ i = .int .i64 j ∧ List.Perm O (S.take j) ∧ O.Pairwise (Ak.lt l) ∧ OwnV wr w7.heap.size 85 13 v j (phE.flat O) ∧ Below w7.heap.size w7 wr)
 case atStart => exact ⟨0, [], by omega, rfl, rfl, List.Perm.refl _, List.Pairwise.nil, .inl ⟨rfl, rfl, rfl⟩, Below.refl _ _⟩
 case round =>
  obtain ⟨j, O, hj, rfl, rfl, hpe, hso, how, hBr⟩ := hrel
  obtain ⟨V0, hV0⟩ : ∃ V0, V0 = wr := ⟨_, rfl⟩
  subst hV0
  have HPE := Lib.hid hpe; have HSO := Lib.hid hso; have HOW := Lib.hid how
  have hOl : O.length = j := by have := hpe.length_eq; rw [List.length_take, HNS.out] at this; omega
  have HOL := Lib.hid hOl
  clear hpe hso how hOl
  by_cases hlt : j < ns
  ·obtain ⟨y, hy⟩ : ∃ y, S[j]? = some y := ⟨_, List.getElem?_eq_getElem (by rw [HNS.out]; exact hlt)⟩
   have hym := List.mem_of_getElem? hy
   have HST : Hid (S.take (j + 1) = S.take j ++ [y]) := Lib.hid (by rw [List.take_add_one, hy]; rfl)
   have HDY := Lib.hid (HDM.out y hym)
   have HID : Hid (∀ q, q ∈ O → q.id ≠ y.id ∧ Ak.Dom q) := Lib.hid (fun q hq => by
    have hq1 := HPE.out.mem_iff.1 hq
    refine ⟨?_, HDM.out q (List.mem_of_mem_take hq1)⟩
    obtain ⟨hlt', hg⟩ := List.getElem?_eq_some_iff.1 hy
    have h2 := HNE.out
    rw [← List.take_append_drop j S, List.pairwise_append] at h2
    exact h2.2.2 q hq1 y (by rw [List.drop_eq_getElem_cons hlt', hg]; exact List.mem_cons_self ..))
   obtain ⟨b7, o7, ha7, hb7, hcell⟩ := (HS7.out.keep hBr) (by rw [HNS.out]; omega)
   obtain ⟨q0, q1, q2, q3, q4, q5, q6, q7, q8, q9, q10, q11, q12⟩ := PhAt.of_cells (w := V0) (b := b7) (o := o7 + j * 13) (p := y) (fun i hi => by
    have hl : i < (Fd.phCells y).length := hi
    rw [List.getElem?_eq_getElem hl]
    exact hcell j y hy i _ (List.getElem?_eq_getElem hl))
   obtain ⟨W4, hW4, hP, hz4, hB4⟩ := bxP V0 y
   have HW4 := Lib.hid hW4
   have HPB := Lib.hid hP
   have hBr4 := below_up hBr hB4
   have hsr := hBr.size
   clear hcell hy hym hW4 hP
   obtain ⟨m0, m1, m2, m3, m4, m5, m6, m7, m8, m9, m10, m11, m12⟩ := HPB.out.photo
   obtain ⟨av, cv, hvo⟩ : ∃ av cv, u5 = .slice av j cv := by obtain ⟨p, q, e, _⟩ := HOW.out.form; exact ⟨p, q, e⟩
   rw [hvo] at HOW
   rw [hvo]
   clear hvo
   rw [ha7]
   have hj1 : (j : Int) < (ns : Int) := by omega
   go_upto_region 5 with fail
   rw [HW4.out]
   clear q0 q1 q2 q3 q4 q5 q6 q7 q8 q9 q10 q11 q12 m0 m1 m2 m3 m4 m5 m6 m7 m8 m9 m10 m11 m12
   go_wp2_with fail
   go_loopg [8] j (fun gk s8 wr2 => ∃ t : Nat, s8 = .int .i64 t ∧ t ≤ j ∧ gk = 0 + t ∧ (∀ z ∈ O.drop t, Ak.lt l y z) ∧ Below W4.heap.size W4 wr2)
   case atStart => exact ⟨j, rfl, Nat.le_refl _, by omega, fun z hz => (by rw [List.drop_eq_nil_of_le (by rw [HOL.out]; omega)] at hz; cases hz), Below.refl _ _⟩
   case round =>
    obtain ⟨t, rfl, ht, rfl, hup, hB5w⟩ := hrel
    have HHI := Lib.hid hup
    clear hup
    cases t with
    | zero =>
      have HLO : Hid (∀ z ∈ O.take 0, Ak.lt l z y) := Lib.hid (fun z hz => by rw [List.take_zero] at hz; cases hz)
      have hja : ¬ ((0 : Int) < ((0 : Nat) : Int)) := by omega
      go_wp2_with fail
      go_big_region
      have hBd := hB5w.drew
      generalize wr.drew = W5 at *
      have HNEW := Lib.hid (And.intro (Ak.insert_sorted (p := y) HSO.out HHI.out HLO.out) ((Ak.insert_perm O y (0)).trans (HPE.out.append_right [y])))
      have HINS := Lib.hid (fun V (hb : Below W4.heap.size W4 V) (bv : Nat) (hbv : V.heap[bv]? = some (.cells #[.int .i64 y.id, .string y.file, .int .i64 y.mom, .int .i64 y.zone, .slice y.wa y.wn y.wc, .int .i64 y.W, .int .i64 y.H, .int .i64 y.turn, .int .i64 y.stars, .slice y.ta y.tn y.tc, .string y.cap, .slice y.pa y.pn y.pc, .bool y.hid] 85 (0, 0))) (hge : W4.heap.size ≤ bv) => show Calls Tryz.prog 51 #[.slice av j cv, .int .i64 (0), .slice (some ⟨bv, 0, none⟩) 1 1] V (OwnPost V w7.heap.size 85 13 (.slice av j cv) (j + 1) ((phE.flat O).take ((0) * 13) ++ Fd.phCells y ++ (phE.flat O).drop ((0) * 13))) from ph_ins w7.heap.size j (0) (.slice av j cv) (phE.flat O) (Fd.phCells y) V (HOW.out.keep (below_up hB4 hb)) (by have := hb.size; have := hBr4.size; omega) (by omega) (by omega) (phE.flat_one O) bv #[.int .i64 y.id, .string y.file, .int .i64 y.mom, .int .i64 y.zone, .slice y.wa y.wn y.wc, .int .i64 y.W, .int .i64 y.H, .int .i64 y.turn, .int .i64 y.stars, .slice y.ta y.tn y.tc, .string y.cap, .slice y.pa y.pn y.pc, .bool y.hid] 85 hbv (fun e => by have := (HOW.out.lt bv e).2; have := hB4.size; omega) rfl rfl (phCells_one y))
      obtain ⟨m0, m1, m2, m3, m4, m5, m6, m7, m8, m9, m10, m11, m12⟩ := (HPB.out.keep (hBd)).photo
      have HNV : Hid (∀ o, ((W5).alloc o).heap[(W5).heap.size]? = some o) := Lib.hid (fun o => heap_alloc_new (W5) o)
      have HGE : Hid (W4.heap.size ≤ (W5).heap.size) := Lib.hid ((hBd).size)
      go_wp2_with (go_at_call 51; (with_reducible refine (HINS.out _ (below_allocs (hBd) _) (W5).heap.size (HNV.out _) HGE.out).mono ?_); rintro e w8 ⟨g8, c8, rfl, hc8, hg8, hn8⟩; have HC8 := Lib.hid hc8; have HG8 := Lib.hid hg8; have HN8 := Lib.hid hn8; clear hc8 hg8 hn8)
      have HC9 : Hid (OwnV w8 w7.heap.size 85 13 (.slice (some ⟨g8, 0, none⟩) (j + 1) c8) (j + 1) (phE.flat (O.take (0) ++ [y] ++ O.drop (0)))) := Lib.hid (.inr ⟨g8, c8, rfl, by
       have h := HC8.out
       rw [phE.flat_append, phE.flat_snoc, ← phE.flat_take, ← phE.flat_drop]
       exact h⟩)
      have HB9 := Lib.hid ((below_allocs (below_up hBr4 (hBd)) (.cells #[.int .i64 y.id, .string y.file, .int .i64 y.mom, .int .i64 y.zone, .slice y.wa y.wn y.wc, .int .i64 y.W, .int .i64 y.H, .int .i64 y.turn, .int .i64 y.stars, .slice y.ta y.tn y.tc, .string y.cap, .slice y.pa y.pn y.pc, .bool y.hid] 85)).grown HG8.out (by simp; have := hBr4.size; have := (hBd).size; omega) (fun b h => (HOW.out.lt b h).1))
      rw [← ha7]
      go_roundg (ns - (j + 1))
      case rel => exact ⟨j + 1, O.take (0) ++ [y] ++ O.drop (0), by omega, rfl, by go_num, by rw [HST.out]; exact HNEW.out.2, HNEW.out.1, HC9.out, HB9.out⟩
      case measure => omega
    | succ t =>
      obtain ⟨z, hz⟩ : ∃ z, O[t]? = some z := ⟨_, List.getElem?_eq_getElem (by rw [HOL.out]; omega)⟩
      have hzm := List.mem_of_getElem? hz
      obtain ⟨g, cap, hge⟩ : ∃ g cap, Value.slice av j cv = .slice (some ⟨g, 0, none⟩) j cap ∧ OwnC V0 w7.heap.size 85 13 g j cap (phE.flat O) := by
       rcases HOW.out with ⟨_, h0, _⟩ | h
       ·omega
       ·exact h
      obtain ⟨hge, hoc⟩ := hge
      have hav : av = some ⟨g, 0, none⟩ ∧ cv = cap := by cases hge; exact ⟨rfl, rfl⟩
      obtain ⟨rfl, rfl⟩ := hav
      have hB5d : Below V0.heap.size V0 wr.drew := (below_up hB4 hB5w).drew
      have hS5 : SRow phE wr.drew w7.heap.size 85 g cv j O := ⟨hoc.keep hB5d, HOL.out⟩
      have l2 := hS5.range hz
      have l1 := (HPB.out.keep hB5w.drew).range
      have q6 := (HQ7.out.keep (below_up hBr4 hB5w.drew)).nine.2.2.2.2.2.2.1
      have hcc := HAH.out y z HDY.out (HID.out z hzm).2 wr.drew (below_up HB7.out (below_up hBr4 hB5w.drew))
      have HID1 := Lib.hid (HID.out z hzm).1
      have HZ := Lib.hid hz
      have hlcy : (Fd.phCells y).length = 13 := rfl
      have hlcz : (Fd.phCells z).length = 13 := rfl
      have hcc2 : Calls Tryz.prog 50 #[.agg (Fd.phCells y).toArray, .agg (Fd.phCells z).toArray, .slice sa nl sc] wr.drew fun e w' => e = .returned (.bool (decide (Ak.many l y z < 0))) ∧ Below wr.drew.heap.size wr.drew w' := hcc
      have l1 : wr.drew.rangeAt V0.heap.size 0 (Fd.phCells y) := l1
      have l2 : wr.drew.rangeAt g (t * 13) (Fd.phCells z) := l2
      clear hcc hzm hS5 hoc hge hz
      obtain ⟨cy, hcy⟩ : ∃ cy, Fd.phCells y = cy := ⟨_, rfl⟩
      obtain ⟨cz, hcz⟩ : ∃ cz, Fd.phCells z = cz := ⟨_, rfl⟩
      have HCY := Lib.hid hcy
      rw [hcy] at l1 hlcy hcc2
      rw [hcz] at l2 hlcz hcc2
      clear hcy hcz
      have HC0 : wr.drew.rangeAt V0.heap.size 0 cy ∧ wr.drew.rangeAt g (t * 13) cz ∧ wr.drew.cell? ⟨w.heap.size, 6, none⟩ = some (.slice sa nl sc) := ⟨l1, l2, q6⟩
      have ep : (((t + 1 : Nat) : Int)) = (t : Int) + 1 := by omega
      rw [ep]
      have hja : (0 : Int) < (t : Int) + 1 := by omega
      have i0 : (0 : Int) ≤ (t : Int) := by omega
      have i1 : (t : Int) < (j : Int) := by omega
      have ew : IntKind.i64.wrap (t : Int) = (t : Int) := by rw [IntKind.wrap_i64]; omega
      clear ep l1 l2 q6
      go_wp2_with fail
      cases hb : decide (Ak.many l y z < 0)
      ·rw [hb] at hcc2
       have HCC := Lib.hid hcc2
       have HLO : Hid (∀ u ∈ O.take (t + 1), Ak.lt l u y) := Lib.hid (Ak.stop_before HSO.out HZ.out (fun h => (of_decide_eq_false hb) h) HID1.out)
       clear hcc2 hb
       refine wp_region_until (fun W => W.rangeAt V0.heap.size 0 cy ∧ W.rangeAt g (t * 13) cz ∧ W.cell? ⟨w.heap.size, 6, none⟩ = some (.slice sa nl sc)) 11 (by kernel_rfl) ?_
       refine anyM_put0 (i := 0) (v := ?_) (some 21) rfl rfl (by decide) (by kernel_rfl) (by kernel_rfl) (by kernel_rfl) (fun _ _ _ h => h) (Or.inl ⟨by rfl, ?_⟩) (fun _ => HC0) ?_
       rotate_left
       ·(intro W _; go_simp; try (with_reducible rfl))
       go_frame
       refine anyM_put0 (i := 1) (v := ?_) (some 22) rfl rfl (by decide) (by kernel_rfl) (by kernel_rfl) (by kernel_rfl) (fun _ _ _ h => h) (Or.inl ⟨by rfl, ?_⟩) (fun _ => HC0) ?_
       rotate_left
       ·(intro W _; go_simp; try (with_reducible rfl))
       go_frame
       refine anyM_put0 (i := 2) (v := ?_) (some 23) rfl rfl (by decide) (by kernel_rfl) (by kernel_rfl) (by kernel_rfl) (fun _ _ _ h => h) (Or.inl ⟨by rfl, ?_⟩) (fun _ => HC0) ?_
       rotate_left
       ·(intro W _; go_simp; try (with_reducible rfl))
       go_frame
       refine anyM_putM (i := 3) (v := .agg (List.toArray cy)) (some 24) rfl rfl rfl (by kernel_rfl) (by decide) (by kernel_rfl) (by kernel_rfl) (by kernel_rfl) (fun _ _ _ h => h) ?_ (by rfl) HC0 ?_
       ·refine yieldsIf_load_mid ?_ _ _ rfl (V0.heap.size) (0) ?_ cy _ ?_ Tryz.underlying85 ?_ ?_
        ·kernel_rfl
        ·kernel_rfl
        ·(intro W hSw; exact hSw.1)
        ·rfl
        ·(rw [hlcy]; kernel_rfl)
       go_frame
       refine anyM_put0 (i := 4) (v := ?_) (some 25) rfl rfl (by decide) (by kernel_rfl) (by kernel_rfl) (by kernel_rfl) (fun _ _ _ h => h) (Or.inl ⟨by rfl, ?_⟩) (fun _ => HC0) ?_
       rotate_left
       ·(intro W _; go_simp; try (with_reducible rfl))
       go_frame
       refine anyM_put0 (i := 5) (v := ?_) (some 26) rfl rfl (by decide) (by kernel_rfl) (by kernel_rfl) (by kernel_rfl) (fun _ _ _ h => h) (Or.inl ⟨by rfl, ?_⟩) (fun _ => HC0) ?_
       rotate_left
       ·(intro W _; go_simp; try (with_reducible rfl))
       go_frame
       refine anyM_put0 (i := 6) (v := ?_) (some 27) rfl rfl (by decide) (by kernel_rfl) (by kernel_rfl) (by kernel_rfl) (fun _ _ _ h => h) (Or.inl ⟨by rfl, ?_⟩) (fun _ => HC0) ?_
       rotate_left
       ·(intro W _; go_simp; try (with_reducible rfl))
       go_frame
       refine anyM_put0 (i := 7) (v := .pointer (some ⟨g, t * 13, none⟩)) (some 28) rfl rfl (by decide) (by kernel_rfl) (by kernel_rfl) (by kernel_rfl) (fun _ _ _ h => h) (Or.inl ⟨by rfl, ?_⟩) (fun _ => HC0) ?_
       ·(intro W _; go_simp; try (with_reducible rfl))
       go_frame
       refine anyM_putM (i := 8) (v := .agg (List.toArray cz)) (some 29) rfl rfl rfl (by kernel_rfl) (by decide) (by kernel_rfl) (by kernel_rfl) (by kernel_rfl) (fun _ _ _ h => h) ?_ (by rfl) HC0 ?_
       ·refine yieldsIf_load_mid ?_ _ _ rfl (g) (t * 13) ?_ cz _ ?_ Tryz.underlying85 ?_ ?_
        ·kernel_rfl
        ·kernel_rfl
        ·(intro W hSw; exact hSw.2.1)
        ·rfl
        ·(rw [hlcz]; kernel_rfl)
       go_frame
       refine anyM_put0 (i := 9) (v := ?_) (some 30) rfl rfl (by decide) (by kernel_rfl) (by kernel_rfl) (by kernel_rfl) (fun _ _ _ h => h) (Or.inl ⟨by rfl, ?_⟩) (fun _ => HC0) ?_
       rotate_left
       ·(intro W _; go_simp; try (with_reducible rfl))
       go_frame
       refine anyM_putM (i := 10) (v := .slice sa nl sc) (some 31) rfl rfl rfl (by kernel_rfl) (by decide) (by kernel_rfl) (by kernel_rfl) (by kernel_rfl) (fun _ _ _ h => h) (Or.inl ⟨by rfl, ?_⟩) (by rfl) HC0 ?_
       ·(intro W hSw; have hSq := hSw.2.2; go_simp; try (with_reducible rfl))
       go_frame
       refine anyM_ready (rs := [11]) (by kernel_rfl) (by simp) ?_
       apply ReadyM.cons
       ·rfl
       rotate_left
       ·exact ReadyM.nil
       intro K hK
       refine if_wanted ?_ ?_
       ·kernel_rfl
       go_simp
       refine HCC.out.mono ?_
       rintro e w5 ⟨rfl, hB5⟩
       refine hK.out _ _ (fun h => absurd h (by simp)) ?_
       clear hK K
       try go_frame
       refine anyM_ready (rs := [12]) (by kernel_rfl) (by simp) ?_
       apply ReadyM.cons
       ·rfl
       rotate_left
       ·exact ReadyM.nil
       intro K hK
       refine if_wanted ?_ ?_
       ·kernel_rfl
       refine wp_value_run (v := ?_) (some 33) ?_ ?_ ?_
       rotate_left
       ·rfl
       ·(go_simp; try (with_reducible rfl))
       refine hK.out _ _ (fun h => absurd h (by simp)) ?_
       clear hK K
       go_frame
       refine anyM_done (by kernel_rfl) ?_ _
       have HNEW := Lib.hid (And.intro (Ak.insert_sorted (p := y) HSO.out HHI.out HLO.out) ((Ak.insert_perm O y (t + 1)).trans (HPE.out.append_right [y])))
       have HINS := Lib.hid (fun V (hb : Below W4.heap.size W4 V) (bv : Nat) (hbv : V.heap[bv]? = some (.cells #[.int .i64 y.id, .string y.file, .int .i64 y.mom, .int .i64 y.zone, .slice y.wa y.wn y.wc, .int .i64 y.W, .int .i64 y.H, .int .i64 y.turn, .int .i64 y.stars, .slice y.ta y.tn y.tc, .string y.cap, .slice y.pa y.pn y.pc, .bool y.hid] 85 (0, 0))) (hge : W4.heap.size ≤ bv) => show Calls Tryz.prog 51 #[.slice (some ⟨g, 0, none⟩) j cv, .int .i64 ((t : Int) + 1), .slice (some ⟨bv, 0, none⟩) 1 1] V (OwnPost V w7.heap.size 85 13 (.slice (some ⟨g, 0, none⟩) j cv) (j + 1) ((phE.flat O).take ((t + 1) * 13) ++ Fd.phCells y ++ (phE.flat O).drop ((t + 1) * 13))) from ph_ins w7.heap.size j (t + 1) (.slice (some ⟨g, 0, none⟩) j cv) (phE.flat O) (Fd.phCells y) V (HOW.out.keep (below_up hB4 hb)) (by have := hb.size; have := hBr4.size; omega) (by omega) (by omega) (phE.flat_one O) bv #[.int .i64 y.id, .string y.file, .int .i64 y.mom, .int .i64 y.zone, .slice y.wa y.wn y.wc, .int .i64 y.W, .int .i64 y.H, .int .i64 y.turn, .int .i64 y.stars, .slice y.ta y.tn y.tc, .string y.cap, .slice y.pa y.pn y.pc, .bool y.hid] 85 hbv (fun e => by have := (HOW.out.lt bv e).2; have := hB4.size; omega) rfl rfl (phCells_one y))
       obtain ⟨m0, m1, m2, m3, m4, m5, m6, m7, m8, m9, m10, m11, m12⟩ := (HPB.out.keep ((below_up hB5w.drew hB5))).photo
       have HNV : Hid (∀ o, ((w5).alloc o).heap[(w5).heap.size]? = some o) := Lib.hid (fun o => heap_alloc_new (w5) o)
       have HGE : Hid (W4.heap.size ≤ (w5).heap.size) := Lib.hid (((below_up hB5w.drew hB5)).size)
       go_wp2_with (go_at_call 51; (with_reducible refine (HINS.out _ (below_allocs ((below_up hB5w.drew hB5)) _) (w5).heap.size (HNV.out _) HGE.out).mono ?_); rintro e w8 ⟨g8, c8, rfl, hc8, hg8, hn8⟩; have HC8 := Lib.hid hc8; have HG8 := Lib.hid hg8; have HN8 := Lib.hid hn8; clear hc8 hg8 hn8)
       have HC9 : Hid (OwnV w8 w7.heap.size 85 13 (.slice (some ⟨g8, 0, none⟩) (j + 1) c8) (j + 1) (phE.flat (O.take (t + 1) ++ [y] ++ O.drop (t + 1)))) := Lib.hid (.inr ⟨g8, c8, rfl, by
        have h := HC8.out
        rw [phE.flat_append, phE.flat_snoc, ← phE.flat_take, ← phE.flat_drop]
        exact h⟩)
       have HB9 := Lib.hid ((below_allocs (below_up hBr4 ((below_up hB5w.drew hB5))) (.cells #[.int .i64 y.id, .string y.file, .int .i64 y.mom, .int .i64 y.zone, .slice y.wa y.wn y.wc, .int .i64 y.W, .int .i64 y.H, .int .i64 y.turn, .int .i64 y.stars, .slice y.ta y.tn y.tc, .string y.cap, .slice y.pa y.pn y.pc, .bool y.hid] 85)).grown HG8.out (by simp; have := hBr4.size; have := ((below_up hB5w.drew hB5)).size; omega) (fun b h => (HOW.out.lt b h).1))
       rw [← ha7]
       go_roundg (ns - (j + 1))
       case rel => exact ⟨j + 1, O.take (t + 1) ++ [y] ++ O.drop (t + 1), by omega, rfl, by go_num, by rw [HST.out]; exact HNEW.out.2, HNEW.out.1, HC9.out, HB9.out⟩
       case measure => omega
      ·rw [hb] at hcc2
       have HCC := Lib.hid hcc2
       have HUP : Hid (∀ u ∈ O.drop t, Ak.lt l y u) := Lib.hid (fun u hu => by
        rw [Stb.drop_more HZ.out] at hu
        rcases List.mem_cons.1 hu with rfl | hu
        ·exact (of_decide_eq_true hb : Ak.many l y _ < 0)
        ·exact HHI.out u hu)
       clear hcc2 hb
       refine wp_region_until (fun W => W.rangeAt V0.heap.size 0 cy ∧ W.rangeAt g (t * 13) cz ∧ W.cell? ⟨w.heap.size, 6, none⟩ = some (.slice sa nl sc)) 11 (by kernel_rfl) ?_
       refine anyM_put0 (i := 0) (v := ?_) (some 21) rfl rfl (by decide) (by kernel_rfl) (by kernel_rfl) (by kernel_rfl) (fun _ _ _ h => h) (Or.inl ⟨by rfl, ?_⟩) (fun _ => HC0) ?_
       rotate_left
       ·(intro W _; go_simp; try (with_reducible rfl))
       go_frame
       refine anyM_put0 (i := 1) (v := ?_) (some 22) rfl rfl (by decide) (by kernel_rfl) (by kernel_rfl) (by kernel_rfl) (fun _ _ _ h => h) (Or.inl ⟨by rfl, ?_⟩) (fun _ => HC0) ?_
       rotate_left
       ·(intro W _; go_simp; try (with_reducible rfl))
       go_frame
       refine anyM_put0 (i := 2) (v := ?_) (some 23) rfl rfl (by decide) (by kernel_rfl) (by kernel_rfl) (by kernel_rfl) (fun _ _ _ h => h) (Or.inl ⟨by rfl, ?_⟩) (fun _ => HC0) ?_
       rotate_left
       ·(intro W _; go_simp; try (with_reducible rfl))
       go_frame
       refine anyM_putM (i := 3) (v := .agg (List.toArray cy)) (some 24) rfl rfl rfl (by kernel_rfl) (by decide) (by kernel_rfl) (by kernel_rfl) (by kernel_rfl) (fun _ _ _ h => h) ?_ (by rfl) HC0 ?_
       ·refine yieldsIf_load_mid ?_ _ _ rfl (V0.heap.size) (0) ?_ cy _ ?_ Tryz.underlying85 ?_ ?_
        ·kernel_rfl
        ·kernel_rfl
        ·(intro W hSw; exact hSw.1)
        ·rfl
        ·(rw [hlcy]; kernel_rfl)
       go_frame
       refine anyM_put0 (i := 4) (v := ?_) (some 25) rfl rfl (by decide) (by kernel_rfl) (by kernel_rfl) (by kernel_rfl) (fun _ _ _ h => h) (Or.inl ⟨by rfl, ?_⟩) (fun _ => HC0) ?_
       rotate_left
       ·(intro W _; go_simp; try (with_reducible rfl))
       go_frame
       refine anyM_put0 (i := 5) (v := ?_) (some 26) rfl rfl (by decide) (by kernel_rfl) (by kernel_rfl) (by kernel_rfl) (fun _ _ _ h => h) (Or.inl ⟨by rfl, ?_⟩) (fun _ => HC0) ?_
       rotate_left
       ·(intro W _; go_simp; try (with_reducible rfl))
       go_frame
       refine anyM_put0 (i := 6) (v := ?_) (some 27) rfl rfl (by decide) (by kernel_rfl) (by kernel_rfl) (by kernel_rfl) (fun _ _ _ h => h) (Or.inl ⟨by rfl, ?_⟩) (fun _ => HC0) ?_
       rotate_left
       ·(intro W _; go_simp; try (with_reducible rfl))
       go_frame
       refine anyM_put0 (i := 7) (v := .pointer (some ⟨g, t * 13, none⟩)) (some 28) rfl rfl (by decide) (by kernel_rfl) (by kernel_rfl) (by kernel_rfl) (fun _ _ _ h => h) (Or.inl ⟨by rfl, ?_⟩) (fun _ => HC0) ?_
       ·(intro W _; go_simp; try (with_reducible rfl))
       go_frame
       refine anyM_putM (i := 8) (v := .agg (List.toArray cz)) (some 29) rfl rfl rfl (by kernel_rfl) (by decide) (by kernel_rfl) (by kernel_rfl) (by kernel_rfl) (fun _ _ _ h => h) ?_ (by rfl) HC0 ?_
       ·refine yieldsIf_load_mid ?_ _ _ rfl (g) (t * 13) ?_ cz _ ?_ Tryz.underlying85 ?_ ?_
        ·kernel_rfl
        ·kernel_rfl
        ·(intro W hSw; exact hSw.2.1)
        ·rfl
        ·(rw [hlcz]; kernel_rfl)
       go_frame
       refine anyM_put0 (i := 9) (v := ?_) (some 30) rfl rfl (by decide) (by kernel_rfl) (by kernel_rfl) (by kernel_rfl) (fun _ _ _ h => h) (Or.inl ⟨by rfl, ?_⟩) (fun _ => HC0) ?_
       rotate_left
       ·(intro W _; go_simp; try (with_reducible rfl))
       go_frame
       refine anyM_putM (i := 10) (v := .slice sa nl sc) (some 31) rfl rfl rfl (by kernel_rfl) (by decide) (by kernel_rfl) (by kernel_rfl) (by kernel_rfl) (fun _ _ _ h => h) (Or.inl ⟨by rfl, ?_⟩) (by rfl) HC0 ?_
       ·(intro W hSw; have hSq := hSw.2.2; go_simp; try (with_reducible rfl))
       go_frame
       refine anyM_ready (rs := [11]) (by kernel_rfl) (by simp) ?_
       apply ReadyM.cons
       ·rfl
       rotate_left
       ·exact ReadyM.nil
       intro K hK
       refine if_wanted ?_ ?_
       ·kernel_rfl
       go_simp
       refine HCC.out.mono ?_
       rintro e w5 ⟨rfl, hB5⟩
       refine hK.out _ _ (fun h => absurd h (by simp)) ?_
       clear hK K
       try go_frame
       refine anyM_ready (rs := [12]) (by kernel_rfl) (by simp) ?_
       apply ReadyM.cons
       ·rfl
       rotate_left
       ·exact ReadyM.nil
       intro K hK
       refine if_wanted ?_ ?_
       ·kernel_rfl
       refine wp_value_run (v := ?_) (some 33) ?_ ?_ ?_
       rotate_left
       ·rfl
       ·(go_simp; try (with_reducible rfl))
       refine hK.out _ _ (fun h => absurd h (by simp)) ?_
       clear hK K
       go_frame
       refine anyM_done (by kernel_rfl) ?_ _
       go_wp2_with fail
       go_roundg (0 + t)
       case rel => exact ⟨t, rfl, by omega, rfl, HUP.out, below_up hB5w.drew hB5⟩
       case measure => omega
  ·obtain rfl : j = ns := by omega
   have hjn : ¬ ((j : Int) < (j : Int)) := by omega
   have hSt : S.take j = S := List.take_of_length_le (by rw [HNS.out]; omega)
   have HMP : Hid (List.Perm O S ∧ O.Pairwise (Ak.lt l)) := Lib.hid ⟨by have := HPE.out; rwa [hSt] at this, HSO.out⟩
   obtain ⟨ao, co, hvo, hrow⟩ : ∃ ao co, u5 = .slice ao j co ∧ RowE phE V0 ao O := by
    obtain ⟨p, q, e, _, _, h⟩ := RowE.of_own (E := phE) HOW.out HOL.out.symm
    exact ⟨p, q, by rw [HOL.out] at e; exact e, h⟩
   have hids := idsR_cap ao j co (fun i => O[i]?.getD Ph.zero) V0 (by have := Phs.of_rowE hrow (fun p hp => HIN0.out V0 (below_up HB1.out (below_up HB7.out hBr)) p (HMP.out.1.mem_iff.1 hp)); rwa [HOL.out] at this) (by omega)
   have hw : Fd.idsL (fun i => O[i]?.getD Ph.zero) j = O.map Ph.id := by have := idsL_list O; rwa [HOL.out] at this
   rw [hw] at hids
   obtain ⟨M, hM⟩ : ∃ M, O = M := ⟨_, rfl⟩
   rw [hM] at hids HMP HOL
   obtain ⟨xs, hxs⟩ : ∃ xs, M.map Ph.id = xs := ⟨_, rfl⟩
   rw [hxs] at hids
   have HIDS := Lib.hid hids
   have HXL : Hid (xs.length = j) := Lib.hid (by rw [← hxs, List.length_map]; exact HOL.out)
   have HWN : Hid ((Ak.win fn mn M).map Ph.id = if mn = 0 then xs.drop fn else (xs.drop fn).take mn) := Lib.hid (by rw [Ak.win_map, hxs]; rfl)
   rw [hvo]
   clear hw hids hrow hvo HOW HPE HSO hSt hxs hM
   go_upto_region 11 with (go_at_call 52; (with_reducible refine HIDS.out.mono ?_); rintro e w9 ⟨a9, c9, rfl, hk9, hm9, hr9, hg9, hB9⟩; rw [HXL.out])
   rw [HXL.out] at hk9 hg9
   have HR9 := Lib.hid hr9
   have HBE := Lib.hid (below_up HB1.out (below_up HB7.out (below_up hBr hB9)))
   obtain ⟨q0, q1, q2, q3, q4, q5, q6, q7, q8⟩ := (HQ7.out.keep (below_up hBr hB9)).nine
   clear hr9
   obtain ⟨D, hD⟩ : ∃ D, xs.drop fn = D := ⟨_, rfl⟩
   rw [hD] at HWN
   by_cases hf : fn < j
   ·obtain ⟨g, rfl⟩ := hg9 (by omega)
    have hmin1 : min (fn : Int) (j : Int) = (fn : Int) := by omega
    have hfi : (fn : Int) ≤ (j : Int) := by omega
    have hfe : ¬ c9 = fn := by omega
    obtain ⟨K, hK⟩ : ∃ K, j - fn = K := ⟨_, rfl⟩
    have HDL : Hid (D.length = K) := Lib.hid (by rw [← hD, List.length_drop, HXL.out]; exact hK)
    have HD : Hid (RowL w9 (some ⟨g, fn, none⟩) D) := Lib.hid (by rw [← hD]; have := HR9.out.drop fn; rwa [Nat.zero_add] at this)
    have hKc : K ≤ c9 - fn := by omega
    go_upto_region 12 with fail
    clear hmin1 hfi hfe hD
    by_cases hm0 : mn = 0
    ·subst hm0
     have hm0' : ¬ ((0 : Int) < ((0 : Nat) : Int)) := by omega
     have HXE : Hid ((Ak.win fn 0 M).map Ph.id = D) := Lib.hid (by rw [HWN.out, if_pos rfl])
     go_wp2_with fail
     go_ret
     exact ⟨some ⟨g, fn, none⟩, _, M, by rw [HXE.out, HDL.out]; rfl, HMP.out.1, HMP.out.2, by rw [HXE.out]; exact HD.out, HBE.out⟩
    ·have hm0' : ((0 : Int) < (mn : Int)) := by omega
     obtain ⟨k2, hk2⟩ : ∃ k2 : Nat, min mn (K) = k2 := ⟨_, rfl⟩
     have hmin2 : min (mn : Int) ((K : Nat) : Int) = (k2 : Int) := by omega
     have hk22 : k2 ≤ K := by omega
     have hk23 : (k2 : Int) ≤ ((K : Nat) : Int) := by omega
     have HXE : Hid ((Ak.win fn mn M).map Ph.id = D.take k2) := Lib.hid (by rw [HWN.out, if_neg hm0, ← hk2, ← HDL.out]; exact (Ak.take_min _ _).symm)
     have HTL : Hid ((D.take k2).length = k2) := Lib.hid (by rw [List.length_take, HDL.out]; omega)
     clear hk2
     go_wp2_with fail
     go_ret
     exact ⟨some ⟨g, fn, none⟩, _, M, by rw [HXE.out, HTL.out]; rfl, HMP.out.1, HMP.out.2, by rw [HXE.out]; exact RowL.take HD.out _, HBE.out⟩
   ·have hmin1 : min (fn : Int) (j : Int) = (j : Int) := by omega
    have HDL : Hid (D.length = 0) := Lib.hid (by rw [← hD, List.length_drop, HXL.out]; omega)
    clear hD
    cases a9 with
    | none =>
      go_upto_region 12 with fail
      clear hmin1
      have hmin3 : min (mn : Int) (0 : Int) = 0 := by omega
      have HXE : Hid ((Ak.win fn mn M).map Ph.id = []) := Lib.hid (by
       have h0 := List.eq_nil_of_length_eq_zero HDL.out
       rw [HWN.out, h0]; split <;> simp)
      by_cases hm0 : mn = 0
      ·subst hm0
       have hm0' : ¬ ((0 : Int) < ((0 : Nat) : Int)) := by omega
       go_wp2_with fail
       go_ret
       exact ⟨none, _, M, by rw [HXE.out]; rfl, HMP.out.1, HMP.out.2, by rw [HXE.out]; exact RowL.nil _ _, HBE.out⟩
      ·have hm0' : ((0 : Int) < (mn : Int)) := by omega
       go_wp2_with fail
       go_ret
       exact ⟨none, _, M, by rw [HXE.out]; rfl, HMP.out.1, HMP.out.2, by rw [HXE.out]; exact RowL.nil _ _, HBE.out⟩
    | some p9 =>
      by_cases hce : c9 = j
      ·subst hce
       go_upto_region 12 with fail
       clear hmin1
       have hmin3 : min (mn : Int) (0 : Int) = 0 := by omega
       have HXE : Hid ((Ak.win fn mn M).map Ph.id = []) := Lib.hid (by
        have h0 := List.eq_nil_of_length_eq_zero HDL.out
        rw [HWN.out, h0]; split <;> simp)
       by_cases hm0 : mn = 0
       ·subst hm0
        have hm0' : ¬ ((0 : Int) < ((0 : Nat) : Int)) := by omega
        go_wp2_with fail
        go_ret
        exact ⟨some p9, _, M, by rw [HXE.out]; rfl, HMP.out.1, HMP.out.2, by rw [HXE.out]; exact RowL.nil _ _, HBE.out⟩
       ·have hm0' : ((0 : Int) < (mn : Int)) := by omega
        go_wp2_with fail
        go_ret
        exact ⟨some p9, _, M, by rw [HXE.out]; rfl, HMP.out.1, HMP.out.2, by rw [HXE.out]; exact RowL.nil _ _, HBE.out⟩
      ·have hce2 : j < c9 := by omega
       go_upto_region 12 with fail
       clear hmin1
       have hmin3 : min (mn : Int) (0 : Int) = 0 := by omega
       have HXE : Hid ((Ak.win fn mn M).map Ph.id = []) := Lib.hid (by
        have h0 := List.eq_nil_of_length_eq_zero HDL.out
        rw [HWN.out, h0]; split <;> simp)
       by_cases hm0 : mn = 0
       ·subst hm0
        have hm0' : ¬ ((0 : Int) < ((0 : Nat) : Int)) := by omega
        go_wp2_with fail
        go_ret
        exact ⟨some (p9.add j), _, M, by rw [HXE.out]; rfl, HMP.out.1, HMP.out.2, by rw [HXE.out]; exact RowL.nil _ _, HBE.out⟩
       ·have hm0' : ((0 : Int) < (mn : Int)) := by omega
        go_wp2_with fail
        go_ret
        exact ⟨some (p9.add j), _, M, by rw [HXE.out]; rfl, HMP.out.1, HMP.out.2, by rw [HXE.out]; exact RowL.nil _ _, HBE.out⟩
theorem Ak.hasBy_more {l : List Ak.Srt} {k : Int} {t j : Nat} (h : Ak.hasBy k (l.take t) = true) (ht : t ≤ j) : Ak.hasBy k (l.take j) = true := by
 unfold Ak.hasBy at h ⊢
 rw [List.any_eq_true] at h ⊢
 obtain ⟨z, hz, hzk⟩ := h
 refine ⟨z, ?_, hzk⟩
 rw [show t = min t j by omega, ← List.take_take] at hz
 exact List.mem_of_mem_take hz
theorem questionError_is (c : Cnd) (l : List Ak.Srt) (sa : Option Addr) (sc : Nat) (f m : Int) (w : World) (hc : c.In w) (hG : c.Fits) (hr : RowE Ak.eS w sa l) (hsc : l.length ≤ sc) (hsm : sc ≤ 9223372036854775807) :
  Calls Tryz.prog 11 #[.agg #[.int .i64 c.op, .slice c.ka c.kn c.kc, .string c.text, .int .i64 c.low, .int .i64 c.high, .slice c.aa c.an c.ac, .slice sa l.length sc, .int .i64 f, .int .i64 m]] w fun e w' => e = .returned (.int .i64 (Ak.qErr c.err l f m)) ∧ Below w.heap.size w w' := by
 obtain ⟨q, hq⟩ : ∃ q, Ak.qErr c.err l f m = q := ⟨_, rfl⟩
 rw [hq]
 unfold Ak.qErr at hq
 obtain ⟨n, hn⟩ : ∃ n, l.length = n := ⟨_, rfl⟩
 rw [hn] at hsc hq ⊢
 have HN := Lib.hid hn
 obtain ⟨W1, hW1, hQ, hz1, hB1⟩ := box w #[.int .i64 c.op, .slice c.ka c.kn c.kc, .string c.text, .int .i64 c.low, .int .i64 c.high, .slice c.aa c.an c.ac, .slice sa n sc, .int .i64 f, .int .i64 m] 33
 have HW1 := Lib.hid hW1
 have HCC := Lib.hid (condError_is c W1 (Cnd.In.keep hB1 hc) hG)
 obtain ⟨q0, q1, q2, q3, q4, q5, q6, q7, q8⟩ := hQ.nine
 have HQ := Lib.hid hQ; have HR := Lib.hid (hr.keep hB1); have HB1 := Lib.hid hB1
 clear hW1 hz1 hc hG hr hQ hB1 hn
 obtain ⟨ce, hce⟩ : ∃ ce, c.err = ce := ⟨_, rfl⟩
 rw [hce] at HCC hq
 clear hce
 by_cases h0 : ce = 0
 ·subst h0
  rw [if_pos rfl] at hq
  by_cases h5 : 5 < n
  ·rw [if_pos h5] at hq
   have HQQ := Lib.hid hq; clear hq
   have h5' : (5 : Int) < (n : Int) := by omega
   go_enter Tryz.func11, Tryz.ntmps11
   go_upto_region 1 with fail
   rw [HW1.out]
   go_wp2_with (go_at_call 9; (with_reducible refine HCC.out.mono ?_); rintro e w4 ⟨rfl, hB4⟩; obtain ⟨q0, q1, q2, q3, q4, q5, q6, q7, q8⟩ := (HQ.out.keep hB4).nine)
   go_ret
   exact ⟨ret_int HQQ.out, below_up HB1.out hB4⟩
  ·rw [if_neg h5] at hq
   have HQQ := Lib.hid hq; clear hq
   have h5' : ¬ (5 : Int) < (n : Int) := by omega
   have hn5 : n ≤ 5 := by omega
   go_enter Tryz.func11, Tryz.ntmps11
   go_upto_region 1 with fail
   rw [HW1.out]
   go_wp2_with (go_at_call 9; (with_reducible refine HCC.out.mono ?_); rintro e w4 ⟨rfl, hB4⟩; obtain ⟨q0, q1, q2, q3, q4, q5, q6, q7, q8⟩ := (HQ.out.keep hB4).nine)
   obtain ⟨se, hse⟩ : ∃ se, Ak.srtE [] l = se := ⟨_, rfl⟩
   have HQS : Hid ((if se = 0 then (if Ak.rngB f = true ∧ Ak.rngB m = true then 0 else 2) else se) = q) := Lib.hid (by rw [← hse]; exact HQQ.out)
   have HSE := Lib.hid hse
   clear hse
   go_loopg [21] n (fun gk i wr => ∃ j : Nat, j ≤ n ∧ gk = n - j ∧ i = .int .i64 j ∧ Ak.srtE (l.take j) (l.drop j) = se ∧ Below W1.heap.size W1 wr)
   case atStart => exact ⟨0, by omega, rfl, rfl, HSE.out, hB4⟩
   case round =>
    clear q0 q1 q2 q3 q4 q5 q6 q7 q8
    obtain ⟨j, hj, rfl, rfl, hsc2, hB⟩ := hrel
    have HSC := Lib.hid hsc2; clear hsc2
    obtain ⟨q0, q1, q2, q3, q4, q5, q6, q7, q8⟩ := (HQ.out.keep hB).nine
    by_cases hlt : j < n
    ·obtain ⟨s, hs⟩ : ∃ s, l[j]? = some s := ⟨_, List.getElem?_eq_getElem (by rw [HN.out]; exact hlt)⟩
     obtain ⟨b, off, rfl, hb, hcell⟩ := (HR.out.keep hB) (by rw [HN.out]; omega)
     have c0 := hcell j s hs 0 (.int .i64 s.by_) rfl
     have c1 := hcell j s hs 1 (.bool s.down) rfl
     have HST := Lib.hid (Ak.srtE_step HSC.out hs)
     obtain ⟨k, d⟩ := s
     have c0 : wr.cell? ⟨b, off + j * 2, none⟩ = some (.int .i64 k) := c0
     have c1 : wr.cell? ⟨b, off + j * 2 + 1, none⟩ = some (.bool d) := c1
     obtain ⟨Z1, hZ1, hZ, hz1, hBZ⟩ := box wr #[.int .i64 k, .bool d] 70
     have HZ1 := Lib.hid hZ1
     have hBZ2 := below_up hB hBZ
     have HZB := Lib.hid hZ
     obtain ⟨z0, z1⟩ := hZ.two
     have HQZ := Lib.hid ((HQ.out.keep hBZ2).nine)
     have hj1 : (j : Int) < (n : Int) := by omega
     have hjc : (j : Int) ≤ (sc : Int) := by omega
     clear hcell hs hZ1 hz1 hZ
     by_cases hk : 1 ≤ k ∧ k ≤ 5
     ·have HKO := Lib.hid (fun W => in_is k 1 5 true (decide_eq_true hk) W)
      have HST2 := Lib.hid (HST.out.2.1 hk); have HST3 := Lib.hid (HST.out.2.2 hk)
      clear hk HST
      go_upto_region 9 with fail
      rw [HZ1.out]
      clear q0 q1 q2 q3 q4 q5 q6 q7 q8 c0 c1
      obtain ⟨q0, q1, q2, q3, q4, q5, q6, q7, q8⟩ := HQZ.out
      go_wp2_with (go_at_call 31; (with_reducible refine (HKO.out _).mono ?_); rintro e w' ⟨rfl, rfl⟩)
      clear q0 q1 q2 q3 q4 q5 q6 q7 q8 z0 z1
      go_loopg [35] j (fun gk i w2 => ∃ t : Nat, t ≤ j ∧ gk = j - t ∧ i = .int .i64 t ∧ Ak.hasBy k (l.take t) = false ∧ Below Z1.heap.size Z1 w2)
      case atStart => exact ⟨0, by omega, rfl, rfl, rfl, Below.refl _ _⟩
      case round =>
       obtain ⟨t, ht, rfl, rfl, hno, hB2⟩ := hrel
       have HNO := Lib.hid hno; clear hno
       have hBw2 := below_up hBZ2 hB2
       by_cases hlt2 : t < j
       ·obtain ⟨s2, hs2⟩ : ∃ s2, l[t]? = some s2 := ⟨_, List.getElem?_eq_getElem (by rw [HN.out]; omega)⟩
        obtain ⟨b', off', he', hb', hcell2⟩ := (HR.out.keep hBw2) (by rw [HN.out]; omega)
        obtain ⟨rfl, rfl⟩ : b = b' ∧ off = off' := by simpa using he'
        have d0 := hcell2 t s2 hs2 0 (.int .i64 s2.by_) rfl
        have d1 := hcell2 t s2 hs2 1 (.bool s2.down) rfl
        have HT := Lib.hid (Ak.hasBy_take (k := k) hs2)
        obtain ⟨k2, d2⟩ := s2
        have d0 : wr.cell? ⟨b, off + t * 2, none⟩ = some (.int .i64 k2) := d0
        have d1 : wr.cell? ⟨b, off + t * 2 + 1, none⟩ = some (.bool d2) := d1
        obtain ⟨Y1, hY1, hY, hy1, hBY⟩ := box wr #[.int .i64 k2, .bool d2] 70
        have HY1 := Lib.hid hY1
        have hB3 := below_up hB2 hBY
        obtain ⟨y0, y1⟩ := hY.two
        obtain ⟨z0, z1⟩ := (HZB.out.keep hB3).two
        have ht1 : (t : Int) < (j : Int) := by omega
        clear hY1 hy1 hY hcell2 hs2
        by_cases he : k2 = k
        ·have he1 : (k2 == k) = true := by simpa using he
         have HE : Hid (se = 6) := Lib.hid (HST2.out (Ak.hasBy_more (t := t + 1) (by rw [HT.out]; show (_ || k2 == k) = true; rw [he1]; simp) (by omega)))
         clear he
         go_upto_region 14 with fail
         rw [HY1.out]
         go_wp2_with fail
         go_ret
         exact ⟨ret_int (by rw [← HQS.out, HE.out]; rfl), below_up HB1.out (below_up hBZ2 hB3)⟩
        ·have he1 : (k2 == k) = false := by simpa using he
         have HE : Hid (Ak.hasBy k (l.take (t + 1)) = false) := Lib.hid (by rw [HT.out, HNO.out]; exact he1)
         clear he
         go_upto_region 14 with fail
         rw [HY1.out]
         go_wp2_with fail
         go_roundg (j - (t + 1))
         case rel => exact ⟨t + 1, by omega, rfl, by go_num, HE.out, hB3⟩
         case measure => omega
       ·obtain rfl : t = j := by omega
        have HE := Lib.hid (HST3.out HNO.out)
        have htj : ¬ ((t : Int) < (t : Int)) := by omega
        go_wp2_with fail
        go_roundg (n - (t + 1))
        case rel => exact ⟨t + 1, by omega, rfl, by go_num, HE.out, hBw2⟩
        case measure => omega
     ·have HKO := Lib.hid (fun W => in_is k 1 5 false (decide_eq_false hk) W)
      have HE := Lib.hid (HST.out.1 hk)
      clear hk
      go_upto_region 9 with fail
      rw [HZ1.out]
      go_wp2_with (go_at_call 31; (with_reducible refine (HKO.out _).mono ?_); rintro e w' ⟨rfl, rfl⟩)
      go_ret
      exact ⟨ret_int (by rw [← HQS.out, HE.out]; rfl), below_up HB1.out hBZ2⟩
    ·obtain rfl : j = n := by omega
     have HE : Hid (0 = se) := Lib.hid (by have h := HSC.out; rw [← HN.out, List.drop_length, Ak.srtE] at h; exact h)
     have HF := Lib.hid (fun W => in_is f 0 1000 (Ak.rngB f) rfl W)
     have HM := Lib.hid (fun W => in_is m 0 1000 (Ak.rngB m) rfl W)
     have HEQ : Hid ((if Ak.rngB f = true ∧ Ak.rngB m = true then 0 else 2) = q) := Lib.hid (by rw [← HQS.out, ← HE.out, if_pos rfl])
     generalize Ak.rngB f = rf at *
     generalize Ak.rngB m = rm at *
     have hjn : ¬ ((j : Int) < (j : Int)) := by omega
     cases rf
     ·go_wp2_with (go_at_call 31; (first | (with_reducible refine (HF.out _).mono ?_) | (with_reducible refine (HM.out _).mono ?_)); rintro e w' ⟨rfl, rfl⟩)
      go_ret
      exact ⟨ret_int (by rw [← HEQ.out]; rfl), below_up HB1.out hB⟩
     ·cases rm
      ·go_wp2_with (go_at_call 31; (first | (with_reducible refine (HF.out _).mono ?_) | (with_reducible refine (HM.out _).mono ?_)); rintro e w' ⟨rfl, rfl⟩)
       go_ret
       exact ⟨ret_int (by rw [← HEQ.out]; rfl), below_up HB1.out hB⟩
      ·go_wp2_with (go_at_call 31; (first | (with_reducible refine (HF.out _).mono ?_) | (with_reducible refine (HM.out _).mono ?_)); rintro e w' ⟨rfl, rfl⟩)
       go_ret
       exact ⟨ret_int (by rw [← HEQ.out]; rfl), below_up HB1.out hB⟩
 ·rw [if_neg h0] at hq
  have HQQ := Lib.hid hq; clear hq
  have h1 : (ce != 0) = true := by simpa using h0
  go_enter Tryz.func11, Tryz.ntmps11
  go_upto_region 1 with fail
  rw [HW1.out]
  go_wp2_with (go_at_call 9; (with_reducible refine HCC.out.mono ?_); rintro e w4 ⟨rfl, hB4⟩; obtain ⟨q0, q1, q2, q3, q4, q5, q6, q7, q8⟩ := (HQ.out.keep hB4).nine)
  go_ret
  exact ⟨ret_int HQQ.out, below_up HB1.out hB4⟩
end Go.Proofs.YtimjmjmpaicdbaaGreatDoor

/- Parts of the proof, no condition: FaRef. -/
import Derived.Test.YtimjmjmpaicdbaaGreatDoorPk18
import Derived.Test.YtimjmjmpaicdbaaGreatDoorPk19
import Derived.Deep.CutRange
set_option maxRecDepth 100000
set_option maxHeartbeats 8000000
set_option linter.unusedSimpArgs false
set_option linter.unusedVariables false
namespace Go.Proofs.YtimjmjmpaicdbaaGreatDoor
open Go.RowKit Go.Sort Go.Shelf
theorem str_eq {a b : ByteArray} : (a.toList == b.toList) = true ↔ a = b := by
 rw [beq_iff_eq]
 constructor
 ·intro h
  rw [Lib.toList_data, Lib.toList_data] at h
  apply ByteArray.ext
  exact Array.toList_inj.1 h
 ·intro h; rw [h]
theorem facEq_is (s z : ByteArray) (n : Int) (bk : Nat) (t : TypeId) (w : World) (hs : Blk w bk #[.string z] t) :
  Calls Tryz.prog 55 #[.agg #[.string s, .int .i64 n], .pointer (some ⟨bk, 0, none⟩)] w fun e w' => e = .returned (.bool (s.toList == z.toList)) ∧ Below w.heap.size w w' := by
 obtain ⟨W1, hW1, hA, hz1, hB1⟩ := box w #[.string s, .int .i64 n] 51
 have HW1 := Lib.hid hW1
 obtain ⟨a0, a1⟩ := hA.two
 have b0 := (hs.keep hB1).one
 clear hW1 hz1
 go_enter Tryz.func55, Tryz.ntmps55
 go_upto_region 1 with fail
 rw [HW1.out]
 go_wp2_with fail
 go_ret
 exact ⟨rfl, hB1⟩
theorem enters_facEq : ∀ args w, (callFunc 55 args).run Tryz.prog w = .ok (.enter 55 args) w := enters_of Tryz.func55 (by kernel_rfl) rfl
def Fa.NoName (z : ByteArray) (O : List Fa.Fc) : Prop := ∀ p ∈ O, p.1 ≠ z
theorem idxFac_is (O : List Fa.Fc) (hl : O.length ≤ 1000000) (sa : Option Addr) (sc : Nat) (z : ByteArray) (bk : Nat) (t : TypeId) (w : World) (hr : RowE Fa.fcE w sa O) (hs : Blk w bk #[.string z] t) :
  Calls Tryz.prog 54 #[.slice sa O.length sc, .func (.func 55) #[] #[.pointer (some ⟨bk, 0, none⟩)]] w fun e w' => ∃ r : Int, e = .returned (.int .i64 r) ∧ ((∃ (k c : Nat), r = (k : Int) ∧ O[k]? = some (z, c)) ∨ (r = -1 ∧ Fa.NoName z O)) ∧ Below w.heap.size w w' := by
 have eg := enters_facEq
 have HR := Lib.hid hr; have HS := Lib.hid hs
 obtain ⟨m, hm⟩ : ∃ m, O.length = m := ⟨_, rfl⟩
 have HM := Lib.hid hm
 rw [hm] at hl ⊢
 clear hr hs hm
 go_enter Tryz.func54, Tryz.ntmps54
 go_wp2_with fail
 go_loopg [8] m (fun gk i wr => ∃ j : Nat, j ≤ m ∧ gk = m - j ∧ i = .int .i64 j ∧ Fa.NoName z (O.take j) ∧ Below w.heap.size w wr)
 case atStart => exact ⟨0, by omega, rfl, rfl, fun p hp => (by rw [List.take_zero] at hp; cases hp), Below.refl _ _⟩
 case round =>
  obtain ⟨j, hj, rfl, rfl, hno, hB⟩ := hrel
  have HNO := Lib.hid hno; clear hno
  by_cases hlt : j < m
  ·obtain ⟨q, hq⟩ : ∃ q, O[j]? = some q := ⟨_, List.getElem?_eq_getElem (by rw [HM.out]; exact hlt)⟩
   obtain ⟨b, off, hsa, hb, hcell⟩ := (HR.out.keep hB) (by rw [HM.out]; omega)
   obtain ⟨s, c⟩ := q
   have c0 : wr.cell? ⟨b, off + j * 2, none⟩ = some (.string s) := hcell j (s, c) hq 0 (.string s) rfl
   have c1 : wr.cell? ⟨b, off + j * 2 + 1, none⟩ = some (.int .i64 c) := hcell j (s, c) hq 1 (.int .i64 c) rfl
   have HC := Lib.hid (facEq_is s z c bk t wr (HS.out.keep hB))
   have HQ := Lib.hid hq
   have hj1 : (j : Int) < (m : Int) := by omega
   obtain ⟨v, hv⟩ : ∃ v, (s.toList == z.toList) = v := ⟨_, rfl⟩
   rw [hv] at HC
   have HV := Lib.hid hv
   clear hcell hq hv
   rw [hsa]
   cases v
   ·have HE : Hid (Fa.NoName z (O.take (j + 1))) := Lib.hid (fun p hp => by
     rw [List.take_add_one, HQ.out] at hp
     rcases List.mem_append.1 hp with h | h
     ·exact HNO.out p h
     ·simp at h; subst h
      intro e
      have := str_eq.2 (show s = z from e)
      rw [HV.out] at this; cases this)
    go_wp2_with (go_at_call 55; (with_reducible refine HC.out.mono ?_); rintro e w5 ⟨rfl, hB5⟩)
    rw [← hsa]
    go_roundg (m - (j + 1))
    case rel => exact ⟨j + 1, by omega, rfl, by go_num, HE.out, below_up hB hB5⟩
    case measure => omega
   ·have HE : Hid (s = z) := Lib.hid (str_eq.1 HV.out)
    go_wp2_with (go_at_call 55; (with_reducible refine HC.out.mono ?_); rintro e w5 ⟨rfl, hB5⟩)
    go_ret
    exact ⟨_, rfl, .inl ⟨j, c, rfl, by rw [← HE.out]; exact HQ.out⟩, below_up hB hB5⟩
  ·obtain rfl : j = m := by omega
   have hjn : ¬ ((j : Int) < (j : Int)) := by omega
   go_wp2_with fail
   go_ret
   exact ⟨-1, rfl, .inr ⟨rfl, fun p hp => HNO.out p (by rw [List.take_of_length_le (by rw [HM.out]; omega)]; exact hp)⟩, hB⟩
theorem ownsRow_put {w : World} {base : Nat} {e : TypeId} {k g n cap : Nat} {xs : List Value} (h : w.ownsRow base e k (.slice (some ⟨g, 0, none⟩) n cap) n xs) (j : Nat) (hj : j < n * k) (v : Value) :
  (w.setCell ⟨g, j, none⟩ v).ownsRow base e k (.slice (some ⟨g, 0, none⟩) n cap) n (xs.set j v) ∧ w.frozen? ⟨g, j, none⟩ = false := by
 obtain ⟨hl, hh⟩ := h
 rcases hh with ⟨h0, _⟩ | ⟨g', cap', cur, he, hb, hc, hn, hm, hs, ht⟩
 ·cases h0
 ·cases he
  refine ⟨⟨by rw [List.length_set]; exact hl, .inr ⟨g, cap, cur.setIfInBounds j v, rfl, hb, ?_, hn, hm, by simpa using hs, ?_⟩⟩, frozen_of hc j⟩
  ·simp [World.setCell, Array.getElem?_modify, hc]
  ·rw [Array.toList_setIfInBounds, List.take_set, ht]
theorem Fa.flat_put : ∀ (O : List Fa.Fc) (k : Nat) (s : ByteArray) (c d : Nat), O[k]? = some (s, c) → (Fa.fcE.flat O).set (k * 2 + 1) (.int .i64 d) = Fa.fcE.flat (O.set k (s, d))
 | [], k, s, c, d, h => by simp at h
 | p :: O, 0, s, c, d, h => by
   have h : p = (s, c) := by simpa using h
   subst h
   rw [Fa.fcE.flat_cons, List.set_cons_zero, Fa.fcE.flat_cons]; rfl
 | p :: O, k + 1, s, c, d, h => by
   have ih := Fa.flat_put O k s c d (by simpa using h)
   rw [Fa.fcE.flat_cons, List.set_cons_succ, Fa.fcE.flat_cons, ← ih]
   show List.set (_ :: _ :: Fa.fcE.flat O) ((k + 1) * 2 + 1) _ = _
   rw [show (k + 1) * 2 + 1 = k * 2 + 1 + 1 + 1 by omega, List.set_cons_succ, List.set_cons_succ]; rfl
noncomputable def Fa.nall (k : Int) (S : List Ph) : List ByteArray := S.flatMap (Fa.nms k)
theorem Fa.nall_snoc (k : Int) (S : List Ph) (p : Ph) : Fa.nall k (S ++ [p]) = Fa.nall k S ++ Fa.nms k p := by unfold Fa.nall; simp
theorem Fa.nall_eq (k : Int) (S : List Ph) : Fa.nall k S = (Fa.all k S).map (Fa.nm (decide (k = 1))) := by
 unfold Fa.nall Fa.all Fa.nms
 rw [List.map_flatMap]
theorem Fa.nms_few {k : Int} {p : Ph} (hg : Fa.Good p) : (Fa.nms k p).length ≤ 20 := by unfold Fa.nms; rw [List.length_map]; exact Fa.its_few hg
def FacRPost (w : World) (k : Int) (S : List Ph) (e : Ending) (w' : World) : Prop :=
 ∃ (a : Option Addr) (ca : Nat) (M : List Fa.Fc), e = .returned (.slice a M.length ca) ∧ Fa.Cn (Fa.nall k S) M ∧ M.Pairwise (Fa.lt2 (decide (k = 1))) ∧ RowE Fa.fcE w' a M ∧ Below w.heap.size w w'
theorem Fa.Cn.len {N : List ByteArray} {O : List Fa.Fc} (h : Fa.Cn N O) : O.length ≤ N.length := by
 have := List.Nodup.length_le_of_subset h.nd (l₂ := N) (fun x hx => by
  obtain ⟨p, hp, rfl⟩ := List.mem_map.1 hx
  exact ((h.mem p.1 p.2).1 hp).1)
 rwa [List.length_map] at this
def Fa.Off (I : List ByteArray) (a6 : Option Addr) (sz : Nat) (v : Value) : Prop := 0 < I.length → ∀ ad : Addr, a6 = some ad → ad.block < sz ∧ ∀ b, v.ownBlock = some b → ad.block ≠ b
theorem facetsR_ok (a : Option Addr) (n ca : Nat) (x : Nat → Ph) (c : Cnd) (k : Int) (w : World) (hx : Phs w a n x) (hF : ∀ i, i < n → (x i).Fits) (hG : c.Fits) (hc : c.In w) (hmx : MxL w) (hl0 : Fd.lerr x n = 0) (hc0 : c.err = 0) (hk : 1 ≤ k ∧ k ≤ 4) :
  Calls Tryz.prog 20 #[.slice a n ca, .agg #[.int .i64 c.op, .slice c.ka c.kn c.kc, .string c.text, .int .i64 c.low, .int .i64 c.high, .slice c.aa c.an c.ac], .int .i64 k] w (FacRPost w k (Fd.sel (fun p => c.holds p) x n)) := by
 have hfew := Fd.lerr_few hl0
 have hle := Fd.sel_le (fun p => c.holds p) x n
 obtain ⟨W1, hW1, hC, hz1, hB1⟩ := box w #[.int .i64 c.op, .slice c.ka c.kn c.kc, .string c.text, .int .i64 c.low, .int .i64 c.high, .slice c.aa c.an c.ac] 25
 have HW1 := Lib.hid hW1
 have HFD := Lib.hid (found_is (fun p => c.holds p) c a n ca x W1 (hx.keep hB1) (fun V i hi hV => holdsFor_is c V (x i) (Cnd.In.keep (below_up hB1 hV) hc) hG (Cnd.good_of hc hc0) ((hx.each i hi).keep (below_up hB1 hV)) (Ph.right_of (hF i hi) (Fd.lerr_each hl0 i hi)) (hmx.below (below_up hB1 hV))) hfew)
 have hGD : ∀ p, p ∈ Fd.sel (fun p => c.holds p) x n → Fa.Good p := fun p hp => by
  obtain ⟨i, hi, rfl⟩ := Fd.sel_mem hp
  exact Fa.good_of (Fd.lerr_each hl0 i hi)
 have HIN0 := Lib.hid (fun W (hb : Below w.heap.size w W) p (hp : p ∈ Fd.sel (fun p => c.holds p) x n) => (by
  obtain ⟨i, hi, rfl⟩ := Fd.sel_mem hp
  exact (hx.each i hi).keep hb : p.In W))
 have HOLD := Lib.hid (fun p (hp : p ∈ Fd.sel (fun p => c.holds p) x n) => (by
  obtain ⟨i, hi, rfl⟩ := Fd.sel_mem hp
  intro h0
  obtain ⟨b, off, e, hb, _⟩ := (hx.each i hi).tags h0
  intro ad had
  rw [e] at had
  cases had
  exact hb : 0 < p.tn → ∀ ad : Addr, p.ta = some ad → ad.block < w.heap.size))
 have HGD := Lib.hid hGD
 generalize hS : Fd.sel (fun p => c.holds p) x n = S at *
 obtain ⟨l0, l1, l2, l3, l4, l5⟩ := hC.six
 have HB1 := Lib.hid hB1
 obtain ⟨ns, hns⟩ : ∃ ns, S.length = ns := ⟨_, rfl⟩
 have HNS := Lib.hid hns
 have hns2 : ns ≤ 1000 := by omega
 have HK := Lib.hid hk
 obtain ⟨i0, hi0, hy0, hy1, hy2⟩ := info_parts infoFc
 have HI0 := Lib.hid hi0; have HI1 := Lib.hid hy0; have HI2 := Lib.hid hy1; have HI3 := Lib.hid hy2
 clear hS hW1 hz1 hc hG hB1 hx hF hl0 hmx hc0 hGD hle hns hk hi0 hy0 hy1 hy2
 go_enter Tryz.func20, Tryz.ntmps20
 go_upto_region 1 with fail
 rw [HW1.out]
 go_wp2_with (go_at_call 49; (with_reducible refine HFD.out.mono ?_); rintro e w7 ⟨a7, c7, rfl, hk7, hm7, hS7, hB7⟩; rw [HNS.out])
 have HS7 := Lib.hid (RowE.of_phs hS7)
 have HB7 := Lib.hid (below_up HB1.out hB7)
 have hs7 := HB7.out.size
 clear hS7 hB7 l0 l1 l2 l3 l4 l5
 go_loopg [7, 22] ns (fun gk v i wr => ∃ (j : Nat) (O : List Fa.Fc), j ≤ ns ∧ gk = ns - j ∧ i = .int .i64 j ∧ Fa.Cn (Fa.nall k (S.take j)) O ∧ wr.ownsRow w7.heap.size 51 2 v O.length (Fa.fcE.flat O) ∧ (Fa.nall k (S.take j)).length ≤ j * 20 ∧ Below w7.heap.size w7 wr)
 case atStart => exact ⟨0, [], by omega, rfl, rfl, Fa.Cn.nil, World.ownsRow_nil _ _ _ _, by simp [Fa.nall], Below.refl _ _⟩
 case round =>
  obtain ⟨j, O, hj, rfl, rfl, hcn, how, hlen, hBr⟩ := hrel
  obtain ⟨V0, hV0⟩ : ∃ V0, V0 = wr := ⟨_, rfl⟩
  subst hV0
  have HCN := Lib.hid hcn; have HOW := Lib.hid how; have HLEN := Lib.hid hlen
  clear hcn how hlen
  by_cases hlt : j < ns
  ·obtain ⟨y, hy⟩ : ∃ y, S[j]? = some y := ⟨_, List.getElem?_eq_getElem (by rw [HNS.out]; exact hlt)⟩
   have hym := List.mem_of_getElem? hy
   have HST : Hid (Fa.nall k (S.take (j + 1)) = Fa.nall k (S.take j) ++ Fa.nms k y) := Lib.hid (by rw [← Fa.nall_snoc, List.take_add_one, hy]; rfl)
   have HGY := Lib.hid (HGD.out y hym)
   have HIY := Lib.hid (HIN0.out V0 (below_up HB7.out hBr) y hym)
   have HOLY := Lib.hid (HOLD.out y hym)
   obtain ⟨b7, o7, ha7, hb7, hcell⟩ := (HS7.out.keep hBr) (by rw [HNS.out]; omega)
   obtain ⟨q0, q1, q2, q3, q4, q5, q6, q7, q8, q9, q10, q11, q12⟩ := PhAt.of_cells (w := V0) (b := b7) (o := o7 + j * 13) (p := y) (fun i hi => by
    have hl : i < (Fd.phCells y).length := hi
    rw [List.getElem?_eq_getElem hl]
    exact hcell j y hy i _ (List.getElem?_eq_getElem hl))
   obtain ⟨W4, hW4, hP, hz4, hB4⟩ := bxP V0 y
   have HW4 := Lib.hid hW4
   have hBr4 := below_up hBr hB4
   have hs4 := hBr4.size
   have HOW4 := Lib.hid (own_keepH HOW.out hB4)
   have HFR := Lib.hid (facetsR_is k HK.out y HGY.out W4 (HIY.out.keep hB4))
   obtain ⟨m0, m1, m2, m3, m4, m5, m6, m7, m8, m9, m10, m11, m12⟩ := hP.photo
   have hj1 : (j : Int) < (ns : Int) := by omega
   clear hcell hy hym hW4 hP hz4
   rw [ha7]
   go_upto_region 5 with fail
   rw [HW4.out]
   clear q0 q1 q2 q3 q4 q5 q6 q7 q8 q9 q10 q11 q12
   go_wp2_with (go_at_call 53; (with_reducible refine HFR.out.mono ?_); rintro e w6 ⟨a6, c6, rfl, hr6, hB6, hnew6⟩)
   clear m0 m1 m2 m3 m4 m5 m6 m7 m8 m9 m10 m11 m12
   have hfew6 := Fa.nms_few (k := k) HGY.out
   have hBr6 := below_up hBr4 hB6
   have hs6 := hB6.size
   have HOW6 := Lib.hid (own_keepH HOW4.out hB6)
   obtain ⟨N0, hN0⟩ : ∃ N0, Fa.nall k (S.take j) = N0 := ⟨_, rfl⟩
   obtain ⟨I, hI⟩ : ∃ I, Fa.nms k y = I := ⟨_, rfl⟩
   have hoff : 0 < I.length → ∀ ad : Addr, a6 = some ad → ∀ b, u7.ownBlock = some b → ad.block ≠ b := fun h0 ad had b hb e => by
    have h0' : 0 < (Fa.nms k y).length := by rw [hI]; exact h0
    have hlt4 := HOW4.out.lt b hb
    rcases hnew6 with h | h
    ·have htn : 0 < y.tn := by rw [← h.2]; exact h0'
     have := HOLY.out htn ad (by rw [← h.1]; exact had)
     omega
    ·have := h ad had
     omega
   have HOFF := Lib.hid hoff
   rw [hN0] at HCN HST HLEN
   rw [hI] at HST hr6 hfew6
   rw [hI]
   have HR6 := Lib.hid hr6
   obtain ⟨ni, hni⟩ : ∃ ni, I.length = ni := ⟨_, rfl⟩
   have HNI := Lib.hid hni
   rw [hni] at hfew6
   rw [hni]
   clear hoff hr6 hN0 hI hni hnew6 HFR HOW HOW4
   go_loopg [7, 30] ni (fun gk v i wr2 => ∃ (t : Nat) (O2 : List Fa.Fc), t ≤ ni ∧ gk = ni - t ∧ i = .int .i64 t ∧ Fa.Cn (N0 ++ I.take t) O2 ∧ wr2.ownsRow w7.heap.size 51 2 v O2.length (Fa.fcE.flat O2) ∧ RowE Fa.strE wr2 a6 I ∧ Fa.Off I a6 wr2.heap.size v ∧ Below w7.heap.size w7 wr2)
   case atStart =>
    refine ⟨0, O, by omega, rfl, rfl, by rw [List.take_zero, List.append_nil]; exact HCN.out, HOW6.out, HR6.out, fun h0 ad had => ⟨?_, HOFF.out h0 ad had⟩, hBr6⟩
    obtain ⟨b, off, e, hb, _⟩ := HR6.out h0
    rw [e] at had; cases had; exact hb
   case round =>
    obtain ⟨t, O2, ht, rfl, rfl, hcn2, how2, hrr, hoff2, hBr2⟩ := hrel
    have HCN2 := Lib.hid hcn2; have HOW2 := Lib.hid how2; have HRR := Lib.hid hrr; have HOFF2 := Lib.hid hoff2
    have hlen2 := hcn2.len
    rw [List.length_append, List.length_take, HNI.out] at hlen2
    have hlen0 := HLEN.out
    have hlen3 : O2.length ≤ 40000 := by omega
    have hs2 := hBr2.size
    clear hcn2 how2 hrr hoff2 hlen2 hlen0
    by_cases hlt2 : t < ni
    ·obtain ⟨z, hz⟩ : ∃ z, I[t]? = some z := ⟨_, List.getElem?_eq_getElem (by rw [HNI.out]; exact hlt2)⟩
     have HTK : Hid (N0 ++ I.take (t + 1) = N0 ++ I.take t ++ [z]) := Lib.hid (by rw [List.take_add_one, hz, List.append_assoc]; rfl)
     obtain ⟨b6, o6, ha6, hb6, hcell⟩ := HRR.out (by rw [HNI.out]; omega)
     have c0 : wr.cell? ⟨b6, o6 + t, none⟩ = some (.string z) := by have := hcell t z hz 0 (.string z) rfl; simpa [Fa.strE] using this
     obtain ⟨Wz, hWz, hZ, hzz, hBz⟩ := box wr #[.string z] 9
     have HWz := Lib.hid hWz
     have hBz2 := below_up hBr2 hBz
     have hsz := hBz.size
     have HZ := Lib.hid hZ
     have HOWz := Lib.hid (own_keepH HOW2.out hBz)
     obtain ⟨av, cv, hvo, hnc, hcm, hrowv⟩ := RowE.of_own (E := Fa.fcE) (OwnV.of_own (show Wz.ownsRow w7.heap.size 51 Fa.fcE.k u7 O2.length (Fa.fcE.flat O2) from HOWz.out)) rfl
     have HIX := Lib.hid (idxFac_is O2 (by omega) av cv z wr.heap.size 9 Wz hrowv hZ)
     have z0 := hZ.one
     have ht1 : (t : Int) < (ni : Int) := by omega
     have HRRz := Lib.hid (HRR.out.keep hBz)
     obtain ⟨m2, hm2⟩ : ∃ m2, O2.length = m2 := ⟨_, rfl⟩
     have HM2 := Lib.hid hm2
     rw [hm2] at HIX hlen3 hnc
     rw [hvo] at HOWz HOFF2
     rw [hm2] at HOWz HOFF2 hvo
     rw [hvo]
     clear hcell hz hWz hZ hzz hrowv hm2 hvo
     rw [ha6]
     go_upto_region 8 with fail
     rw [HWz.out]
     go_upto_region 9 with (go_at_call 54; (with_reducible refine HIX.out.mono ?_); rintro e w36 ⟨r, rfl, hr36, hB36⟩)
     have hBz36 := below_up hBz2 hB36
     have hs36 := hB36.size
     have HOW36 := Lib.hid (own_keepH HOWz.out hB36)
     have z0 := (HZ.out.keep hB36).one
     have HRR36 := Lib.hid (HRRz.out.keep hB36)
     rcases hr36 with ⟨kk, cc, rfl, hkk⟩ | ⟨rfl, hno⟩
     ·have hkl := (List.getElem?_eq_some_iff.1 hkk).1
      rw [HM2.out] at hkl
      have hcc := ((HCN2.out.mem z cc).1 (List.mem_of_getElem? hkk)).2
      have hccl := Fa.cn_le z (N0 ++ I.take t)
      rw [List.length_append, List.length_take, HNI.out] at hccl
      have hcc2 : cc ≤ 40000 := by have := HLEN.out; omega
      have HCN3 := Lib.hid (by have := HCN2.out.again hkk; rwa [← HTK.out] at this : Fa.Cn (N0 ++ I.take (t + 1)) (O2.set kk (z, cc + 1)))
      obtain ⟨g, hg⟩ : ∃ g, av = some ⟨g, 0, none⟩ := by
       rcases HOW36.out.2 with ⟨h0, h1⟩ | ⟨g, cap, cur, e, _⟩
       ·omega
       ·cases e; exact ⟨g, rfl⟩
      subst hg
      have hcell := HOW36.out.cellAt (kk * 2 + 1) (by omega)
      rw [show (Fa.fcE.flat O2)[kk * 2 + 1]? = some (.int .i64 cc) from Fa.fcE.flat_get O2 kk (z, cc) hkk 1 (by decide)] at hcell
      obtain ⟨hput, hfr⟩ := ownsRow_put HOW36.out (kk * 2 + 1) (by omega) (.int .i64 ((cc : Int) + 1))
      rw [show (cc : Int) + 1 = ((cc + 1 : Nat) : Int) by omega, Fa.flat_put O2 kk z cc (cc + 1) hkk, show ((cc + 1 : Nat) : Int) = (cc : Int) + 1 by omega] at hput
      have HPUT := Lib.hid hput
      have hgB := (HOW36.out.lt g rfl)
      have hHR := HRR36.out.grown (grown_set w36 g (kk * 2 + 1) (.int .i64 ((cc : Int) + 1))) (fun h0 ad had e => (HOFF2.out h0 ad had).2 g rfl (by simpa using e))
      have HHR := Lib.hid hHR
      have HOF3 : Hid (Fa.Off I a6 (w36.setCell ⟨g, kk * 2 + 1, none⟩ (.int .i64 ((cc : Int) + 1))).heap.size (.slice (some ⟨g, 0, none⟩) m2 cv)) := Lib.hid (fun h0 ad had => ⟨by have := (HOFF2.out h0 ad had).1; simp; omega, (HOFF2.out h0 ad had).2⟩)
      have HBE := Lib.hid (hBz36.grown (grown_set w36 g (kk * 2 + 1) (.int .i64 ((cc : Int) + 1))) hBz36.size (fun b e => by cases e; exact hgB.1))
      have hk0 : ¬ ((kk : Int) < 0) := by omega
      have hk1 : (kk : Int) < (m2 : Int) := by omega
      have hk2 : (0 : Int) ≤ (kk : Int) := by omega
      have hw : IntKind.i64.wrap ((cc : Int) + 1) = (cc : Int) + 1 := by rw [IntKind.wrap_i64]; omega
      clear hcc hccl hkk hput hHR hgB
      go_wp2_with fail
      rw [← ha6]
      go_roundg (ni - (t + 1))
      case rel => exact ⟨t + 1, O2.set kk (z, cc + 1), by omega, rfl, by go_num, HCN3.out, by rw [List.length_set, HM2.out]; exact HPUT.out, HHR.out, HOF3.out, HBE.out⟩
      case measure => omega
     ·have HCN3 := Lib.hid (by have := HCN2.out.fresh (s := z) hno; rwa [← HTK.out] at this : Fa.Cn (N0 ++ I.take (t + 1)) (O2 ++ [(z, 1)]))
      have hs37 : w7.heap.size ≤ w36.heap.size := by omega
      clear hno
      go_upto_region 12 with (at_builtin; refine wpList_append_own2 _ rfl _ _ 43 rfl w7.heap.size 51 i0 (.agg #[.string ByteArray.empty, .int .i64 0]) 2 24 Tryz.underlying43 HI0.out HI1.out HI2.out HI3.out rfl (by decide) _ _ _ rfl (HOW36.out.alloc _) ⟨w36.heap.size, 0, none⟩ 1 1 (Fa.fcE.cells (z, 0)) rfl (by decide) rfl (cell_ct_new _ _ _ _) (Fa.fcE.one _) (by unfold maxLen; omega) (by omega) (by simp; omega) ?_; intro g8 cap8 w8' hown8 hgrow8 hnew8)
      rw [← Fa.fcE.flat_snoc] at hown8
      have hcell := hown8.cellAt (m2 * 2 + 1) (by omega)
      rw [show (Fa.fcE.flat (O2 ++ [(z, 0)]))[m2 * 2 + 1]? = some (.int .i64 ((0 : Nat) : Int)) from Fa.fcE.flat_get _ m2 (z, 0) (by rw [List.getElem?_append_right (by rw [HM2.out]; exact Nat.le_refl _), HM2.out]; simp) 1 (by decide)] at hcell
      have hset : List.set (O2 ++ [((z, 0) : Fa.Fc)]) m2 (z, 1) = O2 ++ [(z, 1)] := by rw [List.set_append_right _ _ (by rw [HM2.out]; exact Nat.le_refl _), HM2.out]; simp
      obtain ⟨hput, hfr⟩ := ownsRow_put hown8 (m2 * 2 + 1) (by omega) (.int .i64 1)
      rw [show (Value.int .i64 1) = .int .i64 ((1 : Nat) : Int) from rfl, Fa.flat_put (O2 ++ [(z, 0)]) m2 z 0 1 (by rw [List.getElem?_append_right (by rw [HM2.out]; exact Nat.le_refl _), HM2.out]; simp), hset] at hput
      have HPUT := Lib.hid hput
      have hg8 := hown8.lt g8 rfl
      have hR8 := (HRR36.out.keep (below_allocs (Below.refl _ _) (.cells (Fa.fcE.cells (z, 0)).toArray 51))).grown hgrow8 (fun h0 ad had e => (HOFF2.out h0 ad had).2 ad.block e.symm rfl)
      have hne8 : 0 < I.length → ∀ ad : Addr, a6 = some ad → ad.block ≠ g8 ∧ ad.block < w36.heap.size := fun h0 ad had => by
       have h1 := HOFF2.out h0 ad had
       refine ⟨fun e => ?_, by omega⟩
       rcases hnew8 with h | h
       ·exact h1.2 g8 h e
       ·have : w36.heap.size + 1 ≤ g8 := by simpa using h
        omega
      have HHR := Lib.hid (hR8.grown (grown_set w8' g8 (m2 * 2 + 1) (.int .i64 1)) (fun h0 ad had e => (hne8 h0 ad had).1 (by simpa using e)))
      have HOF3 : Hid (Fa.Off I a6 (w8'.setCell ⟨g8, m2 * 2 + 1, none⟩ (.int .i64 1)).heap.size (.slice (some ⟨g8, 0, none⟩) (m2 + 1) cap8)) := Lib.hid (fun h0 ad had => ⟨by have := (hne8 h0 ad had).2; have := hgrow8.size; simp at this ⊢; omega, fun b hb => by cases hb; exact (hne8 h0 ad had).1⟩)
      have HB8' := (below_allocs hBz36 (.cells (Fa.fcE.cells (z, 0)).toArray 51)).grown hgrow8 (by simp; omega) (fun k e => (HOW36.out.lt k e).1)
      have HBE := Lib.hid (HB8'.grown (grown_set w8' g8 (m2 * 2 + 1) (.int .i64 1)) HB8'.size (fun b e => by cases e; exact hg8.1))
      have hk1 : (m2 : Int) < (m2 : Int) + 1 := by omega
      have hw : IntKind.i64.wrap 1 = 1 := by decide
      clear hown8 hput hR8 hne8 HB8' hg8 hgrow8 hnew8
      go_wp2_with fail
      rw [← ha6]
      go_roundg (ni - (t + 1))
      case rel => exact ⟨t + 1, O2 ++ [(z, 1)], by omega, rfl, by go_num, HCN3.out, by rw [List.length_append, HM2.out]; exact HPUT.out, HHR.out, HOF3.out, HBE.out⟩
      case measure => omega
    ·obtain rfl : t = ni := by omega
     have hjn : ¬ ((t : Int) < (t : Int)) := by omega
     have hIt : I.take t = I := List.take_of_length_le (by rw [HNI.out]; omega)
     have HCN3 := Lib.hid (by have := HCN2.out; rwa [hIt, ← HST.out] at this : Fa.Cn (Fa.nall k (S.take (j + 1))) O2)
     have HLN : Hid ((Fa.nall k (S.take (j + 1))).length ≤ (j + 1) * 20) := Lib.hid (by rw [HST.out, List.length_append, HNI.out]; have := HLEN.out; omega)
     clear hIt
     go_wp2_with fail
     rw [← ha7]
     go_roundg (ns - (j + 1))
     case rel => exact ⟨j + 1, O2, by omega, rfl, by go_num, HCN3.out, HOW2.out, HLN.out, hBr2⟩
     case measure => omega
  ·obtain rfl : j = ns := by omega
   have hjn : ¬ ((j : Int) < (j : Int)) := by omega
   have hSt : S.take j = S := List.take_of_length_le (by rw [HNS.out]; omega)
   have HCNS := Lib.hid (by have := HCN.out; rwa [hSt] at this : Fa.Cn (Fa.nall k S) O)
   have hOl : O.length ≤ 20000 := by have := HCN.out.len; have := HLEN.out; omega
   have HBV := Lib.hid (below_up HB7.out hBr)
   clear hSt HCN HLEN
   rcases OwnV.of_own (show V0.ownsRow w7.heap.size 51 Fa.fcE.k u7 O.length (Fa.fcE.flat O) from HOW.out) with ⟨hv0, hl0, _⟩ | ⟨g, cap, hv0, hoc⟩
   ·obtain rfl := List.eq_nil_of_length_eq_zero hl0
    rw [hv0]
    clear hv0 HOW hl0 hOl
    go_wp2_with fail
    go_loopg [58] 0 (fun gk i wr => i = .int .i64 0 ∧ V0 = wr)
    case atStart => exact ⟨rfl, rfl⟩
    case round =>
     obtain ⟨rfl, rfl⟩ := hrel
     go_wp2_with fail
     go_ret
     exact ⟨none, 0, [], rfl, HCNS.out, List.Pairwise.nil, RowE.nil _ _ _, HBV.out⟩
   ·have HS0 : Hid (SRow Fa.fcE V0 w7.heap.size 51 g cap O.length O) := Lib.hid ⟨hoc, rfl⟩
    obtain ⟨tt, htt⟩ : ∃ tt, decide (k = 1) = tt := ⟨_, rfl⟩
    have HTT := Lib.hid htt
    obtain ⟨m, hm⟩ : ∃ m, O.length = m := ⟨_, rfl⟩
    rw [hm] at HS0 hOl hv0
    rw [hv0]
    have HM := Lib.hid hm
    have hgB := hoc.lt.1
    clear hv0 HOW hoc htt hm
    go_wp2_with fail
    go_loopg [58] m (fun gk i wr => ∃ (q : Nat) (P Z : List Fa.Fc), q = P.length ∧ q + Z.length = m ∧ gk = Z.length ∧ i = .int .i64 q ∧ List.Perm (P ++ Z) O ∧ P.Pairwise (Fa.lt2 tt) ∧ SRow Fa.fcE wr w7.heap.size 51 g cap m (P ++ Z) ∧ Below w7.heap.size w7 wr)
    case atStart => exact ⟨0, [], O, rfl, by rw [HM.out]; omega, HM.out.symm, rfl, List.Perm.refl _, List.Pairwise.nil, HS0.out, hBr⟩
    case round =>
     obtain ⟨q, P, Z, hq, hqm, rfl, rfl, hperm, hP, hS, hB3⟩ := hrel
     have HPM := Lib.hid hperm; have HP := Lib.hid hP; have HQ := Lib.hid hq
     clear hperm hP hq
     cases Z with
     | nil =>
       obtain rfl : q = m := by simpa using hqm
       have hqq : ¬ ((q : Int) < (q : Int)) := by omega
       rw [List.append_nil] at hS
       obtain ⟨a', ca', e, _, _, hrow⟩ := RowE.of_own (E := Fa.fcE) (L := P) (.inr ⟨g, cap, rfl, hS.own⟩) hS.len.symm
       have HROW := Lib.hid (by injection e with e1 _ _; rw [e1]; exact hrow : RowE Fa.fcE wr (some ⟨g, 0, none⟩) P)
       have HCNP : Hid (Fa.Cn (Fa.nall k S) P) := Lib.hid (by
        have hp := HPM.out
        rw [List.append_nil] at hp
        exact ⟨((hp.map Prod.fst).nodup_iff).2 HCNS.out.nd, fun s c => by rw [hp.mem_iff]; exact HCNS.out.mem s c⟩)
       have HPL := Lib.hid hS.len
       clear hS e hrow
       go_wp2_with fail
       go_ret
       exact ⟨some ⟨g, 0, none⟩, cap, P, by rw [HPL.out]; rfl, HCNP.out, by rw [HTT.out]; exact HP.out, HROW.out, below_up HB7.out hB3⟩
     | cons x Z =>
       have hqm2 : q < m := by simp at hqm; omega
       have hlt2 : (q : Int) < (m : Int) := by omega
       have HND : Hid (∀ y, y ∈ P → y.1 ≠ x.1) := Lib.hid (fun y hy e => by
        have h1 : ((P ++ x :: Z).map Prod.fst).Nodup := ((HPM.out.map Prod.fst).nodup_iff).2 HCNS.out.nd
        rw [List.map_append, List.nodup_append] at h1
        exact h1.2.2 y.1 (List.mem_map.2 ⟨y, hy, rfl⟩) x.1 (by simp) e)
       have HS3 := Lib.hid hS
       obtain ⟨V1, hV1⟩ : ∃ V1, V1 = wr := ⟨_, rfl⟩
       subst hV1
       clear hS
       go_wp2_with fail
       go_loopg [14] q (fun gk s14 wr2 => ∃ t : Nat, s14 = .int .i64 t ∧ t ≤ q ∧ gk = 0 + t ∧ (∀ p y, t ≤ p → P[p]? = some y → Fa.lt2 tt x y) ∧ SRow Fa.fcE wr2 w7.heap.size 51 g cap m (Stb.ins [] P t x Z) ∧ Below w7.heap.size w7 wr2)
       case atStart => exact ⟨q, rfl, Nat.le_refl _, by omega, fun p y hp hy => (by have := (List.getElem?_eq_some_iff.1 hy).1; have := HQ.out; omega), (by rw [HQ.out, Stb.ins_last]; exact HS3.out), hB3⟩
       case round =>
        obtain ⟨t, rfl, ht, rfl, hup, hS, hB4⟩ := hrel
        have HS := Lib.hid hS; have HUP := Lib.hid hup
        clear hS hup
        have HEND := Lib.hid (fun (h1 : ∀ p y, p < t → P[p]? = some y → Fa.lt2 tt y x) => Stb.placed_in (Fa.lt2_ord tt) HP.out h1 HUP.out)
        cases t with
        | zero =>
          have hja : ¬ ((0 : Int) < ((0 : Nat) : Int)) := by omega
          have HE := Lib.hid (HEND.out (fun p y hp => by omega))
          go_wp2_with fail
          go_roundg Z.length
          case rel =>
           have hlen := HE.out.2.1.length_eq
           rw [List.length_cons] at hlen
           refine ⟨q + 1, P.take (0) ++ x :: P.drop (0), Z, by rw [hlen]; have := HQ.out; omega, by simp at hqm; omega, rfl, by go_num, ?_, HE.out.1, ?_, hB4⟩
           ·refine List.Perm.trans (HE.out.2.2.append_right Z) ?_
            rw [List.append_assoc]
            exact HPM.out
           ·have := HS.out
            unfold Stb.ins at this
            simpa using this
          case measure => simp
        | succ t =>
          obtain ⟨y, hy⟩ : ∃ y, P[t]? = some y := ⟨_, List.getElem?_eq_getElem (by have := HQ.out; omega)⟩
          have hyx := HND.out y (List.mem_of_getElem? hy)
          have HY := Lib.hid hy
          have px : (Stb.ins [] P (t + 1) x Z)[t + 1]? = some x := by have := Stb.ins_at (A := ([] : List Fa.Fc)) (C := Z) (x := x) (P := P) (t := t + 1) (by have := HQ.out; omega); simpa using this
          have py : (Stb.ins [] P (t + 1) x Z)[t]? = some y := by have := Stb.ins_prev (A := ([] : List Fa.Fc)) (C := Z) (x := x) hy; simpa using this
          have hsw : ((Stb.ins [] P (t + 1) x Z).set (t + 1) y).set t x = Stb.ins [] P t x Z := by have := Stb.ins_left (A := ([] : List Fa.Fc)) (C := Z) (x := x) hy; simpa using this
          have HSW := Lib.hid hsw
          have PX := Lib.hid px; have PY := Lib.hid py
          have htm : t + 1 < m := by have := (List.getElem?_eq_some_iff.1 px).1; have := HS.out.len; omega
          have l1 := HS.out.range px
          have l2 := HS.out.range py
          obtain ⟨x1, x2⟩ := x
          obtain ⟨y1, y2⟩ := y
          have d0 : wr.cell? ⟨g, t * 2, none⟩ = some (.string y1) := l2 0 (.string y1) rfl
          have d1 : wr.cell? ⟨g, t * 2 + 1, none⟩ = some (.int .i64 y2) := l2 1 (.int .i64 y2) rfl
          have d2 : wr.cell? ⟨g, (t + 1) * 2, none⟩ = some (.string x1) := l1 0 (.string x1) rfl
          have d3 : wr.cell? ⟨g, (t + 1) * 2 + 1, none⟩ = some (.int .i64 x2) := l1 1 (.int .i64 x2) rfl
          have hgw := HS.out.own.lt.2
          have ep : (((t + 1 : Nat) : Int)) = (t : Int) + 1 := by omega
          have hja : (0 : Int) < (t : Int) + 1 := by omega
          have i0 : (0 : Int) ≤ (t : Int) + 1 := by omega
          have i1 : (t : Int) + 1 < (m : Int) := by omega
          have i2 : ((t : Int) + 1).toNat = t + 1 := by omega
          have i3 : (t : Int) < (m : Int) := by omega
          have i4 : (0 : Int) ≤ (t : Int) := by omega
          have ew : IntKind.i64.wrap (t : Int) = (t : Int) := by rw [IntKind.wrap_i64]; omega
          rw [ep]
          clear hy px py hsw l1 l2 ep
          go_upto_region 21 with fail
          go_cut [15, 16] from 66 to 74 (fun s15 s16 wx => ∃ ba bb : Nat, s15 = .pointer (some ⟨ba, 0, none⟩) ∧ s16 = .pointer (some ⟨bb, 0, none⟩) ∧ Blk wx ba #[.string y1, .int .i64 y2] 51 ∧ Blk wx bb #[.string x1, .int .i64 x2] 51 ∧ Below wr.heap.size wr wx ∧ wr.heap.size ≤ ba ∧ wr.heap.size ≤ bb)
          case first =>
           go_region
           all_goals (go_wp2_with fail; go_meet)
           all_goals first
            | exact ⟨wr.heap.size, wr.heap.size + 1, rfl, rfl, ((Blk.new wr #[.string y1, .int .i64 y2] 51).alloc _).drew, by have := (Blk.new (wr.alloc (.cells #[.string y1, .int .i64 y2] 51)) #[.string x1, .int .i64 x2] 51).drew; simpa using this, (below_allocs (below_allocs (Below.refl _ _) _) _).drew, by omega, by omega⟩
            | exact ⟨wr.heap.size + 1, wr.heap.size, rfl, rfl, by have := (Blk.new (wr.alloc (.cells #[.string x1, .int .i64 x2] 51)) #[.string y1, .int .i64 y2] 51).drew; simpa using this, ((Blk.new wr #[.string x1, .int .i64 x2] 51).alloc _).drew, (below_allocs (below_allocs (Below.refl _ _) _) _).drew, by omega, by omega⟩
          case rest =>
           obtain ⟨ba, bb, rfl, rfl, hA, hBk, hBc, hba, hbb⟩ := hcut
           obtain ⟨V2, hV2⟩ : ∃ V2, V2 = wc := ⟨_, rfl⟩
           subst hV2
           have hag : ba ≠ g := by omega
           have hbg : bb ≠ g := by omega
           have HSc := Lib.hid (HS.out.keep hBc)
           have HB5 := Lib.hid (below_up hB4 hBc)
           obtain ⟨z0, z1⟩ := hA.two
           obtain ⟨z2, z3⟩ := hBk.two
           obtain ⟨bl, hbl⟩ : ∃ bl, Op.bytesLess x1.toList y1.toList = bl := ⟨_, rfl⟩
           have HBL := Lib.hid hbl
           have HYX : Hid (y1 ≠ x1) := Lib.hid hyx
           have HNEXT := Lib.hid (fun (hl : Fa.lt2 tt (x1, x2) (y1, y2)) p (z : Fa.Fc) (hp : t ≤ p) (hz : P[p]? = some z) => (by
            by_cases e : p = t
            ·subst e; have := HY.out; rw [hz] at this; cases this; exact hl
            ·exact HUP.out p z (by omega) hz : Fa.lt2 tt (x1, x2) z))
           have HSTOP := Lib.hid (fun (hl : ¬ Fa.lt2 tt (x1, x2) (y1, y2)) => HEND.out (fun p z hp hz => by
            have hyl : Fa.lt2 tt (y1, y2) (x1, x2) := Fa.lt2_or (fun e => HYX.out e.symm) hl
            by_cases e : p = t
            ·subst e; have := HY.out; rw [hz] at this; cases this; exact hyl
            ·exact (Fa.lt2_ord tt).tr _ _ _ (Stb.sorted_at HP.out hz HY.out (by omega)) hyl))
           clear d0 d1 d2 d3 hA hBk hBc hba hbb hyx hB4
           have e0 : V2.cell? ⟨g, t * 2, none⟩ = some (.string y1) := (HSc.out.range (p := t) (x := (y1, y2)) PY.out) 0 (.string y1) rfl
           have e1 : V2.cell? ⟨g, t * 2 + 1, none⟩ = some (.int .i64 y2) := (HSc.out.range (p := t) (x := (y1, y2)) PY.out) 1 (.int .i64 y2) rfl
           have e2 : V2.cell? ⟨g, (t + 1) * 2, none⟩ = some (.string x1) := (HSc.out.range (p := t + 1) (x := (x1, x2)) PX.out) 0 (.string x1) rfl
           have e3 : V2.cell? ⟨g, (t + 1) * 2 + 1, none⟩ = some (.int .i64 x2) := (HSc.out.range (p := t + 1) (x := (x1, x2)) PX.out) 1 (.int .i64 x2) rfl
           have hfr : ∀ o, V2.frozen? ⟨g, o, none⟩ = false := by
            obtain ⟨cur, _, hcur, _⟩ := HSc.out.own
            exact fun o => frozen_of hcur o
           have f0 := hfr (t * 2)
           have f1 := hfr (t * 2 + 1)
           have f2 := hfr ((t + 1) * 2)
           have f3 := hfr ((t + 1) * 2 + 1)
           have HSWP : Hid (SRow Fa.fcE (((((V2.setCell ⟨g, t * 2, none⟩ (.string x1)).setCell ⟨g, t * 2 + 1, none⟩ (.int .i64 x2)).setCell ⟨g, (t + 1) * 2, none⟩ (.string y1)).setCell ⟨g, (t + 1) * 2 + 1, none⟩ (.int .i64 y2)).drew) w7.heap.size 51 g cap m (Stb.ins [] P t (x1, x2) Z) ∧ V2.grownBy (((((V2.setCell ⟨g, t * 2, none⟩ (.string x1)).setCell ⟨g, t * 2 + 1, none⟩ (.int .i64 x2)).setCell ⟨g, (t + 1) * 2, none⟩ (.string y1)).setCell ⟨g, (t + 1) * 2 + 1, none⟩ (.int .i64 y2)).drew) (some g)) := Lib.hid (by
            obtain ⟨ws1, hst1, hS1, hG1⟩ := HSc.out.store (P := Tryz.prog) (p := t) (by omega) (x1, x2) (by kernel_rfl)
            obtain ⟨ws2, hst2, hS2, hG2⟩ := hS1.store (P := Tryz.prog) (p := t + 1) (by omega) (y1, y2) (by kernel_rfl)
            have r1 := run_storeAt_mid (P := Tryz.prog) V2 g (t * 2) 51 #[.string x1, .int .i64 x2] (fun j hj => by
             have hj2 : j = 0 ∨ j = 1 := by have : j < 2 := hj; omega
             rcases hj2 with rfl | rfl
             ·exact ⟨by rw [show t * 2 + 0 = t * 2 from rfl, e0]; rfl, hfr _⟩
             ·exact ⟨by rw [e1]; rfl, hfr _⟩) (by kernel_rfl) (by simp [Value.oneCell'])
            have q1 := hst1.symm.trans r1
            injection q1 with _ q1
            subst q1
            have hc2 : ∃ cur, (V2.setCells g (t * 2) (#[.string x1, .int .i64 x2] : Array Value).toList).heap[g]? = some (.cells cur 51 (0, 0)) := by
             obtain ⟨cur, _, hcur, _⟩ := hS1.own
             exact ⟨cur, hcur⟩
            obtain ⟨cur, hcur⟩ := hc2
            have hrg := hS1.range (p := t + 1) (x := (x1, x2)) (by rw [List.getElem?_set, if_neg (by omega)]; exact PX.out)
            have r2 := run_storeAt_mid (P := Tryz.prog) (V2.setCells g (t * 2) (#[.string x1, .int .i64 x2] : Array Value).toList) g ((t + 1) * 2) 51 #[.string y1, .int .i64 y2] (fun j hj => by
             have hj2 : j = 0 ∨ j = 1 := by have : j < 2 := hj; omega
             rcases hj2 with rfl | rfl
             ·exact ⟨by have := hrg 0 (.string x1) rfl; rw [show (t + 1) * 2 + 0 = (t + 1) * Fa.fcE.k + 0 from rfl, this]; rfl, frozen_of hcur _⟩
             ·exact ⟨by have := hrg 1 (.int .i64 x2) rfl; rw [show (t + 1) * 2 + 1 = (t + 1) * Fa.fcE.k + 1 from rfl, this]; rfl, frozen_of hcur _⟩) (by kernel_rfl) (by simp [Value.oneCell'])
            have q2 := hst2.symm.trans r2
            injection q2 with _ q2
            subst q2
            have hfin : ((Stb.ins [] P (t + 1) (x1, x2) Z).set t (x1, x2)).set (t + 1) (y1, y2) = Stb.ins [] P t (x1, x2) Z := by
             rw [List.set_comm _ _ (by omega)]; exact HSW.out
            rw [hfin] at hS2
            exact ⟨hS2.drew, grown_dn (hG1.trans hG2) (World.grownBy.refl _ _)⟩)
           have HSW2 := Lib.hid HSWP.out.1
           have HB6 := Lib.hid (HB5.out.grown HSWP.out.2 HB5.out.size (fun b e => by cases e; exact hgB))
           by_cases hk1 : k = 1
           ·subst hk1
            have htt : tt = true := HTT.out.symm
            subst htt
            have HLS : Hid (Fa.less true x1 y1 = bl) := Lib.hid HBL.out
            cases bl
            ·rcases Nat.lt_trichotomy x2 y2 with h | h | h
             ·have h1 : (x2 : Int) < (y2 : Int) := by omega
              have HE := Lib.hid (HSTOP.out (by rw [Fa.lt2_iff]; (simp only; omega)))
              go_wp2_with fail
              go_roundg Z.length
              case rel =>
               have hlen := HE.out.2.1.length_eq
               rw [List.length_cons] at hlen
               refine ⟨q + 1, P.take (t + 1) ++ (x1, x2) :: P.drop (t + 1), Z, by rw [hlen]; have := HQ.out; omega, by simp at hqm; omega, rfl, by go_num, ?_, HE.out.1, ?_, HB5.out⟩
               ·refine List.Perm.trans (HE.out.2.2.append_right Z) ?_
                rw [List.append_assoc]
                exact HPM.out
               ·have := HSc.out
                unfold Stb.ins at this
                simpa using this
              case measure => simp
             ·subst h
              have h1 : ¬ ((x2 : Int) < (x2 : Int)) := by omega
              have HE := Lib.hid (HSTOP.out (by rw [Fa.lt2_iff]; (simp only; rw [HLS.out]; simp)))
              go_wp2_with fail
              go_roundg Z.length
              case rel =>
               have hlen := HE.out.2.1.length_eq
               rw [List.length_cons] at hlen
               refine ⟨q + 1, P.take (t + 1) ++ (x1, x2) :: P.drop (t + 1), Z, by rw [hlen]; have := HQ.out; omega, by simp at hqm; omega, rfl, by go_num, ?_, HE.out.1, ?_, HB5.out⟩
               ·refine List.Perm.trans (HE.out.2.2.append_right Z) ?_
                rw [List.append_assoc]
                exact HPM.out
               ·have := HSc.out
                unfold Stb.ins at this
                simpa using this
              case measure => simp
             ·have h1 : ¬ ((x2 : Int) < (y2 : Int)) := by omega
              have h2 : ¬ ((x2 : Int) = (y2 : Int)) := by omega
              have h3 : ((x2 : Int) == (y2 : Int)) = false := by simpa using h2
              have HL := Lib.hid (HNEXT.out (by rw [Fa.lt2_iff]; (simp only; omega)))
              go_wp2_with fail
              go_region
              all_goals go_wp2_with fail
              go_roundg (0 + t)
              case rel => exact ⟨t, by go_num, by omega, rfl, HL.out, HSW2.out, HB6.out⟩
              case measure => omega
            ·rcases Nat.lt_trichotomy x2 y2 with h | h | h
             ·have h1 : (x2 : Int) < (y2 : Int) := by omega
              have HE := Lib.hid (HSTOP.out (by rw [Fa.lt2_iff]; (simp only; omega)))
              go_wp2_with fail
              go_roundg Z.length
              case rel =>
               have hlen := HE.out.2.1.length_eq
               rw [List.length_cons] at hlen
               refine ⟨q + 1, P.take (t + 1) ++ (x1, x2) :: P.drop (t + 1), Z, by rw [hlen]; have := HQ.out; omega, by simp at hqm; omega, rfl, by go_num, ?_, HE.out.1, ?_, HB5.out⟩
               ·refine List.Perm.trans (HE.out.2.2.append_right Z) ?_
                rw [List.append_assoc]
                exact HPM.out
               ·have := HSc.out
                unfold Stb.ins at this
                simpa using this
              case measure => simp
             ·subst h
              have h1 : ¬ ((x2 : Int) < (x2 : Int)) := by omega
              have HL := Lib.hid (HNEXT.out (by rw [Fa.lt2_iff]; (simp only; rw [HLS.out]; simp)))
              go_wp2_with fail
              go_region
              all_goals go_wp2_with fail
              go_roundg (0 + t)
              case rel => exact ⟨t, by go_num, by omega, rfl, HL.out, HSW2.out, HB6.out⟩
              case measure => omega
             ·have h1 : ¬ ((x2 : Int) < (y2 : Int)) := by omega
              have h2 : ¬ ((x2 : Int) = (y2 : Int)) := by omega
              have h3 : ((x2 : Int) == (y2 : Int)) = false := by simpa using h2
              have HL := Lib.hid (HNEXT.out (by rw [Fa.lt2_iff]; (simp only; omega)))
              go_wp2_with fail
              go_region
              all_goals go_wp2_with fail
              go_roundg (0 + t)
              case rel => exact ⟨t, by go_num, by omega, rfl, HL.out, HSW2.out, HB6.out⟩
              case measure => omega
           ·have hk1' : (k != 1) = true := by simpa using hk1
            have htt : tt = false := by rw [← HTT.out]; exact decide_eq_false hk1
            subst htt
            obtain ⟨qq, hqq⟩ : ∃ qq, Fa.less false x1 y1 = qq := ⟨_, rfl⟩
            have HLS := Lib.hid hqq
            unfold Fa.less at hqq
            simp only [Bool.false_eq_true, if_false] at hqq
            rw [HBL.out] at hqq
            clear hk1
            go_upto_if 81 with fail
            go_cut [17] from 82 to 100 (fun s17 w' => s17 = .bool qq ∧ V2 = w')
            case first =>
             rcases Nat.lt_trichotomy x1.size y1.size with h | h | h
             ·have h1 : ((x1.size : Nat) : Int) < ((y1.size : Nat) : Int) := by omega
              rw [decide_eq_true h] at hqq
              have hq : qq = true := by rw [← hqq]; rfl
              subst hq
              clear hqq
              go_wp2_with fail
              go_meet
              exact ⟨rfl, rfl⟩
             ·have h1 : ¬ ((x1.size : Nat) : Int) < ((y1.size : Nat) : Int) := by omega
              have h2 : ((x1.size : Nat) : Int) = ((y1.size : Nat) : Int) := by omega
              rw [decide_eq_false (by omega), decide_eq_true h] at hqq
              have hq : qq = bl := by rw [← hqq]; simp
              subst hq
              clear hqq
              go_wp2_with fail
              go_meet
              exact ⟨rfl, rfl⟩
             ·have h1 : ¬ ((x1.size : Nat) : Int) < ((y1.size : Nat) : Int) := by omega
              have h2 : ¬ ((x1.size : Nat) : Int) = ((y1.size : Nat) : Int) := by omega
              have h3 : (((x1.size : Nat) : Int) == ((y1.size : Nat) : Int)) = false := by simpa using h2
              rw [decide_eq_false (by omega), decide_eq_false (by omega)] at hqq
              have hq : qq = false := by rw [← hqq]; rfl
              subst hq
              clear hqq
              go_wp2_with fail
              go_meet
              exact ⟨rfl, rfl⟩
            case rest =>
             obtain ⟨rfl, rfl⟩ := hcut
             clear hqq
             cases qq
             ·rcases Nat.lt_trichotomy x2 y2 with h | h | h
              ·have h1 : (x2 : Int) < (y2 : Int) := by omega
               have HE := Lib.hid (HSTOP.out (by rw [Fa.lt2_iff]; (simp only; omega)))
               go_wp2_with fail
               go_roundg Z.length
               case rel =>
                have hlen := HE.out.2.1.length_eq
                rw [List.length_cons] at hlen
                refine ⟨q + 1, P.take (t + 1) ++ (x1, x2) :: P.drop (t + 1), Z, by rw [hlen]; have := HQ.out; omega, by simp at hqm; omega, rfl, by go_num, ?_, HE.out.1, ?_, HB5.out⟩
                ·refine List.Perm.trans (HE.out.2.2.append_right Z) ?_
                 rw [List.append_assoc]
                 exact HPM.out
                ·have := HSc.out
                 unfold Stb.ins at this
                 simpa using this
               case measure => simp
              ·subst h
               have h1 : ¬ ((x2 : Int) < (x2 : Int)) := by omega
               have HE := Lib.hid (HSTOP.out (by rw [Fa.lt2_iff]; (simp only; rw [HLS.out]; simp)))
               go_wp2_with fail
               go_roundg Z.length
               case rel =>
                have hlen := HE.out.2.1.length_eq
                rw [List.length_cons] at hlen
                refine ⟨q + 1, P.take (t + 1) ++ (x1, x2) :: P.drop (t + 1), Z, by rw [hlen]; have := HQ.out; omega, by simp at hqm; omega, rfl, by go_num, ?_, HE.out.1, ?_, HB5.out⟩
                ·refine List.Perm.trans (HE.out.2.2.append_right Z) ?_
                 rw [List.append_assoc]
                 exact HPM.out
                ·have := HSc.out
                 unfold Stb.ins at this
                 simpa using this
               case measure => simp
              ·have h1 : ¬ ((x2 : Int) < (y2 : Int)) := by omega
               have h2 : ¬ ((x2 : Int) = (y2 : Int)) := by omega
               have h3 : ((x2 : Int) == (y2 : Int)) = false := by simpa using h2
               have HL := Lib.hid (HNEXT.out (by rw [Fa.lt2_iff]; (simp only; omega)))
               go_wp2_with fail
               go_region
               all_goals go_wp2_with fail
               go_roundg (0 + t)
               case rel => exact ⟨t, by go_num, by omega, rfl, HL.out, HSW2.out, HB6.out⟩
               case measure => omega
             ·rcases Nat.lt_trichotomy x2 y2 with h | h | h
              ·have h1 : (x2 : Int) < (y2 : Int) := by omega
               have HE := Lib.hid (HSTOP.out (by rw [Fa.lt2_iff]; (simp only; omega)))
               go_wp2_with fail
               go_roundg Z.length
               case rel =>
                have hlen := HE.out.2.1.length_eq
                rw [List.length_cons] at hlen
                refine ⟨q + 1, P.take (t + 1) ++ (x1, x2) :: P.drop (t + 1), Z, by rw [hlen]; have := HQ.out; omega, by simp at hqm; omega, rfl, by go_num, ?_, HE.out.1, ?_, HB5.out⟩
                ·refine List.Perm.trans (HE.out.2.2.append_right Z) ?_
                 rw [List.append_assoc]
                 exact HPM.out
                ·have := HSc.out
                 unfold Stb.ins at this
                 simpa using this
               case measure => simp
              ·subst h
               have h1 : ¬ ((x2 : Int) < (x2 : Int)) := by omega
               have HL := Lib.hid (HNEXT.out (by rw [Fa.lt2_iff]; (simp only; rw [HLS.out]; simp)))
               go_wp2_with fail
               go_region
               all_goals go_wp2_with fail
               go_roundg (0 + t)
               case rel => exact ⟨t, by go_num, by omega, rfl, HL.out, HSW2.out, HB6.out⟩
               case measure => omega
              ·have h1 : ¬ ((x2 : Int) < (y2 : Int)) := by omega
               have h2 : ¬ ((x2 : Int) = (y2 : Int)) := by omega
               have h3 : ((x2 : Int) == (y2 : Int)) = false := by simpa using h2
               have HL := Lib.hid (HNEXT.out (by rw [Fa.lt2_iff]; (simp only; omega)))
               go_wp2_with fail
               go_region
               all_goals go_wp2_with fail
               go_roundg (0 + t)
               case rel => exact ⟨t, by go_num, by omega, rfl, HL.out, HSW2.out, HB6.out⟩
               case measure => omega
end Go.Proofs.YtimjmjmpaicdbaaGreatDoor

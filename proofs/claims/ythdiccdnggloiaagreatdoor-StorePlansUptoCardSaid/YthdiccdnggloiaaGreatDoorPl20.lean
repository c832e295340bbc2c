/- Parts of the proof, no condition: StWoC, OrdN, StTmd, StTme. -/
import Derived.Test.YthdiccdnggloiaaGreatDoorPl7
import Derived.Test.YthdiccdnggloiaaGreatDoorPl3
import Derived.Test.YthdiccdnggloiaaGreatDoorPl6
import Derived.Test.YthdiccdnggloiaaGreatDoorPl5
import Derived.Test.YthdiccdnggloiaaGreatDoorPl1
import Derived.Test.YthdiccdnggloiaaGreatDoorPl18
import Derived.Test.YthdiccdnggloiaaGreatDoorPl11
import Derived.Test.YthdiccdnggloiaaGreatDoorPl9
import Derived.Maps.RangeWalk
set_option maxRecDepth 100000
set_option maxHeartbeats 16000000
set_option linter.unusedSimpArgs false
set_option linter.unusedVariables false
namespace Go.Proofs.YthdiccdnggloiaaGreatDoor
open Go.RowKit Go.Sort Go.Shelf Go.Maps
theorem flat_delC (L : List Cop) (p : Nat) : (St.eC.flat L).take (p * 4) ++ (St.eC.flat L).drop ((p + 1) * 4) = St.eC.flat (L.eraseIdx p) := by
 have h1 := Enc.flat_take St.eC L p
 have h2 := Enc.flat_drop St.eC L (p + 1)
 have h3 : St.eC.k = 4 := rfl
 rw [h3] at h1 h2
 rw [h1, h2, ← Enc.flat_append, List.eraseIdx_eq_take_drop_succ]
theorem woC_is (L : List Cop) (hu : St.Up St.ckey L) (hz : ∀ x ∈ L, x.dig.size ≤ 100 ∧ x.tier.size ≤ 100) (h1m : L.length ≤ 900000) (k : ByteArray) (a : Option Addr) (ca : Nat) (w : World) (hl : L.length ≤ ca ∧ ca ≤ 9223372036854775807) (hr : RowE St.eC w a L) :
  Calls Tryz.prog 186 #[.agg #[.func (.func 144) #[] #[], .slice a L.length ca], .string k] w (ClnPost St.eC 74 w (St.wo St.ckey k L)) := by
 obtain ⟨W1, hW1, hP, hz1, hB1⟩ := box w #[.func (.func 144) #[] #[], .slice a L.length ca] 97
 have HW1 := Lib.hid hW1; have HBB := Lib.hid hB1; have HZS : Hid (w.heap.size ≤ W1.heap.size) := Lib.hid hB1.size
 have HCL : Hid (∀ V, Below W1.heap.size W1 V → V.cell? ⟨w.heap.size, 0, none⟩ = some (.func (.func 144) #[] #[]) ∧ V.cell? ⟨w.heap.size, 1, none⟩ = some (.slice a L.length ca)) := Lib.hid fun V hv => ⟨((hP.keep hv).cell 0).trans rfl, ((hP.keep hv).cell 1).trans rfl⟩
 have HPL := Lib.hid (fun V (hv : Below W1.heap.size W1 V) => placeC_is L hu hz (by omega) k a ca V hl ((hr.keep HBB.out).keep hv))
 have HCN := Lib.hid (fun V (hv : Below W1.heap.size W1 V) => clnC_is (L := L) a ca V ((hr.keep HBB.out).keep hv) (by omega))
 unfold ClnPost at HCN
 have HW : Hid (St.wo St.ckey k L = if St.hasK St.ckey L k = true then L.eraseIdx (St.pos St.ckey k L) else L) := Lib.hid rfl
 have HPT := Lib.hid (fun h : St.hasK St.ckey L k = true => St.hasK_at hu h)
 obtain ⟨p, hp⟩ : ∃ p, St.pos St.ckey k L = p := ⟨_, rfl⟩
 obtain ⟨hb, hhb⟩ : ∃ hb, St.hasK St.ckey L k = hb := ⟨_, rfl⟩
 rw [hp, hhb] at HPL HW HPT
 obtain ⟨n, hn⟩ : ∃ n, L.length = n := ⟨_, rfl⟩
 have HN := Lib.hid hn
 rw [hn] at hl h1m HCL HPL HCN HW1 ⊢
 have hmf : ∀ (fn : Fn) (first cap : Array Value) (w : World), (Instr.makeFunc fn first cap).run Tryz.prog w = .ok (.func fn first cap) w := fun _ _ _ _ => rfl
 clear hr hW1 hP hz1 hB1 hu hz hp hhb hn
 go_enter Tryz.func186, Tryz.ntmps186
 go_upto_region 1 with fail
 rw [HW1.out]
 have hv : Below W1.heap.size W1 W1 := Below.refl _ _
 obtain ⟨r0, r1⟩ := HCL.out _ hv
 go_upto_region 2 with (go_at_call 55; (with_reducible refine (HPL.out _ hv).mono ?_); rintro e wp ⟨rfl, hq⟩; have hv := below_up hv hq; obtain ⟨r0, r1⟩ := HCL.out _ hv)
 cases hb
 ·have hW := HW.out
  rw [if_neg (by decide)] at hW
  have HWL : Hid (St.wo St.ckey k L = L) := Lib.hid hW
  clear hW
  go_wp2_with (first
   | (go_at_call 139; (with_reducible refine (HCN.out _ hv).mono ?_); rintro e w4 ⟨g4, c4, rfl, ho4, hq⟩; have HO4 := Lib.hid (ho4.down (Nat.le_trans HZS.out hv.size)); have l1 := ho4.caps.1; have l2 := ho4.caps.2; have HV4 := Lib.hid (below_up HBB.out (below_up hv hq)); clear ho4 hq)
   | (go_at_call 138; (with_reducible refine (clnC_clip _ _ _ _ l1 l2).mono ?_); rintro e wc ⟨rfl, rfl⟩))
  go_ret
  refine ⟨g4, n, by rw [HWL.out, HN.out]; rfl, ?_, HV4.out⟩
  rw [HWL.out, HN.out]
  exact HO4.out.clip
 ·obtain ⟨y, hy, _⟩ := HPT.out rfl
  have hpn : p < n := by rw [← HN.out]; exact (List.getElem?_eq_some_iff.1 hy).1
  obtain ⟨m, rfl⟩ : ∃ m, n = m + 1 := ⟨n - 1, by omega⟩
  have hW := HW.out
  rw [if_pos rfl] at hW
  have HWL : Hid (St.wo St.ckey k L = L.eraseIdx p) := Lib.hid hW
  have HWN : Hid ((L.eraseIdx p).length = m) := Lib.hid (by rw [List.length_eraseIdx_of_lt (by rw [HN.out]; exact hpn), HN.out]; rfl)
  clear hW hy
  have hp0 : (0 : Int) ≤ (p : Int) := by omega
  have hpw : IntKind.i64.wrap ((p : Int) + 1) = (p : Int) + 1 := by rw [IntKind.wrap_i64]; omega
  go_wp2_with (first
   | (go_at_call 139; (with_reducible refine (HCN.out _ hv).mono ?_); rintro e w4 ⟨g4, c4, rfl, ho4, hq⟩; have ho : OwnV w4 w.heap.size 74 4 (.slice g4 (m + 1) c4) (m + 1) (St.eC.flat L) := ho4.down (Nat.le_trans HZS.out hv.size); have HV4 := Lib.hid (below_up HBB.out (below_up hv hq)); obtain ⟨g, hg, hc⟩ : ∃ g, g4 = some ⟨g, 0, none⟩ ∧ OwnC w4 w.heap.size 74 4 g (m + 1) c4 (St.eC.flat L) := (by (rcases ho with ⟨_, h0, _⟩ | ⟨g, cap, h0, hc⟩); (exact absurd h0 (by omega)); (cases h0; exact ⟨g, rfl, hc⟩)); subst hg; have HGL := Lib.hid hc.lt.1; have HDL := Lib.hid (cp_del w.heap.size g m c4 p (St.eC.flat L) w4 hc (by omega) (by omega) (Enc.flat_one St.eC L)); rw [flat_delC] at HDL; clear ho4 hq ho hc)
   | (go_at_call 187; (with_reducible refine HDL.out.mono ?_); rintro e w8 ⟨rfl, hc8, hg8⟩; have HC8 := Lib.hid hc8; have HF := Lib.hid (HV4.out.grown hg8 HV4.out.size (fun b e => by cases e; exact HGL.out)); have l1 : m ≤ c4 := (by obtain ⟨_, _, _, h, _⟩ := HC8.out; exact h); have l2 : c4 ≤ 9223372036854775807 := (by obtain ⟨_, _, _, _, h, _⟩ := HC8.out; exact h); clear hc8 hg8)
   | (go_at_call 138; (with_reducible refine (clnC_clip _ _ _ _ l1 l2).mono ?_); rintro e wc ⟨rfl, rfl⟩))
  go_ret
  refine ⟨some ⟨g, 0, none⟩, m, by rw [HWL.out, HWN.out]; rfl, ?_, HF.out⟩
  rw [HWL.out, HWN.out]
  exact .inr ⟨g, m, rfl, HC8.out.clip⟩
end Go.Proofs.YthdiccdnggloiaaGreatDoor
namespace Go.Proofs.YthdiccdnggloiaaGreatDoor
open Go
section
variable {P : Program} {ops : Array Oper} {Q : Exit → Act → World → Prop} {md : Region.Mode} {C : World → Prop} {m k : Nat}
theorem anyM_firstVia {i : Nat} {oi om ok : Oper} {v : Value} (hi : ops[i]? = some oi) (hom : ops[m]? = some om) (hok : ops[k]? = some ok) (hwm : ∃ e ∈ om.after, Region.binds md e = true ∧ e.on = k) (hwk : ∃ e ∈ ok.after, Region.binds md e = true ∧ e.on = i) (him : i ≠ m) (hik : i ≠ k) (hkm : k ≠ m)
  (hsel : ∀ (j : Nat) (o : Oper) cs b, ops[j]? = some o → o.op ≠ .select cs b) (hQ : ∀ c a w, Q (.panic c) (a.put oi.dst v) w → Q (.panic c) a w) :
  ∀ (f : Nat) (l : Array Bool) (a : Act) (w : World),
    (∀ j oj, ops[j]? = some oj → j ≠ i → j ≠ m → l.getD j true = false → (∀ e ∈ oj.after, Region.binds md e = true → e.on ≠ i) → oi.apart ops oj = true) →
    i ∈ Region.ready md ops l → YieldsIf P ops C oi v a → l.getD m true = false → l.getD k true = false → C w →
    anyM P md ops Q C m f (l.setIfInBounds i true) (a.put oi.dst v) w → anyM P md ops Q C m (f + 1) l a w := by
 have one : ∀ (f : Nat) (l : Array Bool) (a : Act) (w : World), YieldsIf P ops C oi v a → C w → anyM P md ops Q C m f (l.setIfInBounds i true) (a.put oi.dst v) w →
   wpOp P ops Q i (fun a' w' => Until C m (l.setIfInBounds i true) w' ∧ anyM P md ops Q C m f (l.setIfInBounds i true) a' w') a w :=
  fun f l a w hy hC H => hy.wpOp hi hC ⟨fun _ => hC, H⟩
 intro f
 induction f with
 | zero =>
   intro l a w _ hr hy _ _ hC H
   refine ⟨fun h => (by rw [h] at hr; cases hr), fun j hj => ?_⟩
   by_cases hji : j = i
   ·subst hji; exact one 0 l a w hy hC H
   ·have := ready_mono hj hji
    rw [H.1] at this; cases this
 | succ f ih =>
   intro l a w hfree hr hy hm hk hC H
   refine ⟨fun h => (by rw [h] at hr; cases hr), fun j hj => ?_⟩
   by_cases hji : j = i
   ·subst hji; exact one (f + 1) l a w hy hC H
   ·obtain ⟨hjun, oj, hoj, hall⟩ := mem_ready.1 hj
    have hiun := (mem_ready.1 hr).1
    have hno : ∀ e ∈ oj.after, Region.binds md e = true → e.on ≠ i := fun e he hb heq => both_no hiun (heq ▸ hall e he hb)
    have hjk : j ≠ k := by
     rintro rfl
     rw [hok] at hoj
     injection hoj with hoj
     subst hoj
     obtain ⟨e, he, hb, heq⟩ := hwk
     exact hno e he hb heq
    have hjm : j ≠ m := by
     rintro rfl
     rw [hom] at hoj
     injection hoj with hoj
     subst hoj
     obtain ⟨e, he, hb, heq⟩ := hwm
     exact both_no hk (heq ▸ hall e he hb)
    have hstep := wpOp_putIf hoj (hfree j oj hoj hji hjm hjun hno) (fun cs b => hsel i oi cs b hi) (fun cs b => hsel j oj cs b hoj) hQ hy (H.2 j (ready_mono hj hji))
    have hm' : (l.setIfInBounds j true).getD m true = false := by rw [getD_set_ne true hjm]; exact hm
    have hk' : (l.setIfInBounds j true).getD k true = false := by rw [getD_set_ne true hjk]; exact hk
    have hm2 : ((l.setIfInBounds i true).setIfInBounds j true).getD m true = false := by rw [getD_set_ne true hjm, getD_set_ne true him]; exact hm
    refine wpOp_mono (fun a' w' h3 => ⟨fun _ => h3.2.1 hm2, ih (l.setIfInBounds j true) a' w' (fun k2 ok2 hk2 hki hkm2 hun hno' => ?_) (ready_mono hr (Ne.symm hji)) h3.1 hm' hk' (h3.2.1 hm2) ?_⟩) hstep
    ·refine hfree k2 ok2 hk2 hki hkm2 ?_ hno'
     by_cases hjk2 : j = k2
     ·subst hjk2; exact hjun
     ·rw [getD_set_ne true hjk2] at hun; exact hun
    ·rw [Array.setIfInBounds_comm _ _ hji]
     exact h3.2.2
theorem anyM_takeVia {i : Nat} {oi om ok : Oper} {v : Value} {f : Nat} {l : Array Bool} {a : Act} {w : World} (hi : ops[i]? = some oi) (hom : ops[m]? = some om) (hok : ops[k]? = some ok) (hwm : (om.after.any fun e => Region.binds md e && e.on == k) = true) (hwk : (ok.after.any fun e => Region.binds md e && e.on == i) = true) (him : i ≠ m) (hik : i ≠ k) (hkm : k ≠ m)
  (hs : Region.noSelect ops = true) (hf : Region.free md ops (l.setIfInBounds m true) i = true) (hr : (Region.ready md ops l).contains i = true)
  (hQ : ∀ c a w, Q (.panic c) (a.put oi.dst v) w → Q (.panic c) a w) (hy : YieldsIf P ops C oi v a) (hm : l.getD m true = false) (hk : l.getD k true = false) (hC : C w)
  (h : anyM P md ops Q C m f (l.setIfInBounds i true) (a.put oi.dst v) w) : anyM P md ops Q C m (f + 1) l a w := by
 have un : ∀ {o : Oper} {q : Nat}, (o.after.any fun e => Region.binds md e && e.on == q) = true → ∃ e ∈ o.after, Region.binds md e = true ∧ e.on = q := fun h => by
  obtain ⟨j, hj, hb⟩ := Array.any_eq_true.1 h
  rw [Bool.and_eq_true] at hb
  exact ⟨_, Array.getElem_mem hj, hb.1, by simpa using hb.2⟩
 refine anyM_firstVia hi hom hok (un hwm) (un hwk) him hik hkm (Region.noSelect_spec hs) hQ f l a w (fun j oj hj hji hjm hun hno => ?_) (by simpa using hr) hy hm hk hC h
 exact Region.free_spec hi hf j oj hj hji (by rw [getD_set_ne true (Ne.symm hjm)]; exact hun) hno
end
end Go.Proofs.YthdiccdnggloiaaGreatDoor
namespace Go.Proofs.YthdiccdnggloiaaGreatDoor
open Go.RowKit Go.Sort Go.Shelf Go.Maps
def MadePost (w : World) (t : Sto) (a : StA) (mb : Nat) (e : Ending) (w' : World) : Prop := ∃ g c, e = .returned (.agg #[.int .i64 t.least, .int .i64 t.wait, .slice a.ta t.tiers.length a.tc, .slice a.fa t.files.length a.fc, .slice g t.copies.length c, .slice a.ha t.held.length a.hc, .slice a.ba t.bin.length a.bc, .map (some mb)]) ∧ OwnV w' w.heap.size 74 4 (.slice g t.copies.length c) t.copies.length (St.eC.flat t.copies) ∧ Below w.heap.size w w'
theorem made_drop (s : Sto) (a : StA) (mb : Nat) (m : Mov) (w : World) (hI : StIn w s a) (r : St.Right s) (hz : m.dig.size ≤ 1048576 ∧ m.frm.size ≤ 1048576 ∧ m.dst.size ≤ 1048576) (hk : m.kind = 2) :
  Calls Tryz.prog 125 #[.agg #[.int .i64 s.least, .int .i64 s.wait, .slice a.ta s.tiers.length a.tc, .slice a.fa s.files.length a.fc, .slice a.ca s.copies.length a.cc, .slice a.ha s.held.length a.hc, .slice a.ba s.bin.length a.bc, .map (some mb)], .agg #[.int .i64 m.kind, .string m.dig, .string m.frm, .string m.dst]] w (MadePost w (St.mvS s m) a mb) := by
 rw [hk]
 obtain ⟨W1, hW1, hP, hz1, hB1⟩ := box w #[.int .i64 s.least, .int .i64 s.wait, .slice a.ta s.tiers.length a.tc, .slice a.fa s.files.length a.fc, .slice a.ca s.copies.length a.cc, .slice a.ha s.held.length a.hc, .slice a.ba s.bin.length a.bc, .map (some mb)] 135
 obtain ⟨W2, hW2, hX, hz2, hB2⟩ := box W1 #[.int .i64 2, .string m.dig, .string m.frm, .string m.dst] 52
 obtain ⟨W3, hW3, hQ, hz3, hB3⟩ := box W2 #[.int .i64 0, .int .i64 0, .slice none 0 0, .slice none 0 0, .slice none 0 0, .slice none 0 0, .slice none 0 0, .map none] 135
 rw [hz1] at hX hz2
 rw [hz2] at hQ hz3
 have HW1 := Lib.hid hW1; have HW2 := Lib.hid hW2; have HW3 := Lib.hid hW3
 have hBB := below_up hB1 (below_up hB2 hB3)
 have HBB := Lib.hid hBB
 have hP := (hP.keep hB2).keep hB3
 have hX := hX.keep hB3
 have HP := Lib.hid hP; have HQ := Lib.hid hQ; have HX := Lib.hid hX
 have HI3 := Lib.hid (hI.keep hBB)
 have HZ3 : Hid (W3.heap.size = w.heap.size + 3) := Lib.hid (by omega)
 obtain ⟨_, y1, y2, y3, y4, y5⟩ := St.sizes_iff.1 r.sizes
 have hcz : ∀ x ∈ s.copies, x.dig.size ≤ 100 ∧ x.tier.size ≤ 100 := fun x hx => by have := St.cop_good r hx; omega
 have HCR := Lib.hid (fun V => copiesRow_is s a V)
 have HKF := Lib.hid (fun V => copyKey_big m.dig m.frm hz.1 hz.2.1 V)
 have HCL : Hid (∀ W, Below W3.heap.size W3 W → (W.cell? ⟨w.heap.size, 0, none⟩ = some (.int .i64 s.least) ∧ W.cell? ⟨w.heap.size, 1, none⟩ = some (.int .i64 s.wait) ∧ W.cell? ⟨w.heap.size, 2, none⟩ = some (.slice a.ta s.tiers.length a.tc) ∧ W.cell? ⟨w.heap.size, 3, none⟩ = some (.slice a.fa s.files.length a.fc) ∧ W.cell? ⟨w.heap.size, 4, none⟩ = some (.slice a.ca s.copies.length a.cc) ∧ W.cell? ⟨w.heap.size, 5, none⟩ = some (.slice a.ha s.held.length a.hc) ∧ W.cell? ⟨w.heap.size, 6, none⟩ = some (.slice a.ba s.bin.length a.bc) ∧ W.cell? ⟨w.heap.size, 7, none⟩ = some (.map (some mb))) ∧ W.cell? ⟨w.heap.size + 1, 0, none⟩ = some (.int .i64 2) ∧ W.cell? ⟨w.heap.size + 1, 1, none⟩ = some (.string m.dig) ∧ W.cell? ⟨w.heap.size + 1, 2, none⟩ = some (.string m.frm) ∧ W.cell? ⟨w.heap.size + 1, 3, none⟩ = some (.string m.dst)) := Lib.hid fun W hv => ⟨(hP.keep hv).eight, (hX.keep hv).four⟩
 clear hW1 hW2 hW3 hP hX hQ hz1 hz2 hz3 hB1 hB2 hB3 hBB
 have HWO := Lib.hid (fun V (hv : Below W3.heap.size W3 V) => woC_is s.copies (St.cop_up r) hcz (by omega) (St.key m.dig m.frm) a.ca a.cc V (HI3.out.keep hv).cl (HI3.out.keep hv).co)
 unfold ClnPost at HWO
 have HMS0 : St.mvS s m = { s with copies := St.wo St.ckey (St.key m.dig m.frm) s.copies } := by unfold St.mvS; rw [if_pos hk]
 generalize St.wo St.ckey (St.key m.dig m.frm) s.copies = CS at *
 have HMS := Lib.hid HMS0
 clear HMS0 hI r hz hk hcz y1 y2 y3 y4 y5
 go_enter Tryz.func125, Tryz.ntmps125
 go_upto_region 1 with fail
 rw [HW1.out, HW2.out, HW3.out]
 have hv : Below W3.heap.size W3 W3 := Below.refl _ _
 obtain ⟨⟨p0, p1, p2, p3, p4, p5, p6, p7⟩, m0, m1, m2, m3⟩ := HCL.out _ hv
 go_upto_region 4 with (first
  | (go_at_call 56; (with_reducible refine (HKF.out _).mono ?_); rintro e wb ⟨rfl, rfl⟩)
  | (go_at_call 54; (with_reducible refine (HCR.out _).mono ?_); rintro e wa ⟨rfl, hq⟩; have hv := below_up hv hq)
  | (go_at_call 186; (with_reducible refine (HWO.out _ hv).mono ?_); rintro e x8 ⟨g8, c8, rfl, ho8, hq⟩; have ho8 := ho8.down hv.size; have hv := below_up hv hq; obtain ⟨⟨p0, p1, p2, p3, p4, p5, p6, p7⟩, m0, m1, m2, m3⟩ := HCL.out _ hv; have qf := (HP.out.keep hv).free))
 have hlt := HZ3.out
 have hv8 := hv.size
 have hPy : Blk (x8.setCell ⟨w.heap.size, 4, none⟩ (.slice g8 CS.length c8)) w.heap.size #[.int .i64 s.least, .int .i64 s.wait, .slice a.ta s.tiers.length a.tc, .slice a.fa s.files.length a.fc, .slice g8 CS.length c8, .slice a.ha s.held.length a.hc, .slice a.ba s.bin.length a.bc, .map (some mb)] 135 := (HP.out.keep hv).set 4 (.slice g8 CS.length c8)
 have hQy := (HQ.out.keep hv).setOther (a := ⟨w.heap.size, 4, none⟩) (by simp <;> omega) (.slice g8 CS.length c8)
 have hBy := (below_up HBB.out hv).setCell (p := ⟨w.heap.size, 4, none⟩) (Nat.le_refl _) (.slice g8 CS.length c8)
 have hOy := ho8.next (i := 4) (b := w.heap.size) (u := .slice g8 CS.length c8) (Below.refl _ _) (by omega)
 obtain ⟨Y, hY⟩ : ∃ Y, x8.setCell ⟨w.heap.size, 4, none⟩ (.slice g8 CS.length c8) = Y := ⟨_, rfl⟩
 rw [hY] at hPy hQy hBy hOy ⊢
 have HOZ := Lib.hid ((hOy.setRow (b := w.heap.size + 2) (by omega) #[.int .i64 s.least, .int .i64 s.wait, .slice a.ta s.tiers.length a.tc, .slice a.fa s.files.length a.fc, .slice g8 CS.length c8, .slice a.ha s.held.length a.hc, .slice a.ba s.bin.length a.bc, .map (some mb)]).down (show w.heap.size ≤ W3.heap.size by omega))
 have HBZ := Lib.hid (below_setRow hBy (show w.heap.size ≤ w.heap.size + 2 by omega) #[.int .i64 s.least, .int .i64 s.wait, .slice a.ta s.tiers.length a.tc, .slice a.fa s.files.length a.fc, .slice g8 CS.length c8, .slice a.ha s.held.length a.hc, .slice a.ba s.bin.length a.bc, .map (some mb)])
 clear hY p0 p1 p2 p3 p4 p5 p6 p7 m0 m1 m2 m3 qf ho8 hv hq
 obtain ⟨n0, n1, n2, n3, n4, n5, n6, n7⟩ := hPy.eight
 clear hPy hBy hOy hlt hv8
 go_wp2_with (refine wpList_store_row rfl 135 _ _ rfl (w.heap.size + 2) #[.int .i64 s.least, .int .i64 s.wait, .slice a.ta s.tiers.length a.tc, .slice a.fa s.files.length a.fc, .slice g8 CS.length c8, .slice a.ha s.held.length a.hc, .slice a.ba s.bin.length a.bc, .map (some mb)] rfl rfl 135 _ hQy infoView rfl (by simp [Value.oneCell']) ?_)
 obtain ⟨g0, g1, g2, g3, g4, g5, g6, g7⟩ := (Blk.setRowAt hQy #[.int .i64 s.least, .int .i64 s.wait, .slice a.ta s.tiers.length a.tc, .slice a.fa s.files.length a.fc, .slice g8 CS.length c8, .slice a.ha s.held.length a.hc, .slice a.ba s.bin.length a.bc, .map (some mb)]).eight
 refine bodyPost_ret (v := .agg #[.int .i64 s.least, .int .i64 s.wait, .slice a.ta s.tiers.length a.tc, .slice a.fa s.files.length a.fc, .slice g8 CS.length c8, .slice a.ha s.held.length a.hc, .slice a.ba s.bin.length a.bc, .map (some mb)]) (by simp [results, Tryz.results125, go_sem, g0, g1, g2, g3, g4, g5, g6, g7]) rfl ?_
 rw [HMS.out]
 exact ⟨g8, c8, rfl, HOZ.out, HBZ.out⟩
theorem made_copy (s : Sto) (a : StA) (mb : Nat) (m : Mov) (w : World) (hI : StIn w s a) (r : St.Right s) (hz : m.dig.size ≤ 1048576 ∧ m.frm.size ≤ 1048576 ∧ m.dst.size ≤ 1048576) (hk : m.kind = 1) (hh : St.hasCopy s m.dig m.frm = true) (ht : St.hasTier s.tiers m.dst = true) :
  Calls Tryz.prog 125 #[.agg #[.int .i64 s.least, .int .i64 s.wait, .slice a.ta s.tiers.length a.tc, .slice a.fa s.files.length a.fc, .slice a.ca s.copies.length a.cc, .slice a.ha s.held.length a.hc, .slice a.ba s.bin.length a.bc, .map (some mb)], .agg #[.int .i64 m.kind, .string m.dig, .string m.frm, .string m.dst]] w (MadePost w (St.mvS s m) a mb) := by
 rw [hk]
 obtain ⟨W1, hW1, hP, hz1, hB1⟩ := box w #[.int .i64 s.least, .int .i64 s.wait, .slice a.ta s.tiers.length a.tc, .slice a.fa s.files.length a.fc, .slice a.ca s.copies.length a.cc, .slice a.ha s.held.length a.hc, .slice a.ba s.bin.length a.bc, .map (some mb)] 135
 obtain ⟨W2, hW2, hX, hz2, hB2⟩ := box W1 #[.int .i64 1, .string m.dig, .string m.frm, .string m.dst] 52
 obtain ⟨W3, hW3, hQ, hz3, hB3⟩ := box W2 #[.int .i64 0, .int .i64 0, .slice none 0 0, .slice none 0 0, .slice none 0 0, .slice none 0 0, .slice none 0 0, .map none] 135
 rw [hz1] at hX hz2
 rw [hz2] at hQ hz3
 have HW1 := Lib.hid hW1; have HW2 := Lib.hid hW2; have HW3 := Lib.hid hW3
 have hBB := below_up hB1 (below_up hB2 hB3)
 have HBB := Lib.hid hBB
 have hP := (hP.keep hB2).keep hB3
 have hX := hX.keep hB3
 have HP := Lib.hid hP; have HQ := Lib.hid hQ; have HX := Lib.hid hX
 have HI3 := Lib.hid (hI.keep hBB)
 have HZ3 : Hid (W3.heap.size = w.heap.size + 3) := Lib.hid (by omega)
 obtain ⟨_, y1, y2, y3, y4, y5⟩ := St.sizes_iff.1 r.sizes
 have hcz : ∀ x ∈ s.copies, x.dig.size ≤ 100 ∧ x.tier.size ≤ 100 := fun x hx => by have := St.cop_good r hx; omega
 have HCR := Lib.hid (fun V => copiesRow_is s a V)
 have HKF := Lib.hid (fun V => copyKey_big m.dig m.frm hz.1 hz.2.1 V)
 have HCL : Hid (∀ W, Below W3.heap.size W3 W → (W.cell? ⟨w.heap.size, 0, none⟩ = some (.int .i64 s.least) ∧ W.cell? ⟨w.heap.size, 1, none⟩ = some (.int .i64 s.wait) ∧ W.cell? ⟨w.heap.size, 2, none⟩ = some (.slice a.ta s.tiers.length a.tc) ∧ W.cell? ⟨w.heap.size, 3, none⟩ = some (.slice a.fa s.files.length a.fc) ∧ W.cell? ⟨w.heap.size, 4, none⟩ = some (.slice a.ca s.copies.length a.cc) ∧ W.cell? ⟨w.heap.size, 5, none⟩ = some (.slice a.ha s.held.length a.hc) ∧ W.cell? ⟨w.heap.size, 6, none⟩ = some (.slice a.ba s.bin.length a.bc) ∧ W.cell? ⟨w.heap.size, 7, none⟩ = some (.map (some mb))) ∧ W.cell? ⟨w.heap.size + 1, 0, none⟩ = some (.int .i64 1) ∧ W.cell? ⟨w.heap.size + 1, 1, none⟩ = some (.string m.dig) ∧ W.cell? ⟨w.heap.size + 1, 2, none⟩ = some (.string m.frm) ∧ W.cell? ⟨w.heap.size + 1, 3, none⟩ = some (.string m.dst)) := Lib.hid fun W hv => ⟨(hP.keep hv).eight, (hX.keep hv).four⟩
 clear hW1 hW2 hW3 hP hX hQ hz1 hz2 hz3 hB1 hB2 hB3 hBB
 obtain ⟨c, hcp, hcd, hct, _, hca⟩ := St.copy_pos r hh
 have hdz : m.dig.size ≤ 100 := by have := St.has16 r hh; omega
 have htz : m.dst.size ≤ 100 := by
  obtain ⟨t, htm, htn⟩ := St.hasTier_mem ht
  have := St.nm40 (St.tier_good r htm).1
  rw [htn] at this; omega
 have hhk : St.hasK St.ckey s.copies (St.key m.dig m.frm) = true := by rw [← St.hasCopy_any r]; exact hh
 have HPL := Lib.hid (fun V (hv : Below W3.heap.size W3 V) => placeC_is s.copies (St.cop_up r) hcz (by omega) (St.key m.dig m.frm) a.ca a.cc V (HI3.out.keep hv).cl (HI3.out.keep hv).co)
 rw [hhk] at HPL
 obtain ⟨ak, hak⟩ : ∃ ak, St.askedOf s m.dig m.frm 0 = ak := ⟨_, rfl⟩
 rw [hak] at hca
 have HWC := Lib.hid (fun V (hv : Below W3.heap.size W3 V) => withC_is s.copies (St.cop_up r) hcz (by omega) ⟨m.dig, m.dst, true, ak⟩ (show m.dig.size ≤ 100 ∧ m.dst.size ≤ 100 from ⟨hdz, htz⟩) a.ca a.cc V (HI3.out.keep hv).cl (HI3.out.keep hv).co)
 unfold ClnPost at HWC
 have HMS0 : St.mvS s m = { s with copies := St.wth St.ckey ⟨m.dig, m.dst, true, ak⟩ s.copies } := by unfold St.mvS; rw [if_neg (by omega), hak]
 obtain ⟨CS, hCS⟩ : ∃ CS, St.wth St.ckey ⟨m.dig, m.dst, true, ak⟩ s.copies = CS := ⟨_, rfl⟩
 rw [hCS] at HWC HMS0
 have HMS := Lib.hid HMS0
 generalize St.pos St.ckey (St.key m.dig m.frm) s.copies = p at *
 have hpl := (List.getElem?_eq_some_iff.1 hcp).1
 have hp0 : (0 : Int) ≤ (p : Int) := by omega
 have hp1 : (p : Int) < (s.copies.length : Int) := by omega
 obtain ⟨bb, off, ha, hb, hcell⟩ := HI3.out.co (by omega)
 have HA := Lib.hid ha
 have HCA : Hid (∀ W, Below W3.heap.size W3 W → (W.cell? ⟨w.heap.size, 0, none⟩ = some (.int .i64 s.least) ∧ W.cell? ⟨w.heap.size, 1, none⟩ = some (.int .i64 s.wait) ∧ W.cell? ⟨w.heap.size, 2, none⟩ = some (.slice a.ta s.tiers.length a.tc) ∧ W.cell? ⟨w.heap.size, 3, none⟩ = some (.slice a.fa s.files.length a.fc) ∧ W.cell? ⟨w.heap.size, 4, none⟩ = some (.slice (some ⟨bb, off, none⟩) s.copies.length a.cc) ∧ W.cell? ⟨w.heap.size, 5, none⟩ = some (.slice a.ha s.held.length a.hc) ∧ W.cell? ⟨w.heap.size, 6, none⟩ = some (.slice a.ba s.bin.length a.bc) ∧ W.cell? ⟨w.heap.size, 7, none⟩ = some (.map (some mb))) ∧ (W.cell? ⟨w.heap.size + 1, 0, none⟩ = some (.int .i64 1) ∧ W.cell? ⟨w.heap.size + 1, 1, none⟩ = some (.string m.dig) ∧ W.cell? ⟨w.heap.size + 1, 2, none⟩ = some (.string m.frm) ∧ W.cell? ⟨w.heap.size + 1, 3, none⟩ = some (.string m.dst)) ∧ W.cell? ⟨bb, off + p * 4 + 3, none⟩ = some (.int .i64 ak)) := Lib.hid fun W hv => by
  obtain ⟨h1, h2⟩ := HCL.out W hv
  rw [ha] at h1
  exact ⟨h1, h2, (hv.cell (p := ⟨bb, off + p * 4 + 3, none⟩) hb).trans (by rw [hca]; exact hcell p c hcp 3 (.int .i64 c.asked) rfl)⟩
 clear HMS0 hI r hz hk hcz y1 y2 y4 y5 hcp hcd hct hca hdz htz hhk hak hCS hh ht hb hcell ha
 go_enter Tryz.func125, Tryz.ntmps125
 go_upto_region 1 with fail
 rw [HW1.out, HW2.out, HW3.out]
 have hv : Below W3.heap.size W3 W3 := Below.refl _ _
 obtain ⟨⟨p0, p1, p2, p3, p4, p5, p6, p7⟩, m0, m1, m2, m3⟩ := HCL.out _ hv
 go_upto_region 6 with (first
  | (go_at_call 56; (with_reducible refine (HKF.out _).mono ?_); rintro e wb ⟨rfl, rfl⟩)
  | (go_at_call 54; (with_reducible refine (HCR.out _).mono ?_); rintro e wa ⟨rfl, hq⟩; have hv := below_up hv hq)
  | (go_at_call 55; (with_reducible refine (HPL.out _ hv).mono ?_); rintro e wc ⟨rfl, hq⟩; have hv := below_up hv hq; obtain ⟨⟨p0, p1, p2, p3, p4, p5, p6, p7⟩, m0, m1, m2, m3⟩ := HCL.out _ hv))
 have hv := hv.drew
 clear p0 p1 p2 p3 p4 p5 p6 p7 m0 m1 m2 m3
 have hHeld := HCA.out _ hv
 rw [HA.out] at HCR HWC
 refine wp_region_until (fun W => (W.cell? ⟨w.heap.size, 0, none⟩ = some (.int .i64 s.least) ∧ W.cell? ⟨w.heap.size, 1, none⟩ = some (.int .i64 s.wait) ∧ W.cell? ⟨w.heap.size, 2, none⟩ = some (.slice a.ta s.tiers.length a.tc) ∧ W.cell? ⟨w.heap.size, 3, none⟩ = some (.slice a.fa s.files.length a.fc) ∧ W.cell? ⟨w.heap.size, 4, none⟩ = some (.slice (some ⟨bb, off, none⟩) s.copies.length a.cc) ∧ W.cell? ⟨w.heap.size, 5, none⟩ = some (.slice a.ha s.held.length a.hc) ∧ W.cell? ⟨w.heap.size, 6, none⟩ = some (.slice a.ba s.bin.length a.bc) ∧ W.cell? ⟨w.heap.size, 7, none⟩ = some (.map (some mb))) ∧ (W.cell? ⟨w.heap.size + 1, 0, none⟩ = some (.int .i64 1) ∧ W.cell? ⟨w.heap.size + 1, 1, none⟩ = some (.string m.dig) ∧ W.cell? ⟨w.heap.size + 1, 2, none⟩ = some (.string m.frm) ∧ W.cell? ⟨w.heap.size + 1, 3, none⟩ = some (.string m.dst)) ∧ W.cell? ⟨bb, off + p * 4 + 3, none⟩ = some (.int .i64 ak)) 18 (by kernel_rfl) ?_
 refine anyM_take0 (i := 0) (v := ?_) rfl (by decide) (by kernel_rfl) (by kernel_rfl) (by kernel_rfl) (fun _ _ _ h => h) (Or.inl ⟨by rfl, ?_⟩) (fun _ => by assumption) ?_
 rotate_left
 ·(intro w hSw; go_simp; try (with_reducible rfl))
 try go_frame
 refine anyM_take (i := 1) (v := ?_) rfl rfl (by kernel_rfl) (by decide) (by kernel_rfl) (by kernel_rfl) (by kernel_rfl) (fun _ _ _ h => h) (Or.inl ⟨by rfl, ?_⟩) (by rfl) (by assumption) ?_
 rotate_left
 ·(intro w hSw; (try dsimp only at hSw); (try obtain ⟨⟨hs1, hs2, hs3, hs4, hs5, hs6, hs7, hs8⟩, ⟨hs9, hs10, hs11, hs12⟩, hs13⟩ := hSw); go_simp; try (with_reducible rfl))
 try go_frame
 refine anyM_take0 (i := 3) (v := ?_) rfl (by decide) (by kernel_rfl) (by kernel_rfl) (by kernel_rfl) (fun _ _ _ h => h) (Or.inl ⟨by rfl, ?_⟩) (fun _ => by assumption) ?_
 rotate_left
 ·(intro w hSw; go_simp; try (with_reducible rfl))
 try go_frame
 refine anyM_take (i := 4) (v := ?_) rfl rfl (by kernel_rfl) (by decide) (by kernel_rfl) (by kernel_rfl) (by kernel_rfl) (fun _ _ _ h => h) (Or.inl ⟨by rfl, ?_⟩) (by rfl) (by assumption) ?_
 rotate_left
 ·(intro w hSw; (try dsimp only at hSw); (try obtain ⟨⟨hs1, hs2, hs3, hs4, hs5, hs6, hs7, hs8⟩, ⟨hs9, hs10, hs11, hs12⟩, hs13⟩ := hSw); go_simp; try (with_reducible rfl))
 try go_frame
 refine anyM_take0 (i := 5) (v := ?_) rfl (by decide) (by kernel_rfl) (by kernel_rfl) (by kernel_rfl) (fun _ _ _ h => h) (Or.inl ⟨by rfl, ?_⟩) (fun _ => by assumption) ?_
 rotate_left
 ·(intro w hSw; go_simp; try (with_reducible rfl))
 try go_frame
 refine anyM_take (i := 6) (v := ?_) rfl rfl (by kernel_rfl) (by decide) (by kernel_rfl) (by kernel_rfl) (by kernel_rfl) (fun _ _ _ h => h) (Or.inl ⟨by rfl, ?_⟩) (by rfl) (by assumption) ?_
 rotate_left
 ·(intro w hSw; (try dsimp only at hSw); (try obtain ⟨⟨hs1, hs2, hs3, hs4, hs5, hs6, hs7, hs8⟩, ⟨hs9, hs10, hs11, hs12⟩, hs13⟩ := hSw); go_simp; try (with_reducible rfl))
 try go_frame
 refine anyM_take0 (i := 7) (v := ?_) rfl (by decide) (by kernel_rfl) (by kernel_rfl) (by kernel_rfl) (fun _ _ _ h => h) (Or.inl ⟨by rfl, ?_⟩) (fun _ => by assumption) ?_
 rotate_left
 ·(intro w hSw; go_simp; try (with_reducible rfl))
 try go_frame
 refine anyM_take0 (i := 8) (v := ?_) rfl (by decide) (by kernel_rfl) (by kernel_rfl) (by kernel_rfl) (fun _ _ _ h => h) (Or.inl ⟨by rfl, ?_⟩) (fun _ => by assumption) ?_
 rotate_left
 ·(intro w hSw; go_simp; try (with_reducible rfl))
 try go_frame
 refine anyM_take (i := 9) (v := ?_) rfl rfl (by kernel_rfl) (by decide) (by kernel_rfl) (by kernel_rfl) (by kernel_rfl) (fun _ _ _ h => h) (Or.inl ⟨by rfl, ?_⟩) (by rfl) (by assumption) ?_
 rotate_left
 ·(intro w hSw; (try dsimp only at hSw); (try obtain ⟨⟨hs1, hs2, hs3, hs4, hs5, hs6, hs7, hs8⟩, ⟨hs9, hs10, hs11, hs12⟩, hs13⟩ := hSw); go_simp; try (with_reducible rfl))
 try go_frame
 refine anyM_take0 (i := 10) (v := ?_) rfl (by decide) (by kernel_rfl) (by kernel_rfl) (by kernel_rfl) (fun _ _ _ h => h) (Or.inl ⟨by rfl, ?_⟩) (fun _ => by assumption) ?_
 rotate_left
 ·(intro w hSw; go_simp; try (with_reducible rfl))
 try go_frame
 refine anyM_take0 (i := 11) (v := ?_) rfl (by decide) (by kernel_rfl) (by kernel_rfl) (by kernel_rfl) (fun _ _ _ h => h) (Or.inl ⟨by rfl, ?_⟩) (fun _ => by assumption) ?_
 rotate_left
 ·(intro w hSw; go_simp; try (with_reducible rfl))
 try go_frame
 refine anyM_take0 (i := 12) (v := ?_) rfl (by decide) (by kernel_rfl) (by kernel_rfl) (by kernel_rfl) (fun _ _ _ h => h) (Or.inl ⟨by rfl, ?_⟩) (fun _ => by assumption) ?_
 rotate_left
 ·(intro w hSw; go_simp; try (with_reducible rfl))
 try go_frame
 refine anyM_take (i := 13) (v := ?_) rfl rfl (by kernel_rfl) (by decide) (by kernel_rfl) (by kernel_rfl) (by kernel_rfl) (fun _ _ _ h => h) (Or.inl ⟨by rfl, ?_⟩) (by rfl) (by assumption) ?_
 rotate_left
 ·(intro w hSw; (try dsimp only at hSw); (try obtain ⟨⟨hs1, hs2, hs3, hs4, hs5, hs6, hs7, hs8⟩, ⟨hs9, hs10, hs11, hs12⟩, hs13⟩ := hSw); go_simp; try (with_reducible rfl))
 try go_frame
 refine anyM_take0 (i := 14) (v := ?_) rfl (by decide) (by kernel_rfl) (by kernel_rfl) (by kernel_rfl) (fun _ _ _ h => h) (Or.inl ⟨by rfl, ?_⟩) (fun _ => by assumption) ?_
 rotate_left
 ·(intro w hSw; go_simp; try (with_reducible rfl))
 try go_frame
 refine anyM_ready (rs := [2]) (by kernel_rfl) (by simp) ?_
 refine ReadyM.cons rfl (fun K hK => ?_) ReadyM.nil
 go_simp
 refine (HCR.out _).mono ?_
 rintro e x7 ⟨rfl, hq⟩
 have hv := below_up hv hq
 have hHeld := HCA.out _ hv
 refine hK.out _ _ (fun _ => hHeld) ?_
 clear hK K
 try go_frame
 refine anyM_ready (rs := [15]) (by kernel_rfl) (by simp) ?_
 refine ReadyM.cons rfl (fun K hK => ?_) ReadyM.nil
 go_simp
 refine (HWC.out _ hv).mono ?_
 rintro e x8 ⟨g8, c8, rfl, ho8, hq⟩; have ho8 := ho8.down hv.size
 have hv := below_up hv hq
 have hHeld := HCA.out _ hv
 refine hK.out _ _ (fun _ => hHeld) ?_
 clear hK K
 try go_frame
 refine anyM_take0 (i := 16) (v := ?_) rfl (by decide) (by kernel_rfl) (by kernel_rfl) (by kernel_rfl) (fun _ _ _ h => h) (Or.inl ⟨by rfl, ?_⟩) (fun _ => by assumption) ?_
 rotate_left
 ·(intro w hSw; go_simp; try (with_reducible rfl))
 try go_frame
 refine anyM_take0 (i := 17) (v := ?_) rfl (by decide) (by kernel_rfl) (by kernel_rfl) (by kernel_rfl) (fun _ _ _ h => h) (Or.inl ⟨by rfl, ?_⟩) (fun _ => by assumption) ?_
 rotate_left
 ·(intro w hSw; go_simp; try (with_reducible rfl))
 try go_frame
 clear hHeld
 obtain ⟨⟨p0, p1, p2, p3, p4, p5, p6, p7⟩, m0, m1, m2, m3⟩ := HCL.out _ hv
 have qf := (HP.out.keep hv).free
 refine anyM_ready (rs := [18]) (by kernel_rfl) (by simp) ?_
 refine ReadyM.cons rfl (fun K hK => ?_) ReadyM.nil
 go_simp
 refine hK.out _ _ (fun h => absurd h (by simp)) ?_
 clear hK K
 try go_frame
 refine anyM_done (by kernel_rfl) ?_ _
 have hlt := HZ3.out
 have hv8 := hv.size
 have hPy : Blk (x8.setCell ⟨w.heap.size, 4, none⟩ (.slice g8 CS.length c8)) w.heap.size #[.int .i64 s.least, .int .i64 s.wait, .slice a.ta s.tiers.length a.tc, .slice a.fa s.files.length a.fc, .slice g8 CS.length c8, .slice a.ha s.held.length a.hc, .slice a.ba s.bin.length a.bc, .map (some mb)] 135 := (HP.out.keep hv).set 4 (.slice g8 CS.length c8)
 have hQy := (HQ.out.keep hv).setOther (a := ⟨w.heap.size, 4, none⟩) (by simp <;> omega) (.slice g8 CS.length c8)
 have hBy := (below_up HBB.out hv).setCell (p := ⟨w.heap.size, 4, none⟩) (Nat.le_refl _) (.slice g8 CS.length c8)
 have hOy := ho8.next (i := 4) (b := w.heap.size) (u := .slice g8 CS.length c8) (Below.refl _ _) (by omega)
 obtain ⟨Y, hY⟩ : ∃ Y, x8.setCell ⟨w.heap.size, 4, none⟩ (.slice g8 CS.length c8) = Y := ⟨_, rfl⟩
 rw [hY] at hPy hQy hBy hOy ⊢
 have HOZ := Lib.hid ((hOy.setRow (b := w.heap.size + 2) (by omega) #[.int .i64 s.least, .int .i64 s.wait, .slice a.ta s.tiers.length a.tc, .slice a.fa s.files.length a.fc, .slice g8 CS.length c8, .slice a.ha s.held.length a.hc, .slice a.ba s.bin.length a.bc, .map (some mb)]).down (show w.heap.size ≤ W3.heap.size by omega))
 have HBZ := Lib.hid (below_setRow hBy (show w.heap.size ≤ w.heap.size + 2 by omega) #[.int .i64 s.least, .int .i64 s.wait, .slice a.ta s.tiers.length a.tc, .slice a.fa s.files.length a.fc, .slice g8 CS.length c8, .slice a.ha s.held.length a.hc, .slice a.ba s.bin.length a.bc, .map (some mb)])
 clear hY p0 p1 p2 p3 p4 p5 p6 p7 m0 m1 m2 m3 qf ho8 hv hq
 obtain ⟨n0, n1, n2, n3, n4, n5, n6, n7⟩ := hPy.eight
 clear hPy hBy hOy hlt hv8
 go_wp2_with (refine wpList_store_row rfl 135 _ _ rfl (w.heap.size + 2) #[.int .i64 s.least, .int .i64 s.wait, .slice a.ta s.tiers.length a.tc, .slice a.fa s.files.length a.fc, .slice g8 CS.length c8, .slice a.ha s.held.length a.hc, .slice a.ba s.bin.length a.bc, .map (some mb)] rfl rfl 135 _ hQy infoView rfl (by simp [Value.oneCell']) ?_)
 obtain ⟨g0, g1, g2, g3, g4, g5, g6, g7⟩ := (Blk.setRowAt hQy #[.int .i64 s.least, .int .i64 s.wait, .slice a.ta s.tiers.length a.tc, .slice a.fa s.files.length a.fc, .slice g8 CS.length c8, .slice a.ha s.held.length a.hc, .slice a.ba s.bin.length a.bc, .map (some mb)]).eight
 refine bodyPost_ret (v := .agg #[.int .i64 s.least, .int .i64 s.wait, .slice a.ta s.tiers.length a.tc, .slice a.fa s.files.length a.fc, .slice g8 CS.length c8, .slice a.ha s.held.length a.hc, .slice a.ba s.bin.length a.bc, .map (some mb)]) (by simp [results, Tryz.results125, go_sem, g0, g1, g2, g3, g4, g5, g6, g7]) rfl ?_
 rw [HMS.out]
 exact ⟨g8, c8, rfl, HOZ.out, HBZ.out⟩
namespace St
theorem mvS_eq (s : Sto) (m : Mov) : ∃ CS, mvS s m = { s with copies := CS } := by
 unfold mvS
 split
 ·exact ⟨_, rfl⟩
 ·exact ⟨_, rfl⟩
theorem frm_size {s : Sto} (r : Right s) {f : Fil} (hf : f ∈ s.files) : f.frm.size ≤ 16 := by
 by_cases hk : f.kind = 1
 ·have h := (r.dig f hf).2
  unfold fileR at h
  split at h
  ·split at h
   ·split at h
    ·cases h
    ·rename_i h3
     have h4 : f.frm.toList.isEmpty = true := by
      cases e : f.frm.toList.isEmpty with
      | true => rfl
      | false => exact absurd ⟨hk, e⟩ h3
     have h5 : f.frm.toList = [] := List.isEmpty_iff.1 h4
     have h6 := size_len f.frm
     rw [h5] at h6
     simp at h6
     omega
   ·cases h
  ·cases h
 ·have := dsz r (r.frm f hf hk)
  omega
end St
theorem StSz.right {s : Sto} (r : St.Right s) : StSz s :=
 ⟨fun t ht => by have := St.nm40 (St.tier_good r ht).1; omega, fun f hf => ⟨by have := St.dig16 (r.dig f hf).1; omega, by have := St.frm_size r hf; omega⟩, fun c hc => by have := St.cop_good r hc; omega, fun d hd => by have := St.dsz r (r.held d hd); omega, fun g hg => by have := St.dsz r (r.bin g hg).1; omega⟩
theorem OwnV.setRowFar {w : World} {B k n q : Nat} {e t : TypeId} {v : Value} {xs : List Value} {c : Array Value} (h : OwnV w B e k v n xs) (hb : Blk w q c t) (hne : e ≠ t) (cs : Array Value) : OwnV (w.setRow q cs) B e k v n xs := by
 rcases h with h | ⟨g0, cap, h, hc⟩
 ·exact .inl h
 ·refine .inr ⟨g0, cap, h, hc.of_block (setRow_other w q g0 cs ?_)⟩
  obtain ⟨cur0, _, h0, _⟩ := hc
  rintro rfl
  have hb' : w.heap[g0]? = some (.cells c t (0, 0)) := hb
  rw [hb'] at h0
  cases h0
  exact hne rfl
theorem StOwn.setRowFar {w : World} {B q : Nat} {s : Sto} {a : StA} {c : Array Value} (h : StOwn w B s a) (hb : Blk w q c 135) (cs : Array Value) : StOwn (w.setRow q cs) B s a :=
 ⟨h.ti.setRowFar hb (by decide) cs, h.fi.setRowFar hb (by decide) cs, h.co.setRowFar hb (by decide) cs, h.he.setRowFar hb (by decide) cs, h.bi.setRowFar hb (by decide) cs⟩
theorem FMap.row {w : World} {b q : Nat} {L : List Fil} (h : FMap w b L) (hq : b ≠ q) (cs : Array Value) : FMap (w.setRow q cs) b L :=
 h.kept (row := some q) ⟨rfl, rfl, rfl, by simp, fun j hj hne => setRow_other w q j cs (by intro e; exact hne (by rw [e]))⟩ (by intro e; exact hq (Option.some.inj e))
theorem made_is (s : Sto) (a : StA) (mb : Nat) (m : Mov) (w : World) (hI : StIn w s a) (r : St.Right s) (hz : m.dig.size ≤ 1048576 ∧ m.frm.size ≤ 1048576 ∧ m.dst.size ≤ 1048576) (hq : St.mvE s m = 0) :
  Calls Tryz.prog 125 #[.agg #[.int .i64 s.least, .int .i64 s.wait, .slice a.ta s.tiers.length a.tc, .slice a.fa s.files.length a.fc, .slice a.ca s.copies.length a.cc, .slice a.ha s.held.length a.hc, .slice a.ba s.bin.length a.bc, .map (some mb)], .agg #[.int .i64 m.kind, .string m.dig, .string m.frm, .string m.dst]] w (MadePost w (St.mvS s m) a mb) := by
 obtain ⟨h1, _, h | h⟩ := St.mv_ways r hq
 ·exact made_drop s a mb m w hI r hz h.1
 ·exact made_copy s a mb m w hI r hz h.1 h1 h.2.2.1
def DoPost (w : World) (R : Sto × Nat × Int) (e : Ending) (w' : World) : Prop :=
 (R.2.2 ≠ 0 ∧ e = .returned (.tuple #[.agg #[.int .i64 0, .int .i64 0, .slice none 0 0, .slice none 0 0, .slice none 0 0, .slice none 0 0, .slice none 0 0], .int .i64 R.2.1, .int .i64 R.2.2]) ∧ Below w.heap.size w w') ∨
 (R.2.2 = 0 ∧ ∃ a' : StA, e = .returned (.tuple #[.agg #[.int .i64 R.1.least, .int .i64 R.1.wait, .slice a'.ta R.1.tiers.length a'.tc, .slice a'.fa R.1.files.length a'.fc, .slice a'.ca R.1.copies.length a'.cc, .slice a'.ha R.1.held.length a'.hc, .slice a'.ba R.1.bin.length a'.bc], .int .i64 0, .int .i64 0]) ∧ StIn w' R.1 a' ∧ Below w.heap.size w w')
structure DoInv (w : World) (B vb mb : Nat) (F : List Fil) (L : List Mov) (R : Sto × Nat × Int) (j : Nat) (t : Sto) (b : StA) (W : World) : Prop where
 r : St.Right t
 fl : t.files = F
 go : St.doL t (L.drop j) j = R
 vw : Blk W vb #[.int .i64 t.least, .int .i64 t.wait, .slice b.ta t.tiers.length b.tc, .slice b.fa t.files.length b.fc, .slice b.ca t.copies.length b.cc, .slice b.ha t.held.length b.hc, .slice b.ba t.bin.length b.bc, .map (some mb)] 135
 ow : StOwn W B t b
 fm : FMap W mb F
 rs : Blk W (w.heap.size + 1) #[.int .i64 0, .int .i64 0, .slice none 0 0, .slice none 0 0, .slice none 0 0, .slice none 0 0, .slice none 0 0] 28
 bl : Below w.heap.size w W
 sz : vb < W.heap.size
theorem doS_wrong (s : Sto) (a : StA) (la : Option Addr) (n lc : Nat) (w : World) (hI : StIn w s a) (he : St.err s ≠ 0) :
  Calls Tryz.prog 45 #[.agg #[.int .i64 s.least, .int .i64 s.wait, .slice a.ta s.tiers.length a.tc, .slice a.fa s.files.length a.fc, .slice a.ca s.copies.length a.cc, .slice a.ha s.held.length a.hc, .slice a.ba s.bin.length a.bc], .slice la n lc] w fun e w' => e = .returned (.tuple #[.agg #[.int .i64 0, .int .i64 0, .slice none 0 0, .slice none 0 0, .slice none 0 0, .slice none 0 0, .slice none 0 0], .int .i64 0, .int .i64 (St.err s)]) ∧ Below w.heap.size w w' := by
 obtain ⟨W1, hW1, hP, hz1, hB1⟩ := box w #[.int .i64 s.least, .int .i64 s.wait, .slice a.ta s.tiers.length a.tc, .slice a.fa s.files.length a.fc, .slice a.ca s.copies.length a.cc, .slice a.ha s.held.length a.hc, .slice a.ba s.bin.length a.bc] 28
 obtain ⟨W2, hW2, hQ, hz2, hB2⟩ := box W1 #[.int .i64 0, .int .i64 0, .slice none 0 0, .slice none 0 0, .slice none 0 0, .slice none 0 0, .slice none 0 0] 28
 rw [hz1] at hQ hz2
 have hP := hP.keep hB2
 have hBB := below_up hB1 hB2
 have HW1 := Lib.hid hW1; have HW2 := Lib.hid hW2; have HP := Lib.hid hP; have HQ := Lib.hid hQ; have HBB := Lib.hid hBB; have HZ2 := Lib.hid hz2
 have HI2 := Lib.hid (hI.keep hBB)
 obtain ⟨q0, q1, q2, q3, q4, q5, q6⟩ := hP.seven
 have HCK := Lib.hid (fun V (hv : Below W2.heap.size W2 V) => check_is s a V (HI2.out.keep hv))
 have HSZ := Lib.hid hI.sz
 clear hW1 hW2 hP hQ hz1 hz2 hB1 hB2 hBB
 have hv : Below W2.heap.size W2 W2 := Below.refl _ _
 have hq1 : (St.err s != 0) = true := by simpa using he
 generalize St.err s = q at *
 clear he
 go_enter Tryz.func45, Tryz.ntmps45
 go_upto_region 1 with fail
 rw [HW1.out, HW2.out]
 go_upto_region 3 with (go_at_call 32; (with_reducible refine (HCK.out _ hv).mono ?_); rintro e w3 ⟨rfl, hq⟩; have hv := below_up hv hq)
 have hQ3 := HQ.out.keep hv
 have hB03 := below_up HBB.out hv
 clear q0 q1 q2 q3 q4 q5 q6
 go_wp2_with (refine wpList_store_row rfl 28 _ _ rfl (w.heap.size + 1) #[.int .i64 0, .int .i64 0, .slice none 0 0, .slice none 0 0, .slice none 0 0, .slice none 0 0, .slice none 0 0] rfl rfl 28 _ hQ3 infoSto rfl (by simp [Value.oneCell']) ?_)
 obtain ⟨g0, g1, g2, g3, g4, g5, g6⟩ := (Blk.setRowAt (hQ3) #[.int .i64 0, .int .i64 0, .slice none 0 0, .slice none 0 0, .slice none 0 0, .slice none 0 0, .slice none 0 0]).seven
 refine bodyPost_ret (v := .tuple #[.agg #[.int .i64 0, .int .i64 0, .slice none 0 0, .slice none 0 0, .slice none 0 0, .slice none 0 0, .slice none 0 0], .int .i64 (0), .int .i64 (q)]) (by simp [results, Tryz.results45, go_sem, g0, g1, g2, g3, g4, g5, g6]) rfl ?_
 exact ⟨rfl, below_setRow hB03 (by omega) _⟩
theorem doS_right (s : Sto) (a : StA) (L : List Mov) (la : Option Addr) (lc : Nat) (w : World) (hI : StIn w s a) (r : St.Right s) (hL : RowE St.eM w la L) (hlc : L.length ≤ lc ∧ lc ≤ 9223372036854775807) (hz : ∀ m ∈ L, m.dig.size ≤ 1048576 ∧ m.frm.size ≤ 1048576 ∧ m.dst.size ≤ 1048576) :
  Calls Tryz.prog 45 #[.agg #[.int .i64 s.least, .int .i64 s.wait, .slice a.ta s.tiers.length a.tc, .slice a.fa s.files.length a.fc, .slice a.ca s.copies.length a.cc, .slice a.ha s.held.length a.hc, .slice a.ba s.bin.length a.bc], .slice la L.length lc] w (DoPost w (St.doL s L 0)) := by
 obtain ⟨_, y1, y2, y3, y4, y5⟩ := St.sizes_iff.1 r.sizes
 obtain ⟨W1, hW1, hP, hz1, hB1⟩ := box w #[.int .i64 s.least, .int .i64 s.wait, .slice a.ta s.tiers.length a.tc, .slice a.fa s.files.length a.fc, .slice a.ca s.copies.length a.cc, .slice a.ha s.held.length a.hc, .slice a.ba s.bin.length a.bc] 28
 obtain ⟨W2, hW2, hQ, hz2, hB2⟩ := box W1 #[.int .i64 0, .int .i64 0, .slice none 0 0, .slice none 0 0, .slice none 0 0, .slice none 0 0, .slice none 0 0] 28
 rw [hz1] at hQ hz2
 have hP := hP.keep hB2
 have hBB := below_up hB1 hB2
 have HW1 := Lib.hid hW1; have HW2 := Lib.hid hW2; have HP := Lib.hid hP; have HQ := Lib.hid hQ; have HBB := Lib.hid hBB; have HZ2 := Lib.hid hz2
 have HI2 := Lib.hid (hI.keep hBB)
 obtain ⟨q0, q1, q2, q3, q4, q5, q6⟩ := hP.seven
 have HCK := Lib.hid (fun V (hv : Below W2.heap.size W2 V) => check_is s a V (HI2.out.keep hv))
 have HSZ := Lib.hid hI.sz
 clear hW1 hW2 hP hQ hz1 hz2 hB1 hB2 hBB
 have hv : Below W2.heap.size W2 W2 := Below.refl _ _
 rw [St.err_iff.2 r] at HCK
 have HCP := Lib.hid (fun V (hv : Below W2.heap.size W2 V) => copyStore_is s a V (HI2.out.keep hv) ⟨y1, y2, y3, y4, y5⟩)
 unfold CpyPost at HCP
 have HLK := Lib.hid (fun V (b : StA) (hb : StIn V s b) => look_is s b V hb (by omega))
 have HLR := Lib.hid (fun V (hv : Below w.heap.size w V) => hL.keep hv)
 have HZM := Lib.hid hz
 obtain ⟨n, hn⟩ : ∃ n, L.length = n := ⟨_, rfl⟩
 have HN := Lib.hid hn
 rw [hn] at hlc ⊢
 obtain ⟨R, hR⟩ : ∃ R, St.doL s L 0 = R := ⟨_, rfl⟩
 have HR0 := Lib.hid hR
 rw [hR]
 have HRI := Lib.hid r
 clear hI r hL hz hn hR y1 y2 y3 y4 y5
 go_enter Tryz.func45, Tryz.ntmps45
 go_upto_region 1 with fail
 rw [HW1.out, HW2.out]
 go_upto_region 5 with (first
  | (go_at_call 32; (with_reducible refine (HCK.out _ hv).mono ?_); rintro e w3 ⟨rfl, hq⟩; have hv := below_up hv hq; obtain ⟨q0, q1, q2, q3, q4, q5, q6⟩ := (HP.out.keep hv).seven)
  | (go_at_call 51; (with_reducible refine (HCP.out _ hv).mono ?_); rintro e w4 ⟨b, rfl, hOwn, hB4⟩)
  | (go_at_call 93; (with_reducible refine (HLK.out _ b (hOwn.in_ HSZ.out)).mono ?_); rintro e w5 ⟨mb, rfl, hmb, hM, hB5⟩))
 have hO5 := (hOwn.keep hB5).down hv.size
 have hv5 := below_up (below_up hv hB4) hB5
 obtain ⟨W6, hW6, hX6, hz6, hB6⟩ := box w5 #[.int .i64 s.least, .int .i64 s.wait, .slice b.ta s.tiers.length b.tc, .slice b.fa s.files.length b.fc, .slice b.ca s.copies.length b.cc, .slice b.ha s.held.length b.hc, .slice b.ba s.bin.length b.bc, .map (some mb)] 135
 rw [hW6]
 have hlt : w.heap.size + 2 ≤ W2.heap.size := by have := HZ2.out; omega
 have hlv := hv5.size
 have hmv := hM.lt
 have HIV : Hid (DoInv w W2.heap.size w5.heap.size mb s.files L R 0 s b W6) := Lib.hid ⟨HRI.out, rfl, by rw [List.drop_zero]; exact HR0.out, hX6, hO5.keep hB6, hM.keep hB6, (HQ.out.keep hv5).keep hB6, below_up HBB.out (below_up hv5 hB6), by omega⟩
 have HMV : Hid (mb ≠ w5.heap.size) := Lib.hid (by omega)
 have HVB : Hid (w.heap.size + 1 < w5.heap.size) := Lib.hid (by omega)
 have HWB : Hid (w.heap.size + 1 < W2.heap.size ∧ W2.heap.size ≤ w5.heap.size) := Lib.hid (by omega)
 generalize w5.heap.size = vb at *
 generalize s.files = F at *
 clear hOwn hB4 hB5 hO5 hv5 hv hM hmb hW6 hX6 hz6 hB6 hlt hlv hmv q0 q1 q2 q3 q4 q5 q6 HCK HCP HLK HP HQ HI2
 go_upto_region 6 with fail
 go_loopg [23] n (fun gk i wr => ∃ j : Nat, ∃ t : Sto, ∃ c : StA, j ≤ n ∧ gk = n - j ∧ i = .int .i64 j ∧ DoInv w W2.heap.size vb mb F L R j t c wr)
 case atStart => exact ⟨0, s, b, by omega, rfl, rfl, HIV.out⟩
 case round =>
  obtain ⟨j, t, c, hj, rfl, rfl, hD⟩ := hrel
  clear HIV
  by_cases hjn : j < n
  ·obtain ⟨m, hm⟩ : ∃ m, L[j]? = some m := ⟨_, List.getElem?_eq_getElem (by rw [HN.out]; exact hjn)⟩
   obtain ⟨bb, off, ha, hb, hcell⟩ := (HLR.out _ hD.bl) (by rw [HN.out]; omega)
   have c0 : wr.cell? ⟨bb, off + j * 4, none⟩ = some (.int .i64 m.kind) := hcell j m hm 0 (.int .i64 m.kind) rfl
   have c1 : wr.cell? ⟨bb, off + j * 4 + 1, none⟩ = some (.string m.dig) := hcell j m hm 1 (.string m.dig) rfl
   have c2 : wr.cell? ⟨bb, off + j * 4 + 2, none⟩ = some (.string m.frm) := hcell j m hm 2 (.string m.frm) rfl
   have c3 : wr.cell? ⟨bb, off + j * 4 + 3, none⟩ = some (.string m.dst) := hcell j m hm 3 (.string m.dst) rfl
   have hmz := HZM.out m (List.mem_of_getElem? hm)
   have hdr : L.drop j = m :: L.drop (j + 1) := by
    obtain ⟨h1, h2⟩ := List.getElem?_eq_some_iff.1 hm
    rw [List.drop_eq_getElem_cons h1, h2]
   have hgo := hD.go
   rw [hdr, St.doL] at hgo
   obtain ⟨W7, hW7, hX7, hz7, hB7⟩ := box wr #[.int .i64 m.kind, .string m.dig, .string m.frm, .string m.dst] 52
   have HD := Lib.hid hD
   have hvw := hD.vw.keep hB7
   have hst := (hD.ow.keep hB7).in_ (StSz.right hD.r)
   have HCM := Lib.hid (checkMove_is t c mb m W7 hst (by rw [hD.fl]; exact hD.fm.keep hB7) hD.r hmz)
   have HMD := Lib.hid (fun V (hI : StIn V t c) (hq : St.mvE t m = 0) => made_is t c mb m V hI hD.r hmz hq)
   unfold MadePost at HMD
   have HRV := Lib.hid hD.r
   obtain ⟨CS, hCS⟩ := St.mvS_eq t m
   have hj0 : (0 : Int) ≤ (j : Int) := by omega
   have hj1 : (j : Int) < (n : Int) := by omega
   obtain ⟨p0, p1, p2, p3, p4, p5, p6, p7⟩ := hvw.eight
   obtain ⟨m0, m1, m2, m3⟩ := hX7.four
   have HX7 := Lib.hid hX7; have HVW := Lib.hid hvw; have HB7 := Lib.hid hB7; have HGO := Lib.hid hgo; have HCS := Lib.hid hCS; have HW7 := Lib.hid hW7
   clear hD hm hcell hb hmz hdr hgo hvw hst hX7 hz7 hB7 hCS hW7
   rw [ha]
   go_upto_region 8 with fail
   rw [HW7.out]
   clear c0 c1 c2 c3
   by_cases hq0 : St.mvE t m = 0
   ·have HQ0 := Lib.hid hq0
    rw [hq0] at HCM
    go_upto_region 11 with (go_at_call 124; (with_reducible refine HCM.out.mono ?_); rintro e w8 ⟨rfl, hq⟩; obtain ⟨p0, p1, p2, p3, p4, p5, p6, p7⟩ := (HVW.out.keep hq).eight; obtain ⟨m0, m1, m2, m3⟩ := (HX7.out.keep hq).four)
    have hB8 := below_up HB7.out hq
    have HB8 := Lib.hid hB8
    have hI8 := (HD.out.ow.keep hB8).in_ (StSz.right HRV.out)
    have HM8 := Lib.hid (HMD.out _ hI8 HQ0.out)
    rw [HCS.out] at HM8
    have HV8 := Lib.hid (HVW.out.keep hq)
    clear hB8 hI8 hq hq0
    go_upto_region 12 with (first
     | (go_at_call 125; (with_reducible refine HM8.out.mono ?_); rintro e w9 ⟨g, cc, rfl, hog, hq⟩)
     | (refine wpList_store_row rfl 135 _ _ rfl vb #[.int .i64 t.least, .int .i64 t.wait, .slice c.ta t.tiers.length c.tc, .slice c.fa t.files.length c.fc, .slice g CS.length cc, .slice c.ha t.held.length c.hc, .slice c.ba t.bin.length c.bc, .map (some mb)] rfl rfl 135 _ (HV8.out.keep hq) infoView rfl (by simp [Value.oneCell']) ?_))
    have hb9 := below_up HB8.out hq
    have hvw9 := HV8.out.keep hq
    have hz9 := hb9.size
    have hszv := HD.out.sz
    have hn9 : DoInv w W2.heap.size vb mb F L R (j + 1) { t with copies := CS } ⟨c.ta, c.tc, c.fa, c.fc, g, cc, c.ha, c.hc, c.ba, c.bc⟩ (w9.setRow vb #[.int .i64 t.least, .int .i64 t.wait, .slice c.ta t.tiers.length c.tc, .slice c.fa t.files.length c.fc, .slice g CS.length cc, .slice c.ha t.held.length c.hc, .slice c.ba t.bin.length c.bc, .map (some mb)]) := by
     have ho := HD.out.ow.keep hb9
     have ho2 : StOwn w9 W2.heap.size { t with copies := CS } ⟨c.ta, c.tc, c.fa, c.fc, g, cc, c.ha, c.hc, c.ba, c.bc⟩ := ⟨ho.ti, ho.fi, hog.down (by have := HB8.out.size; have := HD.out.sz; have := HWB.out; omega), ho.he, ho.bi⟩
     refine ⟨by rw [← HCS.out]; exact St.right_mv HRV.out HQ0.out, HD.out.fl, ?_, Blk.setRowAt hvw9 _, ho2.setRowFar hvw9 _, (HD.out.fm.keep hb9).row HMV.out _, ((HD.out.rs.keep hb9).setRowOther (by have := HVB.out; omega) _), below_setRow (below_up HD.out.bl hb9) (by have := HVB.out; omega) _, by simp; omega⟩
     have := HGO.out
     rw [if_pos HQ0.out, HCS.out] at this
     exact this
    have HN9 := Lib.hid hn9
    obtain ⟨V, hV⟩ : ∃ V, w9.setRow vb #[.int .i64 t.least, .int .i64 t.wait, .slice c.ta t.tiers.length c.tc, .slice c.fa t.files.length c.fc, .slice g CS.length cc, .slice c.ha t.held.length c.hc, .slice c.ba t.bin.length c.bc, .map (some mb)] = V := ⟨_, rfl⟩
    rw [hV] at HN9 ⊢
    clear hV hn9 hb9 hvw9 hz9 hszv hog hq p0 p1 p2 p3 p4 p5 p6 p7 m0 m1 m2 m3
    go_wp2_with fail
    rw [← ha]
    go_roundg (n - (j + 1))
    case rel => exact ⟨j + 1, _, _, by omega, rfl, by go_num, HN9.out⟩
    case measure => omega
   ·have hq1 : (St.mvE t m != 0) = true := by simpa using hq0
    have HRE : Hid (R = (⟨0, 0, [], [], [], [], []⟩, j, St.mvE t m)) := Lib.hid (by rw [← HGO.out, if_neg hq0])
    have HQN := Lib.hid hq0
    generalize St.mvE t m = q at *
    clear hq0 HGO
    go_upto_region 10 with (go_at_call 124; (with_reducible refine HCM.out.mono ?_); rintro e w8 ⟨rfl, hq⟩)
    have hb8 := below_up HB7.out hq
    have hQ3 := HD.out.rs.keep hb8
    have hB03 := below_up HD.out.bl hb8
    clear p0 p1 p2 p3 p4 p5 p6 p7 m0 m1 m2 m3 hb8 hq
    go_wp2_with (refine wpList_store_row rfl 28 _ _ rfl (w.heap.size + 1) #[.int .i64 0, .int .i64 0, .slice none 0 0, .slice none 0 0, .slice none 0 0, .slice none 0 0, .slice none 0 0] rfl rfl 28 _ hQ3 infoSto rfl (by simp [Value.oneCell']) ?_)
    obtain ⟨g0, g1, g2, g3, g4, g5, g6⟩ := (Blk.setRowAt (hQ3) #[.int .i64 0, .int .i64 0, .slice none 0 0, .slice none 0 0, .slice none 0 0, .slice none 0 0, .slice none 0 0]).seven
    refine bodyPost_ret (v := .tuple #[.agg #[.int .i64 0, .int .i64 0, .slice none 0 0, .slice none 0 0, .slice none 0 0, .slice none 0 0, .slice none 0 0], .int .i64 (j), .int .i64 (q)]) (by simp [results, Tryz.results45, go_sem, g0, g1, g2, g3, g4, g5, g6]) rfl ?_
    rw [HRE.out]
    exact .inl ⟨HQN.out, rfl, below_setRow hB03 (by omega) _⟩
  ·obtain rfl : j = n := by omega
   have hgo := hD.go
   rw [List.drop_eq_nil_of_le (by rw [HN.out]; omega), St.doL] at hgo
   have HRE : Hid (R = (t, 0, 0)) := Lib.hid hgo.symm
   obtain ⟨p0, p1, p2, p3, p4, p5, p6, p7⟩ := hD.vw.eight
   have hQ3 := hD.rs
   have hB03 := hD.bl
   have hsz := StSz.right hD.r
   have HIZ : Hid (StIn (wr.setRow (w.heap.size + 1) #[.int .i64 t.least, .int .i64 t.wait, .slice c.ta t.tiers.length c.tc, .slice c.fa t.files.length c.fc, .slice c.ca t.copies.length c.cc, .slice c.ha t.held.length c.hc, .slice c.ba t.bin.length c.bc]) t c) := Lib.hid ((hD.ow.setRow (b := w.heap.size + 1) (by have := HWB.out; omega) #[.int .i64 t.least, .int .i64 t.wait, .slice c.ta t.tiers.length c.tc, .slice c.fa t.files.length c.fc, .slice c.ca t.copies.length c.cc, .slice c.ha t.held.length c.hc, .slice c.ba t.bin.length c.bc]).in_ hsz)
   have HBZ := Lib.hid (below_setRow hB03 (show w.heap.size ≤ w.heap.size + 1 by omega) #[.int .i64 t.least, .int .i64 t.wait, .slice c.ta t.tiers.length c.tc, .slice c.fa t.files.length c.fc, .slice c.ca t.copies.length c.cc, .slice c.ha t.held.length c.hc, .slice c.ba t.bin.length c.bc])
   clear hD hgo hsz hB03
   go_wp2_with (refine wpList_store_row rfl 28 _ _ rfl (w.heap.size + 1) #[.int .i64 t.least, .int .i64 t.wait, .slice c.ta t.tiers.length c.tc, .slice c.fa t.files.length c.fc, .slice c.ca t.copies.length c.cc, .slice c.ha t.held.length c.hc, .slice c.ba t.bin.length c.bc] rfl rfl 28 _ hQ3 infoSto rfl (by simp [Value.oneCell']) ?_)
   obtain ⟨g0, g1, g2, g3, g4, g5, g6⟩ := (Blk.setRowAt (hQ3) #[.int .i64 t.least, .int .i64 t.wait, .slice c.ta t.tiers.length c.tc, .slice c.fa t.files.length c.fc, .slice c.ca t.copies.length c.cc, .slice c.ha t.held.length c.hc, .slice c.ba t.bin.length c.bc]).seven
   refine bodyPost_ret (v := .tuple #[.agg #[.int .i64 t.least, .int .i64 t.wait, .slice c.ta t.tiers.length c.tc, .slice c.fa t.files.length c.fc, .slice c.ca t.copies.length c.cc, .slice c.ha t.held.length c.hc, .slice c.ba t.bin.length c.bc], .int .i64 0, .int .i64 0]) (by simp [results, Tryz.results45, go_sem, g0, g1, g2, g3, g4, g5, g6]) rfl ?_
   rw [HRE.out]
   exact .inr ⟨rfl, c, rfl, HIZ.out, HBZ.out⟩
end Go.Proofs.YthdiccdnggloiaaGreatDoor

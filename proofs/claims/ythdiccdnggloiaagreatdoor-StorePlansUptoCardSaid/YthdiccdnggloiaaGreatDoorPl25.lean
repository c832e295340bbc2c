/- Parts of the proof, no condition: StTnn. -/
import Derived.Test.YthdiccdnggloiaaGreatDoorPl22
import Derived.Test.YthdiccdnggloiaaGreatDoorPl12
import Derived.Test.YthdiccdnggloiaaGreatDoorPl24
import Derived.Test.YthdiccdnggloiaaGreatDoorPl11
set_option maxRecDepth 100000
set_option maxHeartbeats 16000000
set_option linter.unusedSimpArgs false
set_option linter.unusedVariables false
namespace Go.Proofs.YthdiccdnggloiaaGreatDoor
open Go.RowKit Go.Sort Go.Shelf Go.Maps
theorem evdPost_at {s : Sto} {t : Tir} {b : Int} {w w' : World} {e : Ending} (h : EvdPost s t b w e w') : ∃ g cap n, (St.evM s t b).length = n ∧ e = .returned (.tuple #[.slice g n cap, .bool (St.evOk s t b)]) ∧ w'.ownsRow w.heap.size 52 4 (.slice g n cap) n (St.eM.flat (St.evM s t b)) ∧ Below w.heap.size w w' := by
 obtain ⟨R, ok, g, cap, n, ⟨L, f, hG, hr, hok⟩, hn, rfl, ho, hb⟩ := h
 have hR : St.evR s t b = (R, f) := by unfold St.evR; rw [St.goersL_of hG]; exact hr
 have hM : St.evM s t b = R.map (St.drop_ t.name) := by unfold St.evM; rw [hR]
 have hO : St.evOk s t b = ok := by unfold St.evOk; rw [hR, hok]
 rw [hM, hO]
 exact ⟨g, cap, n, by rw [List.length_map]; exact hn, rfl, ho, hb⟩
def TgrPost (w : World) (R : Option Tir) (M : Tir → List Mov) (e : Ending) (w' : World) : Prop := Below w.heap.size w w' ∧
 match R with
 | none => e = .returned (.tuple #[.string ⟨#[]⟩, .slice none 0 0, .bool false])
 | some t => ∃ v, w'.ownsRow w.heap.size 52 4 v (M t).length (St.eM.flat (M t)) ∧ e = .returned (.tuple #[.string t.name, v, .bool true])
def BestAt (T K : List Tir) (b : Int) : Prop := (K = [] ∧ b = -1) ∨ (K ≠ [] ∧ ∃ k : Nat, b = (k : Int) ∧ T[k]? = some (St.cheap K))
theorem cheap_snoc {K : List Tir} (h : K ≠ []) (x : Tir) : St.cheap (K ++ [x]) = if x.cost < (St.cheap K).cost then x else St.cheap K := by
 cases K with
 | nil => exact absurd rfl h
 | cons t r =>
   show St.best t ((t :: r) ++ [x]) = _
   unfold St.cheap St.best
   rw [List.foldl_append]
   rfl
theorem BestAt.skip {T K : List Tir} {b : Int} (h : BestAt T K b) : BestAt T (K ++ []) b := by rw [List.append_nil]; exact h
theorem BestAt.new {T K : List Tir} {b : Int} {j : Nat} {x : Tir} (h : BestAt T K b) (hx : T[j]? = some x) (hn : b < 0 ∨ ∃ k : Nat, b = (k : Int) ∧ ∃ y, T[k]? = some y ∧ x.cost < y.cost) : BestAt T (K ++ [x]) (j : Int) := by
 right
 refine ⟨by simp, j, rfl, ?_⟩
 rcases h with ⟨rfl, rfl⟩ | ⟨hne, k, rfl, hk⟩
 ·rw [hx]
  unfold St.cheap St.best
  simp
 ·rcases hn with hn | ⟨k', e, y, hy, hlt⟩
  ·omega
  ·obtain rfl : k = k' := by omega
   rw [hk] at hy
   obtain rfl := Option.some.inj hy
   rw [cheap_snoc hne, if_pos hlt, hx]
theorem BestAt.stay {T K : List Tir} {b : Int} {x : Tir} (h : BestAt T K b) {k : Nat} (hb : b = (k : Int)) {y : Tir} (hy : T[k]? = some y) (hlt : ¬ x.cost < y.cost) : BestAt T (K ++ [x]) b := by
 right
 rcases h with ⟨_, rfl⟩ | ⟨hne, k', rfl, hk⟩
 ·omega
 ·obtain rfl : k = k' := by omega
  have hk2 := hk
  rw [hk] at hy
  obtain rfl := Option.some.inj hy
  exact ⟨by simp, k, rfl, by rw [cheap_snoc hne, if_neg hlt]; exact hk2⟩
theorem St.copyAt_has {s : Sto} (r : St.Right s) {d t : ByteArray} (hd : d.size = 16) : decide (0 ≤ St.copyAt s d t) = St.hasCopy s d t := by
 obtain ⟨h1, h2⟩ := St.copyAt_pos (t := t) r hd
 rw [St.hasCopy_any r]
 cases e : St.hasK St.ckey s.copies (St.key d t) with
 | true => rw [h1 e]; simp
 | false => rw [h2 e]; decide
theorem targetR_is (s : Sto) (a : StA) (f : Fil) (w : World) (hI : StIn w s a) (r : St.Right s) (hd : f.dig.size = 16) (hs : f.size = St.sizeOf s.files f.dig) :
  Calls Tryz.prog 128 #[.agg #[.int .i64 s.least, .int .i64 s.wait, .slice a.ta s.tiers.length a.tc, .slice a.fa s.files.length a.fc, .slice a.ca s.copies.length a.cc, .slice a.ha s.held.length a.hc, .slice a.ba s.bin.length a.bc], .agg #[.string f.dig, .int .i64 f.size, .int .i64 f.kind, .string f.frm]] w (TgrPost w (St.mor s f.dig) (fun t => St.evM s t f.size)) := by
 obtain ⟨W1, hW1, hP, hz1, hB1⟩ := box w #[.int .i64 s.least, .int .i64 s.wait, .slice a.ta s.tiers.length a.tc, .slice a.fa s.files.length a.fc, .slice a.ca s.copies.length a.cc, .slice a.ha s.held.length a.hc, .slice a.ba s.bin.length a.bc] 28
 obtain ⟨W2, hW2, hQ, hz2, hB2⟩ := box W1 #[.string f.dig, .int .i64 f.size, .int .i64 f.kind, .string f.frm] 30
 rw [hz1] at hQ hz2
 have hP := hP.keep hB2
 have HW1 := Lib.hid hW1; have HW2 := Lib.hid hW2
 have HBB := Lib.hid (below_up hB1 hB2)
 obtain ⟨_, y1, y2, y3, y4, y5⟩ := St.sizes_iff.1 r.sizes
 have HII := Lib.hid (fun V (hv : Below W2.heap.size W2 V) => (hI.keep HBB.out).keep hv)
 have HGO := Lib.hid (goodOf_is s a f.dig W2 (hI.keep HBB.out) y1 y3)
 unfold TirPost at HGO
 have HCO := Lib.hid (fun V (hv : Below W2.heap.size W2 V) t => copyOf_is s a f.dig t V (HII.out V hv))
 have hbs : 0 ≤ f.size ∧ f.size ≤ 1000000000000 := by
  rw [hs]
  have := St.size_bd (St.szs_of (F := s.files) (fun f hf => (r.dig f hf).2)) f.dig
  omega
 have HEV := Lib.hid (fun V (hv : Below W2.heap.size W2 V) (k : Nat) t (ht : s.tiers[k]? = some t) => evictedR_is s a t k ht (St.tier_self r.tiers ht) f.size hbs V (HII.out V hv) r)
 have HHC := Lib.hid (fun t => St.copyAt_has r (t := t) hd)
 have HR := Lib.hid r
 have hm1 : St.mor1 s f.dig = if St.awayN (St.goodL s f.dig) = 0 then St.tgt s f.dig (·.away) else none := rfl
 have hm2 : St.mor2 s f.dig = if ((St.goodL s f.dig).length : Int) < s.least then St.tgt s f.dig (fun _ => true) else none := rfl
 have hmo : St.mor s f.dig = (St.mor1 s f.dig).or (St.mor2 s f.dig) := rfl
 have hcd : ∀ mb, St.tgt s f.dig mb = if (s.tiers.filter (St.cand s f.dig mb)).length = 0 then none else some (St.cheap (s.tiers.filter (St.cand s f.dig mb))) := fun _ => rfl
 have hca : ∀ mb, St.cand s f.dig mb = fun t => (mb t && !St.hasCopy s f.dig t.name) && St.evOk s t f.size := by rw [hs]; exact fun _ => rfl
 have HCD := Lib.hid hcd; have HCA := Lib.hid hca
 have hgl := St.goodL_len s f.dig
 have HCL : Hid (∀ V, Below W2.heap.size W2 V → V.cell? ⟨w.heap.size, 0, none⟩ = some (.int .i64 s.least) ∧ V.cell? ⟨w.heap.size, 1, none⟩ = some (.int .i64 s.wait) ∧ V.cell? ⟨w.heap.size, 2, none⟩ = some (.slice a.ta s.tiers.length a.tc) ∧ V.cell? ⟨w.heap.size, 3, none⟩ = some (.slice a.fa s.files.length a.fc) ∧ V.cell? ⟨w.heap.size, 4, none⟩ = some (.slice a.ca s.copies.length a.cc) ∧ V.cell? ⟨w.heap.size, 5, none⟩ = some (.slice a.ha s.held.length a.hc) ∧ V.cell? ⟨w.heap.size, 6, none⟩ = some (.slice a.ba s.bin.length a.bc)) := Lib.hid fun V hv => (hP.keep hv).seven
 have HFL : Hid (∀ V, Below W2.heap.size W2 V → V.cell? ⟨w.heap.size + 1, 0, none⟩ = some (.string f.dig) ∧ V.cell? ⟨w.heap.size + 1, 1, none⟩ = some (.int .i64 f.size) ∧ V.cell? ⟨w.heap.size + 1, 2, none⟩ = some (.int .i64 f.kind) ∧ V.cell? ⟨w.heap.size + 1, 3, none⟩ = some (.string f.frm)) := Lib.hid fun V hv => (hQ.keep hv).four
 have HZ2 := Lib.hid hz2
 have htl := hI.tl
 obtain ⟨GL, hGL⟩ : ∃ GL, St.goodL s f.dig = GL := ⟨_, rfl⟩
 rw [hGL] at HGO hm1 hm2 hgl
 obtain ⟨mg, hmg⟩ : ∃ mg, GL.length = mg := ⟨_, rfl⟩
 have HMG := Lib.hid hmg
 rw [hmg] at HGO hm2 hgl
 have hmg8 : mg ≤ 8 := by omega
 obtain ⟨ma, hma⟩ : ∃ ma, St.awayN GL = ma := ⟨_, rfl⟩
 have HMA := Lib.hid hma
 rw [hma] at hm1
 have HM1 := Lib.hid hm1; have HM2 := Lib.hid hm2; have HMO := Lib.hid hmo
 generalize St.mor1 s f.dig = q1 at *
 generalize St.mor2 s f.dig = q2 at *
 generalize St.mor s f.dig = qm at *
 obtain ⟨q0, p1, p2, p3, p4, p5, p6⟩ := HCL.out _ (Below.refl _ _)
 obtain ⟨f0, f1, f2, f3⟩ := HFL.out _ (Below.refl _ _)
 clear hI r hP hQ hz1 hz2 hB1 hB2 hW1 hW2 hs hbs hm1 hm2 hmo hcd hca hGL hmg hma hgl y2 y3 y4 y5
 obtain ⟨nt, hnt⟩ : ∃ nt, s.tiers.length = nt := ⟨_, rfl⟩
 have HNT := Lib.hid hnt
 rw [hnt] at htl y1 p2 HCL HEV HCO HGO HW1 ⊢
 clear hnt
 go_enter Tryz.func128, Tryz.ntmps128
 go_upto_region 1 with fail
 rw [HW1.out, HW2.out]
 go_wp2_with (go_at_call 118; (with_reducible refine HGO.out.mono ?_); rintro e w4 ⟨g4, cap4, rfl, ho4, hq4⟩)
 have HG4 := Lib.hid ho4
 have HB4 := Lib.hid hq4
 clear q0 p1 p2 p3 p4 p5 p6 f0 f1 f2 f3 ho4 hq4
 go_loopg [20] 2 (fun gk i wr => ∃ p : Int, (p = 0 ∨ p = 1 ∨ p = 2) ∧ gk = (2 - p).toNat ∧ i = .int .i64 p ∧ (p ≠ 0 → q1 = none) ∧ (p = 2 → q2 = none) ∧ Below w4.heap.size w4 wr)
 case atStart => exact ⟨0, .inl rfl, rfl, rfl, fun h => absurd rfl h, fun h => absurd h (by decide), Below.refl _ _⟩
 case round =>
  obtain ⟨p, hp, rfl, rfl, hm1, hm2, hB⟩ := hrel
  rcases hp with rfl | rfl | rfl
  ·have HAW := Lib.hid (fun V (hv : Below w4.heap.size w4 V) => awayR_is GL g4 cap4 V (RowE.ofV (E := St.eT) (ca := cap4) (by rw [HMG.out]; exact HG4.out.keep hv)) (by rw [HMG.out]; omega))
   rw [HMA.out, HMG.out] at HAW
   obtain ⟨mi, hmi⟩ : ∃ mi : Int, (ma : Int) = mi := ⟨_, rfl⟩
   rw [hmi] at HAW
   by_cases hma : ma = 0
   ·have hti : decide ((0 : Int) < mi) = false := decide_eq_false (by omega)
    have htp : ((0 : Int) < mi) = False := by simp; omega
    have HQ1 : Hid (q1 = St.tgt s f.dig (·.away)) := Lib.hid (by rw [HM1.out, if_pos hma])
    clear hma hmi
    obtain ⟨p0, p1, p2, p3, p4, p5, p6⟩ := HCL.out _ (below_up HB4.out hB)
    have HB := Lib.hid hB
    clear hB
    go_wp2_with (go_at_call 119; (with_reducible refine (HAW.out _ HB.out).mono ?_); rintro e w6 ⟨rfl, hq⟩; obtain ⟨p0, p1, p2, p3, p4, p5, p6⟩ := HCL.out _ (below_up HB4.out (below_up HB.out hq)))
    have HB := Lib.hid (below_up HB.out hq)
    clear hq
    clear p0 p1 p2 p3 p4 p5 p6
    go_loopg [9, 44] nt (fun gk bq i wr => ∃ (j : Nat) (b : Int), j ≤ nt ∧ gk = nt - j ∧ i = .int .i64 j ∧ bq = .int .i64 b ∧ BestAt s.tiers ((s.tiers.take j).filter (St.cand s f.dig (fun t => t.away))) b ∧ Below w4.heap.size w4 wr)
    case atStart => exact ⟨0, -1, by omega, rfl, rfl, rfl, .inl ⟨rfl, rfl⟩, HB.out⟩
    case round =>
     obtain ⟨j, bb, hj, rfl, rfl, rfl, hba, hB⟩ := hrel
     by_cases hlt : j < nt
     ·-- a tier's round, to region 10. (fun t => t.away): what a tier must be
      obtain ⟨x, hxx⟩ : ∃ x, s.tiers[j]? = some x := ⟨_, List.getElem?_eq_getElem (by rw [HNT.out]; exact hlt)⟩
      obtain ⟨b, off, ha, hb, hcell⟩ := ((HII.out _ (below_up HB4.out hB)).ti) (by rw [HNT.out]; omega)
      have c0 : wr.cell? ⟨b, off + j * 4, none⟩ = some (.string x.name) := hcell j x hxx 0 (.string x.name) rfl
      have c1 : wr.cell? ⟨b, off + j * 4 + 1, none⟩ = some (.int .i64 x.room) := hcell j x hxx 1 (.int .i64 x.room) rfl
      have c2 : wr.cell? ⟨b, off + j * 4 + 2, none⟩ = some (.int .i64 x.cost) := hcell j x hxx 2 (.int .i64 x.cost) rfl
      have c3 : wr.cell? ⟨b, off + j * 4 + 3, none⟩ = some (.bool x.away) := hcell j x hxx 3 (.bool x.away) rfl
      have HFT := Lib.hid (St.filter_take (p := St.cand s f.dig (fun t => t.away)) hxx)
      have HBA := Lib.hid hba
      obtain ⟨W3, hW3, hX3, hz3, hB3⟩ := box wr #[.string x.name, .int .i64 x.room, .int .i64 x.cost, .bool x.away] 46
      have HW3 := Lib.hid hW3
      have HX : Hid (∀ V, Below W3.heap.size W3 V → V.cell? ⟨wr.heap.size, 0, none⟩ = some (.string x.name) ∧ V.cell? ⟨wr.heap.size, 1, none⟩ = some (.int .i64 x.room) ∧ V.cell? ⟨wr.heap.size, 2, none⟩ = some (.int .i64 x.cost) ∧ V.cell? ⟨wr.heap.size, 3, none⟩ = some (.bool x.away)) := Lib.hid fun V hv => (hX3.keep hv).four
      have HBW := Lib.hid (below_up hB hB3)
      have hj0 : (0 : Int) ≤ (j : Int) := by omega
      have hj1 : (j : Int) < (nt : Int) := by omega
      clear hcell hX3 hz3 hB3 hW3 hba hB
      rw [ha] at HCL HEV HCO ⊢
      have hv : Below W3.heap.size W3 W3 := Below.refl _ _
      obtain ⟨p0, p1, p2, p3, p4, p5, p6⟩ := HCL.out _ (below_up HB4.out (below_up HBW.out hv))
      obtain ⟨f0, f1, f2, f3⟩ := HFL.out _ (below_up HB4.out (below_up HBW.out hv))
      obtain ⟨e0, e1, e2, e3⟩ := HX.out _ hv
      go_upto_region 10 with fail
      rw [HW3.out]
      clear c0 c1 c2 c3
      obtain ⟨xa, hxa⟩ : ∃ xa, x.away = xa := ⟨_, rfl⟩
      rw [hxa] at e3
      cases xa
      ·have HCXX : Hid (St.cand s f.dig (fun t => t.away) x = false) := Lib.hid (by rw [HCA.out]; show ((x.away && _) && _) = false; rw [hxa]; rfl)
       clear hxx
       go_wp2_with fail
       rw [← ha]
       go_roundg (nt - (j + 1))
       case rel => exact ⟨j + 1, bb, by omega, rfl, by go_num, rfl, (by rw [HFT.out, if_neg (by rw [HCXX.out]; simp)]; exact HBA.out.skip), HBW.out⟩
       case measure => omega
      ·-- a tier that may be: has it a copy, is there room? (fun t => t.away): what a tier must be
       have hcx : St.cand s f.dig (fun t => t.away) x = ((true && !St.hasCopy s f.dig x.name) && St.evOk s x f.size) := by rw [HCA.out] <;> first | rfl | (show ((x.away && _) && _) = _; rw [hxa])
       have hhc := HHC.out x.name
       obtain ⟨ca, hca⟩ : ∃ ca, St.copyAt s f.dig x.name = ca := ⟨_, rfl⟩
       have HCX := Lib.hid (fun V hv => HCO.out V hv x.name)
       rw [hca] at hhc HCX
       obtain ⟨hk, hhk⟩ : ∃ hk, St.hasCopy s f.dig x.name = hk := ⟨_, rfl⟩
       rw [hhk] at hhc hcx
       cases hk
       ·have hcp : ((0 : Int) ≤ ca) = False := by simpa using hhc
        have HEX := Lib.hid (fun V hv => HEV.out V hv j x hxx)
        obtain ⟨ok, hok⟩ : ∃ ok, St.evOk s x f.size = ok := ⟨_, rfl⟩
        rw [hok] at hcx
        have HOK := Lib.hid hok
        have HCXX := Lib.hid hcx
        have HXX := Lib.hid hxx
        clear hca hhk hok hcx hxx
        go_upto_region 12 with (first
         | (go_at_call 80; (with_reducible refine (HCX.out _ (below_up HB4.out (below_up HBW.out hv))).mono ?_); rintro e w8 ⟨rfl, hq⟩; have hv := below_up hv hq; obtain ⟨p0, p1, p2, p3, p4, p5, p6⟩ := HCL.out _ (below_up HB4.out (below_up HBW.out hv)); obtain ⟨f0, f1, f2, f3⟩ := HFL.out _ (below_up HB4.out (below_up HBW.out hv)); obtain ⟨e0, e1, e2, e3⟩ := HX.out _ hv)
         | (go_at_call 23; (with_reducible refine (HEX.out _ (below_up HB4.out (below_up HBW.out hv))).mono ?_); intro e w9 hE; obtain ⟨ge, ce, ne, hne, he, ho, hq⟩ := evdPost_at hE; rw [HOK.out] at he; subst he; have hv := below_up hv hq; obtain ⟨p0, p1, p2, p3, p4, p5, p6⟩ := HCL.out _ (below_up HB4.out (below_up HBW.out hv)); obtain ⟨f0, f1, f2, f3⟩ := HFL.out _ (below_up HB4.out (below_up HBW.out hv)); obtain ⟨e0, e1, e2, e3⟩ := HX.out _ hv; clear hE hne ho hq))
        have hs9 := (below_up HBW.out hv).size
        cases ok
        ·go_wp2_with fail
         go_quiet (fail)
         have HVZ := Lib.hid (below_up HBW.out (below_up hv (below_drewN (Below.refl _ _) nq)))
         generalize World.drewN _ nq = wz at *
         clear hv p0 p1 p2 p3 p4 p5 p6 f0 f1 f2 f3 e0 e1 e2 e3
         go_wp2_with fail
         rw [← ha]
         go_roundg (nt - (j + 1))
         case rel => exact ⟨j + 1, bb, by omega, rfl, by go_num, rfl, (by rw [HFT.out, if_neg (by rw [HCXX.out]; simp)]; exact HBA.out.skip), HVZ.out⟩
         case measure => omega
        ·have HBK := HBA.out
         rcases HBK with ⟨hK, rfl⟩ | ⟨hK, k, rfl, hy⟩
         ·clear hK
          go_wp2_with fail
          go_quiet (fail)
          have HVZ := Lib.hid (below_up HBW.out (below_up hv (below_drewN (Below.refl _ _) nq)))
          generalize World.drewN _ nq = wz at *
          clear hv p0 p1 p2 p3 p4 p5 p6 f0 f1 f2 f3 e0 e1 e2 e3
          go_wp2_with fail
          rw [← ha]
          go_roundg (nt - (j + 1))
          case rel => exact ⟨j + 1, j, by omega, rfl, by go_num, rfl, (by rw [HFT.out, if_pos (by rw [HCXX.out]; rfl)]; exact HBA.out.new HXX.out (.inl (by decide))), HVZ.out⟩
          case measure => omega
         ·obtain ⟨y, hyy⟩ : ∃ y, St.cheap ((s.tiers.take j).filter (St.cand s f.dig (fun t => t.away))) = y := ⟨_, rfl⟩
          rw [hyy] at hy
          have hkl := (List.getElem?_eq_some_iff.1 hy).1
          rw [HNT.out] at hkl
          obtain ⟨b', off', ha', _, hc'⟩ := ((HII.out _ (below_up HB4.out (below_up HBW.out hv))).ti) (by rw [HNT.out]; omega)
          rw [ha] at ha'
          cases ha'
          have d2 : w9.cell? ⟨b, off + k * 4 + 2, none⟩ = some (.int .i64 y.cost) := hc' k y hy 2 (.int .i64 y.cost) rfl
          have HY := Lib.hid hy
          have hk0 : (0 : Int) ≤ (k : Int) := by omega
          have hk1 : (k : Int) < (nt : Int) := by omega
          have hk2 : ((k : Int) < 0) = False := by simp
          clear hK hyy hy hc'
          by_cases hxy : x.cost < y.cost
          ·have hx1 : decide (x.cost < y.cost) = true := decide_eq_true hxy
           have hx2 : (x.cost < y.cost) = True := by simpa using hxy
           have HXY := Lib.hid hxy
           clear hxy
           go_wp2_with fail
           go_quiet (fail)
           have HVZ := Lib.hid (below_up HBW.out (below_up hv (below_drewN (Below.refl _ _) nq)))
           generalize World.drewN _ nq = wz at *
           clear hv p0 p1 p2 p3 p4 p5 p6 f0 f1 f2 f3 e0 e1 e2 e3 d2
           go_wp2_with fail
           rw [← ha]
           go_roundg (nt - (j + 1))
           case rel => exact ⟨j + 1, j, by omega, rfl, by go_num, rfl, (by rw [HFT.out, if_pos (by rw [HCXX.out]; rfl)]; exact HBA.out.new HXX.out (.inr ⟨k, rfl, y, HY.out, HXY.out⟩)), HVZ.out⟩
           case measure => omega
          ·have hx1 : decide (x.cost < y.cost) = false := decide_eq_false hxy
           have hx2 : (x.cost < y.cost) = False := by simpa using hxy
           have HXY := Lib.hid hxy
           clear hxy
           go_wp2_with fail
           go_quiet (fail)
           have HVZ := Lib.hid (below_up HBW.out (below_up hv (below_drewN (Below.refl _ _) nq)))
           generalize World.drewN _ nq = wz at *
           clear hv p0 p1 p2 p3 p4 p5 p6 f0 f1 f2 f3 e0 e1 e2 e3 d2
           go_wp2_with fail
           rw [← ha]
           go_roundg (nt - (j + 1))
           case rel => exact ⟨j + 1, k, by omega, rfl, by go_num, rfl, (by rw [HFT.out, if_pos (by rw [HCXX.out]; rfl)]; exact HBA.out.stay rfl HY.out (by have := HXY.out; omega)), HVZ.out⟩
           case measure => omega
       ·have hcp : ((0 : Int) ≤ ca) = True := by simpa using hhc
        have HCXX : Hid (St.cand s f.dig (fun t => t.away) x = false) := Lib.hid (by rw [hcx]; simp)
        clear hca hhk hcx hxx
        go_wp2_with (go_at_call 80; (with_reducible refine (HCX.out _ (below_up HB4.out (below_up HBW.out hv))).mono ?_); rintro e w8 ⟨rfl, hq⟩; have hv := below_up hv hq)
        rw [← ha]
        go_roundg (nt - (j + 1))
        case rel => exact ⟨j + 1, bb, by omega, rfl, by go_num, rfl, (by rw [HFT.out, if_neg (by rw [HCXX.out]; simp)]; exact HBA.out.skip), (below_up HBW.out hv)⟩
        case measure => omega
     ·-- behind the search. (fun t => t.away): what a tier must be; 1: the outer measure; 1: the next pass; (fun _ => HQ1.out.trans HTN.out), (fun h => absurd h (by decide)): what is known of it; HQ1.out, HTS.out, Option.some_or: the tier that is told
      obtain rfl : j = nt := by omega
      have hba2 : BestAt s.tiers (s.tiers.filter (St.cand s f.dig (fun t => t.away))) bb := by
       have h := hba
       rw [List.take_of_length_le (by rw [HNT.out]; exact Nat.le_refl _)] at h
       exact h
      clear hba
      rcases hba2 with ⟨hK, rfl⟩ | ⟨hK, k, rfl, hy⟩
      ·have HTN : Hid (St.tgt s f.dig (fun t => t.away) = none) := Lib.hid (by rw [HCD.out, hK]; rfl)
       clear hK
       go_wp2_with fail
       go_roundg 1
       case rel => exact ⟨1, by decide, rfl, rfl, (fun _ => HQ1.out.trans HTN.out), (fun h => absurd h (by decide)), hB⟩
       case measure => decide
      ·obtain ⟨y, hyy⟩ : ∃ y, St.cheap (s.tiers.filter (St.cand s f.dig (fun t => t.away))) = y := ⟨_, rfl⟩
       have HTS : Hid (St.tgt s f.dig (fun t => t.away) = some y) := Lib.hid (by rw [HCD.out, if_neg (by intro h; exact hK (List.length_eq_zero_iff.1 h)), hyy])
       rw [hyy] at hy
       have hkl := (List.getElem?_eq_some_iff.1 hy).1
       rw [HNT.out] at hkl
       obtain ⟨b, off, ha, _, hcell⟩ := ((HII.out _ (below_up HB4.out hB)).ti) (by rw [HNT.out]; omega)
       have HD0 : Hid (∀ V, Below wr.heap.size wr V → V.cell? ⟨b, off + k * 4, none⟩ = some (.string y.name)) := Lib.hid fun V hv => by
        obtain ⟨b', off', ha', _, hc'⟩ := ((HII.out _ (below_up HB4.out (below_up hB hv))).ti) (by rw [HNT.out]; omega)
        rw [ha] at ha'
        cases ha'
        exact hc' k y hy 0 (.string y.name) rfl
       have HEX := Lib.hid (fun V hv => HEV.out V hv k y hy)
       have hk0 : (0 : Int) ≤ (k : Int) := by omega
       have hk1 : (k : Int) < (j : Int) := by omega
       have HBR := Lib.hid hB
       have HSZ4 : Hid (w.heap.size ≤ wr.heap.size) := Lib.hid (by have := HBB.out.size; have := HB4.out.size; have := hB.size; omega)
       rw [ha] at HCL HEX ⊢
       clear hK hyy hy hcell hB
       go_upto_region 16 with fail
       have hv : Below wr.heap.size wr wr.drew := (Below.refl _ _).drew
       obtain ⟨p0, p1, p2, p3, p4, p5, p6⟩ := HCL.out _ (below_up HB4.out (below_up HBR.out hv))
       obtain ⟨f0, f1, f2, f3⟩ := HFL.out _ (below_up HB4.out (below_up HBR.out hv))
       have d0 := HD0.out _ hv
       go_region_held3 (fun V => (V.cell? ⟨w.heap.size, 0, none⟩ = some (.int .i64 s.least) ∧ V.cell? ⟨w.heap.size, 1, none⟩ = some (.int .i64 s.wait) ∧ V.cell? ⟨w.heap.size, 2, none⟩ = some (.slice (some ⟨b, off, none⟩) j a.tc) ∧ V.cell? ⟨w.heap.size, 3, none⟩ = some (.slice a.fa s.files.length a.fc) ∧ V.cell? ⟨w.heap.size, 4, none⟩ = some (.slice a.ca s.copies.length a.cc) ∧ V.cell? ⟨w.heap.size, 5, none⟩ = some (.slice a.ha s.held.length a.hc) ∧ V.cell? ⟨w.heap.size, 6, none⟩ = some (.slice a.ba s.bin.length a.bc)) ∧ (V.cell? ⟨w.heap.size + 1, 1, none⟩ = some (.int .i64 f.size)) ∧ V.cell? ⟨b, off + k * 4, none⟩ = some (.string y.name))
        (first | (with_reducible exact ⟨⟨p0, p1, p2, p3, p4, p5, p6⟩, f1, d0⟩) | go_keep)
        (first
         | (go_at_call 23; (with_reducible refine (HEX.out _ (below_up HB4.out (below_up HBR.out hv))).mono ?_); intro e w9 hE; obtain ⟨ge, ce, ne, hne, he, ho, hq⟩ := evdPost_at hE; subst he; have hsv := hv.size; have hv := below_up hv hq; obtain ⟨p0, p1, p2, p3, p4, p5, p6⟩ := HCL.out _ (below_up HB4.out (below_up HBR.out hv)); obtain ⟨f0, f1, f2, f3⟩ := HFL.out _ (below_up HB4.out (below_up HBR.out hv)); have d0 := HD0.out _ hv)
         | fail)
       rename_i hHeld
       clear hHeld
       have HMR : Hid (w9.ownsRow w.heap.size 52 4 (.slice ge ne ce) (St.evM s y f.size).length (St.eM.flat (St.evM s y f.size))) := Lib.hid (by rw [hne]; exact ownsRow_down ho (by have := HSZ4.out; simp only [World.drew] at hsv ⊢; omega))
       have HBZ := Lib.hid (below_up HBB.out (below_up HB4.out (below_up HBR.out hv)))
       clear hE hne ho hq
       go_wp2_with fail
       refine bodyPost_ret (v := .tuple #[.string y.name, .slice ge ne ce, .bool true]) (by simp [results, Tryz.results128, go_sem]) rfl ?_
       rw [HMO.out, HQ1.out, HTS.out, Option.some_or]
       exact ⟨HBZ.out, _, HMR.out, rfl⟩
   ·have hti : decide ((0 : Int) < mi) = true := decide_eq_true (by omega)
    have htp : ((0 : Int) < mi) = True := by simp; omega
    have HN1 : Hid (q1 = none) := Lib.hid (by rw [HM1.out, if_neg hma])
    clear hma hmi
    go_wp2_with (go_at_call 119; (with_reducible refine (HAW.out _ hB).mono ?_); rintro e w6 ⟨rfl, hq⟩)
    go_roundg 1
    case rel => exact ⟨1, .inr (.inl rfl), rfl, rfl, fun _ => HN1.out, fun h => absurd h (by decide), below_up hB hq⟩
    case measure => decide
  ·have hq1 := hm1 (by decide)
   have HQ1 := Lib.hid hq1
   obtain ⟨p0, p1, p2, p3, p4, p5, p6⟩ := HCL.out _ (below_up HB4.out hB)
   by_cases hge : s.least ≤ (mg : Int)
   ·have hg1 : decide (s.least ≤ (mg : Int)) = true := decide_eq_true hge
    have hg2 : (s.least ≤ (mg : Int)) = True := by simpa using hge
    have HN2 : Hid (q2 = none) := Lib.hid (by rw [HM2.out, if_neg (by omega)])
    clear hge hm1 hm2 hq1
    go_wp2_with fail
    go_roundg 0
    case rel => exact ⟨2, .inr (.inr rfl), rfl, rfl, fun _ => HQ1.out, fun _ => HN2.out, hB⟩
    case measure => decide
   ·have hg1 : decide (s.least ≤ (mg : Int)) = false := decide_eq_false hge
    have hg2 : (s.least ≤ (mg : Int)) = False := by simpa using hge
    have HQ2 : Hid (q2 = St.tgt s f.dig (fun _ => true)) := Lib.hid (by rw [HM2.out, if_pos (by omega)])
    clear hge hm1 hm2 hq1 p0 p1 p2 p3 p4 p5 p6
    obtain ⟨p0, p1, p2, p3, p4, p5, p6⟩ := HCL.out _ (below_up HB4.out hB)
    have HB := Lib.hid hB
    clear hB
    go_wp2_with fail
    clear p0 p1 p2 p3 p4 p5 p6
    go_loopg [9, 44] nt (fun gk bq i wr => ∃ (j : Nat) (b : Int), j ≤ nt ∧ gk = nt - j ∧ i = .int .i64 j ∧ bq = .int .i64 b ∧ BestAt s.tiers ((s.tiers.take j).filter (St.cand s f.dig (fun _ => true))) b ∧ Below w4.heap.size w4 wr)
    case atStart => exact ⟨0, -1, by omega, rfl, rfl, rfl, .inl ⟨rfl, rfl⟩, HB.out⟩
    case round =>
     obtain ⟨j, bb, hj, rfl, rfl, rfl, hba, hB⟩ := hrel
     by_cases hlt : j < nt
     ·-- a tier's round, to region 10. (fun _ => true): what a tier must be
      obtain ⟨x, hxx⟩ : ∃ x, s.tiers[j]? = some x := ⟨_, List.getElem?_eq_getElem (by rw [HNT.out]; exact hlt)⟩
      obtain ⟨b, off, ha, hb, hcell⟩ := ((HII.out _ (below_up HB4.out hB)).ti) (by rw [HNT.out]; omega)
      have c0 : wr.cell? ⟨b, off + j * 4, none⟩ = some (.string x.name) := hcell j x hxx 0 (.string x.name) rfl
      have c1 : wr.cell? ⟨b, off + j * 4 + 1, none⟩ = some (.int .i64 x.room) := hcell j x hxx 1 (.int .i64 x.room) rfl
      have c2 : wr.cell? ⟨b, off + j * 4 + 2, none⟩ = some (.int .i64 x.cost) := hcell j x hxx 2 (.int .i64 x.cost) rfl
      have c3 : wr.cell? ⟨b, off + j * 4 + 3, none⟩ = some (.bool x.away) := hcell j x hxx 3 (.bool x.away) rfl
      have HFT := Lib.hid (St.filter_take (p := St.cand s f.dig (fun _ => true)) hxx)
      have HBA := Lib.hid hba
      obtain ⟨W3, hW3, hX3, hz3, hB3⟩ := box wr #[.string x.name, .int .i64 x.room, .int .i64 x.cost, .bool x.away] 46
      have HW3 := Lib.hid hW3
      have HX : Hid (∀ V, Below W3.heap.size W3 V → V.cell? ⟨wr.heap.size, 0, none⟩ = some (.string x.name) ∧ V.cell? ⟨wr.heap.size, 1, none⟩ = some (.int .i64 x.room) ∧ V.cell? ⟨wr.heap.size, 2, none⟩ = some (.int .i64 x.cost) ∧ V.cell? ⟨wr.heap.size, 3, none⟩ = some (.bool x.away)) := Lib.hid fun V hv => (hX3.keep hv).four
      have HBW := Lib.hid (below_up hB hB3)
      have hj0 : (0 : Int) ≤ (j : Int) := by omega
      have hj1 : (j : Int) < (nt : Int) := by omega
      clear hcell hX3 hz3 hB3 hW3 hba hB
      rw [ha] at HCL HEV HCO ⊢
      have hv : Below W3.heap.size W3 W3 := Below.refl _ _
      obtain ⟨p0, p1, p2, p3, p4, p5, p6⟩ := HCL.out _ (below_up HB4.out (below_up HBW.out hv))
      obtain ⟨f0, f1, f2, f3⟩ := HFL.out _ (below_up HB4.out (below_up HBW.out hv))
      obtain ⟨e0, e1, e2, e3⟩ := HX.out _ hv
      go_upto_region 10 with fail
      rw [HW3.out]
      clear c0 c1 c2 c3
      have hcx : St.cand s f.dig (fun _ => true) x = ((true && !St.hasCopy s f.dig x.name) && St.evOk s x f.size) := by rw [HCA.out] <;> first | rfl | (show ((x.away && _) && _) = _; rw [hxa])
      have hhc := HHC.out x.name
      obtain ⟨ca, hca⟩ : ∃ ca, St.copyAt s f.dig x.name = ca := ⟨_, rfl⟩
      have HCX := Lib.hid (fun V hv => HCO.out V hv x.name)
      rw [hca] at hhc HCX
      obtain ⟨hk, hhk⟩ : ∃ hk, St.hasCopy s f.dig x.name = hk := ⟨_, rfl⟩
      rw [hhk] at hhc hcx
      cases hk
      ·have hcp : ((0 : Int) ≤ ca) = False := by simpa using hhc
       have HEX := Lib.hid (fun V hv => HEV.out V hv j x hxx)
       obtain ⟨ok, hok⟩ : ∃ ok, St.evOk s x f.size = ok := ⟨_, rfl⟩
       rw [hok] at hcx
       have HOK := Lib.hid hok
       have HCXX := Lib.hid hcx
       have HXX := Lib.hid hxx
       clear hca hhk hok hcx hxx
       go_upto_region 12 with (first
        | (go_at_call 80; (with_reducible refine (HCX.out _ (below_up HB4.out (below_up HBW.out hv))).mono ?_); rintro e w8 ⟨rfl, hq⟩; have hv := below_up hv hq; obtain ⟨p0, p1, p2, p3, p4, p5, p6⟩ := HCL.out _ (below_up HB4.out (below_up HBW.out hv)); obtain ⟨f0, f1, f2, f3⟩ := HFL.out _ (below_up HB4.out (below_up HBW.out hv)); obtain ⟨e0, e1, e2, e3⟩ := HX.out _ hv)
        | (go_at_call 23; (with_reducible refine (HEX.out _ (below_up HB4.out (below_up HBW.out hv))).mono ?_); intro e w9 hE; obtain ⟨ge, ce, ne, hne, he, ho, hq⟩ := evdPost_at hE; rw [HOK.out] at he; subst he; have hv := below_up hv hq; obtain ⟨p0, p1, p2, p3, p4, p5, p6⟩ := HCL.out _ (below_up HB4.out (below_up HBW.out hv)); obtain ⟨f0, f1, f2, f3⟩ := HFL.out _ (below_up HB4.out (below_up HBW.out hv)); obtain ⟨e0, e1, e2, e3⟩ := HX.out _ hv; clear hE hne ho hq))
       have hs9 := (below_up HBW.out hv).size
       cases ok
       ·go_wp2_with fail
        go_quiet (fail)
        have HVZ := Lib.hid (below_up HBW.out (below_up hv (below_drewN (Below.refl _ _) nq)))
        generalize World.drewN _ nq = wz at *
        clear hv p0 p1 p2 p3 p4 p5 p6 f0 f1 f2 f3 e0 e1 e2 e3
        go_wp2_with fail
        rw [← ha]
        go_roundg (nt - (j + 1))
        case rel => exact ⟨j + 1, bb, by omega, rfl, by go_num, rfl, (by rw [HFT.out, if_neg (by rw [HCXX.out]; simp)]; exact HBA.out.skip), HVZ.out⟩
        case measure => omega
       ·have HBK := HBA.out
        rcases HBK with ⟨hK, rfl⟩ | ⟨hK, k, rfl, hy⟩
        ·clear hK
         go_wp2_with fail
         go_quiet (fail)
         have HVZ := Lib.hid (below_up HBW.out (below_up hv (below_drewN (Below.refl _ _) nq)))
         generalize World.drewN _ nq = wz at *
         clear hv p0 p1 p2 p3 p4 p5 p6 f0 f1 f2 f3 e0 e1 e2 e3
         go_wp2_with fail
         rw [← ha]
         go_roundg (nt - (j + 1))
         case rel => exact ⟨j + 1, j, by omega, rfl, by go_num, rfl, (by rw [HFT.out, if_pos (by rw [HCXX.out]; rfl)]; exact HBA.out.new HXX.out (.inl (by decide))), HVZ.out⟩
         case measure => omega
        ·obtain ⟨y, hyy⟩ : ∃ y, St.cheap ((s.tiers.take j).filter (St.cand s f.dig (fun _ => true))) = y := ⟨_, rfl⟩
         rw [hyy] at hy
         have hkl := (List.getElem?_eq_some_iff.1 hy).1
         rw [HNT.out] at hkl
         obtain ⟨b', off', ha', _, hc'⟩ := ((HII.out _ (below_up HB4.out (below_up HBW.out hv))).ti) (by rw [HNT.out]; omega)
         rw [ha] at ha'
         cases ha'
         have d2 : w9.cell? ⟨b, off + k * 4 + 2, none⟩ = some (.int .i64 y.cost) := hc' k y hy 2 (.int .i64 y.cost) rfl
         have HY := Lib.hid hy
         have hk0 : (0 : Int) ≤ (k : Int) := by omega
         have hk1 : (k : Int) < (nt : Int) := by omega
         have hk2 : ((k : Int) < 0) = False := by simp
         clear hK hyy hy hc'
         by_cases hxy : x.cost < y.cost
         ·have hx1 : decide (x.cost < y.cost) = true := decide_eq_true hxy
          have hx2 : (x.cost < y.cost) = True := by simpa using hxy
          have HXY := Lib.hid hxy
          clear hxy
          go_wp2_with fail
          go_quiet (fail)
          have HVZ := Lib.hid (below_up HBW.out (below_up hv (below_drewN (Below.refl _ _) nq)))
          generalize World.drewN _ nq = wz at *
          clear hv p0 p1 p2 p3 p4 p5 p6 f0 f1 f2 f3 e0 e1 e2 e3 d2
          go_wp2_with fail
          rw [← ha]
          go_roundg (nt - (j + 1))
          case rel => exact ⟨j + 1, j, by omega, rfl, by go_num, rfl, (by rw [HFT.out, if_pos (by rw [HCXX.out]; rfl)]; exact HBA.out.new HXX.out (.inr ⟨k, rfl, y, HY.out, HXY.out⟩)), HVZ.out⟩
          case measure => omega
         ·have hx1 : decide (x.cost < y.cost) = false := decide_eq_false hxy
          have hx2 : (x.cost < y.cost) = False := by simpa using hxy
          have HXY := Lib.hid hxy
          clear hxy
          go_wp2_with fail
          go_quiet (fail)
          have HVZ := Lib.hid (below_up HBW.out (below_up hv (below_drewN (Below.refl _ _) nq)))
          generalize World.drewN _ nq = wz at *
          clear hv p0 p1 p2 p3 p4 p5 p6 f0 f1 f2 f3 e0 e1 e2 e3 d2
          go_wp2_with fail
          rw [← ha]
          go_roundg (nt - (j + 1))
          case rel => exact ⟨j + 1, k, by omega, rfl, by go_num, rfl, (by rw [HFT.out, if_pos (by rw [HCXX.out]; rfl)]; exact HBA.out.stay rfl HY.out (by have := HXY.out; omega)), HVZ.out⟩
          case measure => omega
      ·have hcp : ((0 : Int) ≤ ca) = True := by simpa using hhc
       have HCXX : Hid (St.cand s f.dig (fun _ => true) x = false) := Lib.hid (by rw [hcx]; simp)
       clear hca hhk hcx hxx
       go_wp2_with (go_at_call 80; (with_reducible refine (HCX.out _ (below_up HB4.out (below_up HBW.out hv))).mono ?_); rintro e w8 ⟨rfl, hq⟩; have hv := below_up hv hq)
       rw [← ha]
       go_roundg (nt - (j + 1))
       case rel => exact ⟨j + 1, bb, by omega, rfl, by go_num, rfl, (by rw [HFT.out, if_neg (by rw [HCXX.out]; simp)]; exact HBA.out.skip), (below_up HBW.out hv)⟩
       case measure => omega
     ·-- behind the search. (fun _ => true): what a tier must be; 0: the outer measure; 2: the next pass; (fun _ => HQ1.out), (fun _ => HQ2.out.trans HTN.out): what is known of it; HQ1.out, HQ2.out, HTS.out, Option.none_or: the tier that is told
      obtain rfl : j = nt := by omega
      have hba2 : BestAt s.tiers (s.tiers.filter (St.cand s f.dig (fun _ => true))) bb := by
       have h := hba
       rw [List.take_of_length_le (by rw [HNT.out]; exact Nat.le_refl _)] at h
       exact h
      clear hba
      rcases hba2 with ⟨hK, rfl⟩ | ⟨hK, k, rfl, hy⟩
      ·have HTN : Hid (St.tgt s f.dig (fun _ => true) = none) := Lib.hid (by rw [HCD.out, hK]; rfl)
       clear hK
       go_wp2_with fail
       go_roundg 0
       case rel => exact ⟨2, by decide, rfl, rfl, (fun _ => HQ1.out), (fun _ => HQ2.out.trans HTN.out), hB⟩
       case measure => decide
      ·obtain ⟨y, hyy⟩ : ∃ y, St.cheap (s.tiers.filter (St.cand s f.dig (fun _ => true))) = y := ⟨_, rfl⟩
       have HTS : Hid (St.tgt s f.dig (fun _ => true) = some y) := Lib.hid (by rw [HCD.out, if_neg (by intro h; exact hK (List.length_eq_zero_iff.1 h)), hyy])
       rw [hyy] at hy
       have hkl := (List.getElem?_eq_some_iff.1 hy).1
       rw [HNT.out] at hkl
       obtain ⟨b, off, ha, _, hcell⟩ := ((HII.out _ (below_up HB4.out hB)).ti) (by rw [HNT.out]; omega)
       have HD0 : Hid (∀ V, Below wr.heap.size wr V → V.cell? ⟨b, off + k * 4, none⟩ = some (.string y.name)) := Lib.hid fun V hv => by
        obtain ⟨b', off', ha', _, hc'⟩ := ((HII.out _ (below_up HB4.out (below_up hB hv))).ti) (by rw [HNT.out]; omega)
        rw [ha] at ha'
        cases ha'
        exact hc' k y hy 0 (.string y.name) rfl
       have HEX := Lib.hid (fun V hv => HEV.out V hv k y hy)
       have hk0 : (0 : Int) ≤ (k : Int) := by omega
       have hk1 : (k : Int) < (j : Int) := by omega
       have HBR := Lib.hid hB
       have HSZ4 : Hid (w.heap.size ≤ wr.heap.size) := Lib.hid (by have := HBB.out.size; have := HB4.out.size; have := hB.size; omega)
       rw [ha] at HCL HEX ⊢
       clear hK hyy hy hcell hB
       go_upto_region 16 with fail
       have hv : Below wr.heap.size wr wr.drew := (Below.refl _ _).drew
       obtain ⟨p0, p1, p2, p3, p4, p5, p6⟩ := HCL.out _ (below_up HB4.out (below_up HBR.out hv))
       obtain ⟨f0, f1, f2, f3⟩ := HFL.out _ (below_up HB4.out (below_up HBR.out hv))
       have d0 := HD0.out _ hv
       go_region_held3 (fun V => (V.cell? ⟨w.heap.size, 0, none⟩ = some (.int .i64 s.least) ∧ V.cell? ⟨w.heap.size, 1, none⟩ = some (.int .i64 s.wait) ∧ V.cell? ⟨w.heap.size, 2, none⟩ = some (.slice (some ⟨b, off, none⟩) j a.tc) ∧ V.cell? ⟨w.heap.size, 3, none⟩ = some (.slice a.fa s.files.length a.fc) ∧ V.cell? ⟨w.heap.size, 4, none⟩ = some (.slice a.ca s.copies.length a.cc) ∧ V.cell? ⟨w.heap.size, 5, none⟩ = some (.slice a.ha s.held.length a.hc) ∧ V.cell? ⟨w.heap.size, 6, none⟩ = some (.slice a.ba s.bin.length a.bc)) ∧ (V.cell? ⟨w.heap.size + 1, 1, none⟩ = some (.int .i64 f.size)) ∧ V.cell? ⟨b, off + k * 4, none⟩ = some (.string y.name))
        (first | (with_reducible exact ⟨⟨p0, p1, p2, p3, p4, p5, p6⟩, f1, d0⟩) | go_keep)
        (first
         | (go_at_call 23; (with_reducible refine (HEX.out _ (below_up HB4.out (below_up HBR.out hv))).mono ?_); intro e w9 hE; obtain ⟨ge, ce, ne, hne, he, ho, hq⟩ := evdPost_at hE; subst he; have hsv := hv.size; have hv := below_up hv hq; obtain ⟨p0, p1, p2, p3, p4, p5, p6⟩ := HCL.out _ (below_up HB4.out (below_up HBR.out hv)); obtain ⟨f0, f1, f2, f3⟩ := HFL.out _ (below_up HB4.out (below_up HBR.out hv)); have d0 := HD0.out _ hv)
         | fail)
       rename_i hHeld
       clear hHeld
       have HMR : Hid (w9.ownsRow w.heap.size 52 4 (.slice ge ne ce) (St.evM s y f.size).length (St.eM.flat (St.evM s y f.size))) := Lib.hid (by rw [hne]; exact ownsRow_down ho (by have := HSZ4.out; simp only [World.drew] at hsv ⊢; omega))
       have HBZ := Lib.hid (below_up HBB.out (below_up HB4.out (below_up HBR.out hv)))
       clear hE hne ho hq
       go_wp2_with fail
       refine bodyPost_ret (v := .tuple #[.string y.name, .slice ge ne ce, .bool true]) (by simp [results, Tryz.results128, go_sem]) rfl ?_
       rw [HMO.out, HQ1.out, HQ2.out, HTS.out, Option.none_or]
       exact ⟨HBZ.out, _, HMR.out, rfl⟩
  ·have h1 := hm1 (by decide)
   have h2 := hm2 rfl
   go_wp2_with fail
   refine bodyPost_ret (v := .tuple #[.string ⟨#[]⟩, .slice none 0 0, .bool false]) (by simp [results, Tryz.results128, go_sem]) rfl ?_
   rw [HMO.out, h1, h2]
   exact ⟨below_up HBB.out (below_up HB4.out hB), rfl⟩
end Go.Proofs.YthdiccdnggloiaaGreatDoor

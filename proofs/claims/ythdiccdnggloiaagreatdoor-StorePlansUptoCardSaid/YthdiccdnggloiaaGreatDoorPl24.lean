/- Parts of the proof, no condition: StEvD. -/
import Derived.Test.YthdiccdnggloiaaGreatDoorPl23
import Derived.Test.YthdiccdnggloiaaGreatDoorPl18
import Derived.Test.YthdiccdnggloiaaGreatDoorPl11
set_option maxRecDepth 100000
set_option maxHeartbeats 16000000
set_option linter.unusedSimpArgs false
set_option linter.unusedVariables false
namespace Go.Proofs.YthdiccdnggloiaaGreatDoor
open Go.RowKit Go.Sort Go.Shelf Go.Maps
def EvdPost (s : Sto) (t : Tir) (bytes : Int) (w : World) (e : Ending) (w' : World) : Prop :=
 ∃ R ok g cap n, EvRun s t bytes R ok ∧ R.length = n ∧ e = .returned (.tuple #[.slice g n cap, .bool ok]) ∧ w'.ownsRow w.heap.size 52 4 (.slice g n cap) n (St.eM.flat (R.map (St.drop_ t.name))) ∧ Below w.heap.size w w'
theorem evictedR_is (s : Sto) (a : StA) (t : Tir) (k : Nat) (hk : s.tiers[k]? = some t) (hka : St.tierAt s.tiers t.name = (k : Int)) (bytes : Int) (hby : 0 ≤ bytes ∧ bytes ≤ 1000000000000) (w : World) (hI : StIn w s a) (r : St.Right s) :
  Calls Tryz.prog 23 #[.agg #[.int .i64 s.least, .int .i64 s.wait, .slice a.ta s.tiers.length a.tc, .slice a.fa s.files.length a.fc, .slice a.ca s.copies.length a.cc, .slice a.ha s.held.length a.hc, .slice a.ba s.bin.length a.bc], .string t.name, .int .i64 bytes] w (EvdPost s t bytes w) := by
 obtain ⟨W1, hW1, hP, hz1, hB1⟩ := box w #[.int .i64 s.least, .int .i64 s.wait, .slice a.ta s.tiers.length a.tc, .slice a.fa s.files.length a.fc, .slice a.ca s.copies.length a.cc, .slice a.ha s.held.length a.hc, .slice a.ba s.bin.length a.bc] 28
 have HW1 := Lib.hid hW1
 have HI1 := Lib.hid (hI.keep hB1)
 obtain ⟨q0, q1, q2, q3, q4, q5, q6⟩ := hP.sv7
 have HP := Lib.hid hP; have HB1 := Lib.hid hB1
 clear hW1 hP
 have ht := List.mem_of_getElem? hk
 obtain ⟨_, y1, y2, y3, y4, y5⟩ := St.sizes_iff.1 r.sizes
 have hSZ := St.szs_of (F := s.files) (fun f hf => (r.dig f hf).2)
 have htg := St.tier_good r ht
 have hub := St.used_bd hSZ t.name s.copies
 have hrm := r.room t ht
 have HFI := Lib.hid (fun V (hv : Below W1.heap.size W1 V) => freeIn_is s a t k hk hka V (HI1.out.keep hv) hSZ y3 htg.2.1)
 have HGR := Lib.hid (fun V (hv : Below W1.heap.size W1 V) => goersR_is s a t.name V (HI1.out.keep hv) r)
 unfold GrsPost at HGR
 have HFO := Lib.hid (fun (d : ByteArray) V (hv : Below W1.heap.size W1 V) => fileOf_is s a d V (HI1.out.keep hv))
 have HCL := Lib.hid (fun W (hb : Below W1.heap.size W1 W) => (HP.out.keep hb).sv7)
 have hsz := hz1
 obtain ⟨f0, hf0⟩ : ∃ f0, t.room - St.used s.files t.name s.copies = f0 := ⟨_, rfl⟩
 have hf0b : 0 ≤ f0 ∧ f0 ≤ 1000000000000 := by omega
 have HSZ := Lib.hid hSZ; have HF0 := Lib.hid hf0; have HS1 := Lib.hid hsz
 have HGL : Hid (∀ L, St.Goers s t.name L → L.length ≤ 8000) := Lib.hid fun L ⟨M, hL, hp, _⟩ => by
  have h1 : (St.evG s t.name).length ≤ s.copies.length := List.length_filter_le _ _
  have h2 : (St.evK s t.name).length ≤ s.copies.length := List.length_filter_le _ _
  rw [hL, List.length_append, hp.length_eq]; omega
 rw [hf0] at HFI
 obtain ⟨_, hby1⟩ := hby
 clear hI r hk hka ht y1 y2 y3 y4 y5 hSZ htg hub hrm hsz hz1 hf0
 go_enter Tryz.func23, Tryz.ntmps23
 go_upto_region 1 with fail
 rw [HW1.out]
 have hv : Below W1.heap.size W1 W1 := Below.refl _ _
 go_wp2_with (first
  | (go_at_call 36; (with_reducible refine (HFI.out _ hv).mono ?_); rintro e w3 ⟨rfl, hq⟩; have hv := below_up hv hq; clear q0 q1 q2 q3 q4 q5 q6; obtain ⟨q0, q1, q2, q3, q4, q5, q6⟩ := HCL.out _ hv)
  | (go_at_call 96; (with_reducible refine (HGR.out _ hv).mono ?_); rintro e w4 ⟨L, A, ca, hG, rfl, hL, hq⟩; have hv3 := hv.size; have hv := below_up hv hq; clear q0 q1 q2 q3 q4 q5 q6; obtain ⟨N, hN⟩ : ∃ N, L.length = N := ⟨_, rfl⟩; rw [hN] at hL ⊢))
 have HGO := Lib.hid hG; have HLN := Lib.hid hN
 have hN8 : N ≤ 8000 := by rw [← hN]; exact HGL.out _ hG
 have HAV := Lib.hid hv
 have HRE : Hid (RowE St.eC w4 A L) := Lib.hid (RowE.ofV (E := St.eC) (ca := ca) (by rw [hN]; exact hL))
 clear hG hN hL hv hq
 go_loopg [8, 9, 21] N (fun gk fv lv i wr => ∃ (j : Nat) (f : Int), j ≤ N ∧ gk = N - j ∧ i = .int .i64 j ∧ fv = .int .i64 f ∧ 0 ≤ f ∧ f ≤ 1000000000000 + 1000000000 * (j : Int) ∧ St.run s.files bytes L f0 = (L.take j ++ (St.run s.files bytes (L.drop j) f).1, (St.run s.files bytes (L.drop j) f).2) ∧ wr.ownsRow w4.heap.size 52 4 lv ((L.take j).map (St.drop_ t.name)).length (St.eM.flat ((L.take j).map (St.drop_ t.name))) ∧ Below w4.heap.size w4 wr)
 case atStart => exact ⟨0, f0, by omega, rfl, rfl, rfl, hf0b.1, by omega, rfl, World.ownsRow_nil _ _ _ _, Below.refl _ _⟩
 case round =>
  obtain ⟨j, f, hj, rfl, rfl, rfl, hf1, hf2, hrun, hown, hB⟩ := hrel
  have HRUN := Lib.hid hrun
  by_cases hlt : j < N
  ·obtain ⟨x, hx⟩ : ∃ x, L[j]? = some x := ⟨_, List.getElem?_eq_getElem (by rw [HLN.out]; exact hlt)⟩
   obtain ⟨b, off, ha, hb, hcell⟩ := (HRE.out.keep hB) (by rw [HLN.out]; omega)
   have c0 : wr.cell? ⟨b, off + j * 4, none⟩ = some (.string x.dig) := hcell j x hx 0 (.string x.dig) rfl
   have c1 : wr.cell? ⟨b, off + j * 4 + 1, none⟩ = some (.string x.tier) := hcell j x hx 1 (.string x.tier) rfl
   have c2 : wr.cell? ⟨b, off + j * 4 + 2, none⟩ = some (.bool x.good) := hcell j x hx 2 (.bool x.good) rfl
   have c3 : wr.cell? ⟨b, off + j * 4 + 3, none⟩ = some (.int .i64 x.asked) := hcell j x hx 3 (.int .i64 x.asked) rfl
   clear hcell
   have hdr : L.drop j = x :: L.drop (j + 1) := by
    rw [List.drop_eq_getElem_cons (by rw [HLN.out]; exact hlt)]
    congr 1
    exact Option.some.inj ((List.getElem?_eq_getElem (by rw [HLN.out]; exact hlt)).symm.trans hx)
   have htk : L.take (j + 1) = L.take j ++ [x] := by rw [List.take_add_one, hx]; rfl
   obtain ⟨W3, hW3, hX3, hz3, hB3⟩ := box wr #[.string x.dig, .string x.tier, .bool x.good, .int .i64 x.asked] 74
   have HW3 := Lib.hid hW3
   have HAW := Lib.hid (below_up hB hB3)
   have HAV3 := Lib.hid (below_up HAV.out HAW.out)
   have HX : Hid (∀ V, Below W3.heap.size W3 V → V.cell? ⟨wr.heap.size, 0, none⟩ = some (.string x.dig) ∧ V.cell? ⟨wr.heap.size, 1, none⟩ = some (.string x.tier) ∧ V.cell? ⟨wr.heap.size, 2, none⟩ = some (.bool x.good) ∧ V.cell? ⟨wr.heap.size, 3, none⟩ = some (.int .i64 x.asked)) := Lib.hid fun V hv => (hX3.keep hv).four
   have hown3 := own_keepE hown hB3
   obtain ⟨fl, hf⟩ : ∃ fl, St.filD s.files x.dig = fl := ⟨_, rfl⟩
   obtain ⟨fb, hfb⟩ : ∃ fb, (St.fileOf s.files x.dig).isSome = fb := ⟨_, rfl⟩
   have HFF := Lib.hid (HFO.out x.dig _ HAV3.out)
   rw [hf, hfb] at HFF
   unfold St.fval at HFF
   have hfz : 0 ≤ fl.size ∧ fl.size ≤ 1000000000 := by rw [← hf, St.filD_size]; exact St.size_bd HSZ.out x.dig
   have hsz : St.sizeOf s.files x.dig = fl.size := by rw [← hf, St.filD_size]
   have HRN := Lib.hid (fun h : ¬ bytes ≤ f => (congrArg (fun l => St.run s.files bytes l f) hdr).trans (St.run_next h))
   rw [hsz] at HRN
   have HTK := Lib.hid htk
   have hj0 : (0 : Int) ≤ (j : Int) := by omega
   have hj1 : (j : Int) < (N : Int) := by omega
   have hj8 : (j : Int) ≤ 8000 := by omega
   obtain ⟨e0, e1, e2, e3⟩ := HX.out _ (Below.refl _ _)
   obtain ⟨n0, n1, n2, n3, n4, n5, n6⟩ := HCL.out _ HAV3.out
   obtain ⟨m, hm⟩ : ∃ m, ((L.take j).map (St.drop_ t.name)).length = m := ⟨_, rfl⟩
   have hm8 : m ≤ 8000 := by rw [← hm, List.length_map, List.length_take]; omega
   obtain ⟨FL, hFL⟩ : ∃ FL, St.eM.flat ((L.take j).map (St.drop_ t.name)) = FL := ⟨_, rfl⟩
   have HMF := Lib.hid (And.intro hm hFL)
   rw [hm, hFL] at hown3
   clear hx hB hX3 hz3 hB3 hW3 hown hdr htk hf hfb hrun hm hFL hsz
   rw [ha]
   by_cases hge : bytes ≤ f
   ·have hrun := HRUN.out
    rw [St.run_stop hge, List.append_nil] at hrun
    have HRU := Lib.hid hrun
    have HO := Lib.hid (ownsRow_down hown3 (show w.heap.size ≤ w4.heap.size by have := HS1.out; have := HAV.out.size; omega))
    obtain ⟨g, cap, rfl⟩ := ownV_slice (OwnV.of_own hown3)
    have HBZ := Lib.hid (below_up HB1.out HAV3.out)
    clear hown3 hrun HRUN
    have hgb : decide (bytes ≤ f) = true := decide_eq_true hge
    have hgt : (bytes ≤ f) = True := eq_true hge
    go_upto_region 6 with fail
    rw [HW3.out]
    clear c0 c1 c2 c3
    go_wp2_with fail
    go_ret2
    refine ⟨L.take j, true, g, cap, m, ⟨L, f, HGO.out, by rw [HF0.out]; exact HRU.out, by simp [hge]⟩, ?_, (by simp), ?_, HBZ.out⟩
    ·rw [← HMF.out.1, List.length_map]
    ·rw [HMF.out.2]; exact HO.out
   ·have hrun : St.run s.files bytes L f0 = (L.take (j + 1) ++ (St.run s.files bytes (L.drop (j + 1)) (f + fl.size)).1, (St.run s.files bytes (L.drop (j + 1)) (f + fl.size)).2) := by
     rw [HRUN.out, HRN.out hge, HTK.out, List.append_assoc]; rfl
    have HRU := Lib.hid hrun
    have HM1 : Hid (((L.take (j + 1)).map (St.drop_ t.name)).length = m + 1) := Lib.hid (by rw [HTK.out, List.map_append, List.length_append, HMF.out.1]; rfl)
    have HF1 : Hid (St.eM.flat ((L.take (j + 1)).map (St.drop_ t.name)) = FL ++ [.int .i64 2, .string x.dig, .string t.name, .string ByteArray.empty]) := Lib.hid (by rw [HTK.out, List.map_append, Enc.flat_append, HMF.out.2]; rfl)
    clear hrun HRUN
    have hgb : decide (bytes ≤ f) = false := decide_eq_false hge
    have hgt : (bytes ≤ f) = False := eq_false hge
    go_upto_region 6 with fail
    rw [HW3.out]
    clear c0 c1 c2 c3
    go_upto_region 8 with (go_at_call 76; (with_reducible refine HFF.out.mono ?_); rintro e w5 ⟨rfl, hB5⟩)
    obtain ⟨W6, hW6, hX6, hz6, hB6⟩ := box w5 #[.string fl.dig, .int .i64 fl.size, .int .i64 fl.kind, .string fl.frm] 30
    have HW6 := Lib.hid hW6
    have HB6 := Lib.hid (below_up hB5 hB6)
    have HA6 := Lib.hid (below_up HAW.out HB6.out)
    have hown6 := own_keepE hown3 HB6.out
    have hs6 := HA6.out.size
    obtain ⟨u0, u1, u2, u3⟩ := hX6.four
    rw [HW6.out]
    clear e0 e1 e2 e3 n0 n1 n2 n3 n4 n5 n6
    obtain ⟨e0, e1, e2, e3⟩ := HX.out _ HB6.out
    clear hW6 hX6 hz6 hB6 hB5
    go_wp2_with (at_builtin; refine list_appM rfl _ _ rfl _ _ m FL (by rfl) (by rfl) hown6 (by omega) (by omega) (by rfl) (by simp [Value.oneCell']) ?_; intro g8 cap8 w8 hown8 hgrow8; have hB8 := below_grownE (below_allocs HA6.out _) (hown6.alloc _) hgrow8 (by simp; omega))
    rw [← ha]
    go_roundg (N - (j + 1))
    case rel => exact ⟨j + 1, f + fl.size, by omega, rfl, by go_num, rfl, by omega, by omega, HRU.out, by rw [HM1.out, HF1.out]; exact hown8, hB8⟩
    case measure => omega
  ·obtain rfl : N = j := by omega
   have hrun := HRUN.out
   rw [← HLN.out, List.take_length, List.drop_length] at hrun
   rw [← HLN.out, List.take_length] at hown
   obtain ⟨mm, hmm⟩ : ∃ mm, (L.map (St.drop_ t.name)).length = mm := ⟨_, rfl⟩
   have HMM := Lib.hid hmm
   rw [hmm] at hown
   have HO := Lib.hid (ownsRow_down hown (show w.heap.size ≤ w4.heap.size by have := HS1.out; have := HAV.out.size; omega))
   obtain ⟨g, cap, rfl⟩ := ownV_slice (OwnV.of_own hown)
   have HRU := Lib.hid hrun
   have HBZ := Lib.hid (below_up HB1.out (below_up HAV.out hB))
   clear hown hrun hB HRUN hmm
   go_wp2_with fail
   go_ret2
   refine ⟨L, _, g, cap, mm, ⟨L, f, HGO.out, by rw [HF0.out]; exact HRU.out.trans (by rw [St.run, List.append_nil]), rfl⟩, by rw [← HMM.out, List.length_map], (by simp), HO.out, HBZ.out⟩
end Go.Proofs.YthdiccdnggloiaaGreatDoor

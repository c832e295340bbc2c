/- Parts of the proof, no condition: StGarL, StTlQ, StTlV. -/
import Derived.Test.YthdiccdnggloiaaGreatDoorEv16
import Derived.Test.YthdiccdnggloiaaGreatDoorEv17
import Derived.Test.YthdiccdnggloiaaGreatDoorTl1
set_option maxRecDepth 100000
set_option maxHeartbeats 8000000
set_option linter.unusedSimpArgs false
set_option linter.unusedVariables false
namespace Go.Proofs.YthdiccdnggloiaaGreatDoor
open Go.RowKit Go.Sort Go.Shelf Go.Maps
theorem garbage_is (s : Sto) (a : StA) (mb : Nat) (w : World) (hI : StIn w s a) (hM : FMap w mb s.files) (r : St.Right s) :
  Calls Tryz.prog 105 #[.agg #[.int .i64 s.least, .int .i64 s.wait, .slice a.ta s.tiers.length a.tc, .slice a.fa s.files.length a.fc, .slice a.ca s.copies.length a.cc, .slice a.ha s.held.length a.hc, .slice a.ba s.bin.length a.bc, .map (some mb)]] w (CopPost w (St.garbageL s)) := by
 obtain ⟨W1, hW1, hP, hz1, hB1⟩ := box w #[.int .i64 s.least, .int .i64 s.wait, .slice a.ta s.tiers.length a.tc, .slice a.fa s.files.length a.fc, .slice a.ca s.copies.length a.cc, .slice a.ha s.held.length a.hc, .slice a.ba s.bin.length a.bc, .map (some mb)] 135
 have HW1 := Lib.hid hW1; have HB1 := Lib.hid hB1
 obtain ⟨_, y1, y2, y3, y4, y5⟩ := St.sizes_iff.1 r.sizes
 have HGB := Lib.hid (fun c (hc : c ∈ s.copies) V (hv : Below W1.heap.size W1 V) => isGarbage_is s a mb c hc V ((hI.keep hB1).keep hv) ((hM.keep hB1).keep hv) r)
 have HI := Lib.hid hI
 have hcl := hI.cl
 have HCL : Hid (∀ V, Below W1.heap.size W1 V → V.cell? ⟨w.heap.size, 0, none⟩ = some (.int .i64 s.least) ∧ V.cell? ⟨w.heap.size, 1, none⟩ = some (.int .i64 s.wait) ∧ V.cell? ⟨w.heap.size, 2, none⟩ = some (.slice a.ta s.tiers.length a.tc) ∧ V.cell? ⟨w.heap.size, 3, none⟩ = some (.slice a.fa s.files.length a.fc) ∧ V.cell? ⟨w.heap.size, 4, none⟩ = some (.slice a.ca s.copies.length a.cc) ∧ V.cell? ⟨w.heap.size, 5, none⟩ = some (.slice a.ha s.held.length a.hc) ∧ V.cell? ⟨w.heap.size, 6, none⟩ = some (.slice a.ba s.bin.length a.bc) ∧ V.cell? ⟨w.heap.size, 7, none⟩ = some (.map (some mb))) := Lib.hid fun V hv => (hP.keep hv).eight
 have HGL : Hid (St.garbageL s = s.copies.filter (St.garbage s)) := Lib.hid rfl
 obtain ⟨m0, m1, m2, m3, m4, m5, m6, m7⟩ := HCL.out _ (Below.refl _ _)
 have HS1 := Lib.hid hz1
 clear hI hM r hW1 hP hz1 hB1 m0 m1 m2 m3 m5 m6 m7 y1 y2 y4 y5
 obtain ⟨nc, hnc⟩ : ∃ nc, s.copies.length = nc := ⟨_, rfl⟩
 have HNC := Lib.hid hnc
 rw [hnc] at hcl y3 HCL m4 HW1 HGB ⊢
 clear hnc
 go_enter Tryz.func105, Tryz.ntmps105
 go_wp2_with fail
 rw [HW1.out]
 go_wp2_with fail
 clear m4
 go_loopg [3, 10] nc (fun gk v i wr => ∃ j : Nat, j ≤ nc ∧ gk = nc - j ∧ i = .int .i64 j ∧ wr.ownsRow W1.heap.size 74 4 v ((s.copies.take j).filter (St.garbage s)).length (St.eC.flat ((s.copies.take j).filter (St.garbage s))) ∧ Below W1.heap.size W1 wr)
 case atStart => exact ⟨0, by omega, rfl, rfl, World.ownsRow_nil _ _ _ _, Below.refl _ _⟩
 case round =>
  obtain ⟨j, hj, rfl, rfl, hown, hB⟩ := hrel
  by_cases hlt : j < nc
  ·obtain ⟨x, hx⟩ : ∃ x, s.copies[j]? = some x := ⟨_, List.getElem?_eq_getElem (by rw [HNC.out]; exact hlt)⟩
   obtain ⟨b, off, ha, hb, hcell⟩ := ((HI.out.keep (below_up HB1.out hB)).co) (by rw [HNC.out]; omega)
   have c0 : wr.cell? ⟨b, off + j * 4, none⟩ = some (.string x.dig) := hcell j x hx 0 (.string x.dig) rfl
   have c1 : wr.cell? ⟨b, off + j * 4 + 1, none⟩ = some (.string x.tier) := hcell j x hx 1 (.string x.tier) rfl
   have c2 : wr.cell? ⟨b, off + j * 4 + 2, none⟩ = some (.bool x.good) := hcell j x hx 2 (.bool x.good) rfl
   have c3 : wr.cell? ⟨b, off + j * 4 + 3, none⟩ = some (.int .i64 x.asked) := hcell j x hx 3 (.int .i64 x.asked) rfl
   clear hcell
   have hft := St.filter_take (p := St.garbage s) hx
   have hfl := St.filter_len (p := St.garbage s) (L := s.copies) j
   rw [HNC.out] at hfl
   have hmem := List.mem_of_getElem? hx
   obtain ⟨W3, hW3, hX3, hz3, hB3⟩ := box wr #[.string x.dig, .string x.tier, .bool x.good, .int .i64 x.asked] 74
   have HW3 := Lib.hid hW3
   have HAW := Lib.hid (below_up hB hB3)
   have hown3 := own_keepE hown hB3
   have HX : Hid (∀ V, Below W3.heap.size W3 V → V.cell? ⟨wr.heap.size, 0, none⟩ = some (.string x.dig) ∧ V.cell? ⟨wr.heap.size, 1, none⟩ = some (.string x.tier) ∧ V.cell? ⟨wr.heap.size, 2, none⟩ = some (.bool x.good) ∧ V.cell? ⟨wr.heap.size, 3, none⟩ = some (.int .i64 x.asked)) := Lib.hid fun V hv => (hX3.keep hv).four
   have HGX := Lib.hid (HGB.out x hmem)
   have hj0 : (0 : Int) ≤ (j : Int) := by omega
   have hj1 : (j : Int) < (nc : Int) := by omega
   have HFT := Lib.hid hft
   generalize ((s.copies.take j).filter (St.garbage s)) = G at *
   generalize hgd : St.garbage s x = gd at *
   have hv : Below W3.heap.size W3 W3 := Below.refl _ _
   obtain ⟨e0, e1, e2, e3⟩ := HX.out _ hv
   obtain ⟨n0, n1, n2, n3, n4, n5, n6, n7⟩ := HCL.out _ (below_up HAW.out hv)
   have HOW := Lib.hid hown3
   clear hx hB hX3 hz3 hB3 hW3 hown hown3 hft hmem HGB hgd
   rw [ha] at HGX HCL n4 ⊢
   go_upto_region 5 with fail
   rw [HW3.out]
   clear c0 c1 c2 c3
   cases gd
   ·go_wp2_with (go_at_call 165; (with_reducible refine (HGX.out _ (below_up HAW.out hv)).mono ?_); rintro e w5 ⟨rfl, hq⟩; have hv := below_up hv hq; obtain ⟨e0, e1, e2, e3⟩ := HX.out _ hv)
    rw [← ha]
    go_roundg (nc - (j + 1))
    case rel => exact ⟨j + 1, by omega, rfl, by go_num, by rw [HFT.out, if_neg (by decide), List.append_nil]; exact own_keepE HOW.out hv, below_up HAW.out hv⟩
    case measure => omega
   ·obtain ⟨FL, hFL⟩ : ∃ FL, St.eC.flat G = FL := ⟨_, rfl⟩
    obtain ⟨m, hm⟩ : ∃ m, G.length = m := ⟨_, rfl⟩
    have HFL : Hid (St.eC.flat (G ++ [x]) = FL ++ [.string x.dig, .string x.tier, .bool x.good, .int .i64 x.asked]) := Lib.hid (by rw [Enc.flat_snoc, hFL]; rfl)
    have HM : Hid ((G ++ [x]).length = m + 1) := Lib.hid (by rw [List.length_append, hm]; rfl)
    have HOX := HOW
    rw [hFL, hm] at HOX
    rw [hm] at hfl
    clear hFL hm HOW
    go_wp2_with (first
     | (go_at_call 165; (with_reducible refine (HGX.out _ (below_up HAW.out hv)).mono ?_); rintro e w5 ⟨rfl, hq⟩; have hv := below_up hv hq; obtain ⟨e0, e1, e2, e3⟩ := HX.out _ hv; have hownp := own_keepE HOX.out hv; have hBp := below_up HAW.out hv; have hvs := hBp.size)
     | (at_builtin; go_loud (refine list_appC rfl _ _ rfl _ _ m FL (by rfl) (by rfl) hownp (by omega) (by omega) (by rfl) (by simp [Value.oneCell']) ?_; intro g8 cap8 w8 hown8 hgrow8; have hB8 := below_grownE (below_allocs hBp _) (hownp.alloc _) hgrow8 (by simp; omega))))
    rw [← ha]
    go_roundg (nc - (j + 1))
    case rel => exact ⟨j + 1, by omega, rfl, by go_num, by rw [HFT.out, if_pos (by first | rfl | trivial), HFL.out, HM.out]; exact hown8, hB8⟩
    case measure => omega
  ·obtain rfl : nc = j := by omega
   rw [← HNC.out, List.take_length, ← HGL.out] at hown
   have HO := Lib.hid ((OwnV.of_own hown).down (show w.heap.size ≤ W1.heap.size by have := HS1.out; omega))
   obtain ⟨g, cap, rfl⟩ := ownV_slice (OwnV.of_own hown)
   obtain ⟨l1, l2⟩ := HO.out.caps
   clear hown
   go_wp2_with (go_at_call 138; (with_reducible refine (clnC_clip _ _ _ _ l1 l2).mono ?_); rintro e wc ⟨rfl, rfl⟩)
   go_ret
   exact ⟨g, _, rfl, HO.out.clip, below_up HB1.out hB⟩
namespace St
theorem filD_of {s : Sto} (r : Right s) {f : Fil} (hf : f ∈ s.files) : filD s.files f.dig = f := by
 unfold filD
 cases hq : fileOf s.files f.dig with
 | none =>
   have := List.find?_eq_none.1 hq f hf
   simp at this
   exact absurd (eq_iff.2 rfl) (by rw [this]; decide)
 | some g =>
   obtain ⟨h1, h2⟩ := find_mem hq
   exact r.fup.one h1 hf (eq_iff.1 h2)
theorem neededD_of {s : Sto} (r : Right s) {f : Fil} (hf : f ∈ s.files) : neededD s f.dig = needed s f := by
 unfold neededD; rw [filD_of r hf]
end St
def DigPost (w : World) (L : List ByteArray) (e : Ending) (w' : World) : Prop := ∃ g cap, e = .returned (.slice g L.length cap) ∧ OwnV w' w.heap.size 9 1 (.slice g L.length cap) L.length (St.eS.flat L) ∧ Below w.heap.size w w'
theorem allNeeded_is (s : Sto) (a : StA) (mb : Nat) (w : World) (hI : StIn w s a) (hM : FMap w mb s.files) (r : St.Right s) :
  Calls Tryz.prog 99 #[.agg #[.int .i64 s.least, .int .i64 s.wait, .slice a.ta s.tiers.length a.tc, .slice a.fa s.files.length a.fc, .slice a.ca s.copies.length a.cc, .slice a.ha s.held.length a.hc, .slice a.ba s.bin.length a.bc, .map (some mb)]] w (DigPost w (St.neededL s)) := by
 obtain ⟨W1, hW1, hP, hz1, hB1⟩ := box w #[.int .i64 s.least, .int .i64 s.wait, .slice a.ta s.tiers.length a.tc, .slice a.fa s.files.length a.fc, .slice a.ca s.copies.length a.cc, .slice a.ha s.held.length a.hc, .slice a.ba s.bin.length a.bc, .map (some mb)] 135
 have HW1 := Lib.hid hW1; have HB1 := Lib.hid hB1
 obtain ⟨_, y1, y2, y3, y4, y5⟩ := St.sizes_iff.1 r.sizes
 have HGB : Hid (∀ f ∈ s.files, ∀ V, Below W1.heap.size W1 V → Calls Tryz.prog 171 #[.agg #[.int .i64 s.least, .int .i64 s.wait, .slice a.ta s.tiers.length a.tc, .slice a.fa s.files.length a.fc, .slice a.ca s.copies.length a.cc, .slice a.ha s.held.length a.hc, .slice a.ba s.bin.length a.bc, .map (some mb)], .string f.dig] V fun e w' => e = .returned (.bool (St.needed s f)) ∧ Below V.heap.size V w') := Lib.hid fun f hf V hv => by
  have h16 := St.dig16 (r.dig f hf).1
  have := needed_is s a mb f.dig V ((hI.keep hB1).keep hv) ((hM.keep hB1).keep hv) r (by omega)
  rwa [St.neededD_of r hf] at this
 have HI := Lib.hid hI
 have hfl0 := hI.fl
 have HCL : Hid (∀ V, Below W1.heap.size W1 V → V.cell? ⟨w.heap.size, 0, none⟩ = some (.int .i64 s.least) ∧ V.cell? ⟨w.heap.size, 1, none⟩ = some (.int .i64 s.wait) ∧ V.cell? ⟨w.heap.size, 2, none⟩ = some (.slice a.ta s.tiers.length a.tc) ∧ V.cell? ⟨w.heap.size, 3, none⟩ = some (.slice a.fa s.files.length a.fc) ∧ V.cell? ⟨w.heap.size, 4, none⟩ = some (.slice a.ca s.copies.length a.cc) ∧ V.cell? ⟨w.heap.size, 5, none⟩ = some (.slice a.ha s.held.length a.hc) ∧ V.cell? ⟨w.heap.size, 6, none⟩ = some (.slice a.ba s.bin.length a.bc) ∧ V.cell? ⟨w.heap.size, 7, none⟩ = some (.map (some mb))) := Lib.hid fun V hv => (hP.keep hv).eight
 have HGL : Hid (St.neededL s = (s.files.filter (St.needed s)).map (·.dig)) := Lib.hid rfl
 obtain ⟨m0, m1, m2, m3, m4, m5, m6, m7⟩ := HCL.out _ (Below.refl _ _)
 have HS1 := Lib.hid hz1
 clear hI hM r hW1 hP hz1 hB1 m0 m1 m2 m4 m5 m6 m7 y1 y3 y4 y5
 obtain ⟨nf, hnf⟩ : ∃ nf, s.files.length = nf := ⟨_, rfl⟩
 have HNF := Lib.hid hnf
 rw [hnf] at hfl0 y2 HCL m3 HW1 HGB ⊢
 clear hnf
 go_enter Tryz.func99, Tryz.ntmps99
 go_wp2_with fail
 rw [HW1.out]
 go_wp2_with fail
 clear m3
 go_loopg [3, 10] nf (fun gk v i wr => ∃ j : Nat, j ≤ nf ∧ gk = nf - j ∧ i = .int .i64 j ∧ wr.ownsRow W1.heap.size 9 1 v (((s.files.take j).filter (St.needed s)).map (·.dig)).length (St.eS.flat (((s.files.take j).filter (St.needed s)).map (·.dig))) ∧ Below W1.heap.size W1 wr)
 case atStart => exact ⟨0, by omega, rfl, rfl, World.ownsRow_nil _ _ _ _, Below.refl _ _⟩
 case round =>
  obtain ⟨j, hj, rfl, rfl, hown, hB⟩ := hrel
  by_cases hlt : j < nf
  ·obtain ⟨x, hx⟩ : ∃ x, s.files[j]? = some x := ⟨_, List.getElem?_eq_getElem (by rw [HNF.out]; exact hlt)⟩
   obtain ⟨b, off, ha, hb, hcell⟩ := ((HI.out.keep (below_up HB1.out hB)).fi) (by rw [HNF.out]; omega)
   have c0 : wr.cell? ⟨b, off + j * 4, none⟩ = some (.string x.dig) := hcell j x hx 0 (.string x.dig) rfl
   have c1 : wr.cell? ⟨b, off + j * 4 + 1, none⟩ = some (.int .i64 x.size) := hcell j x hx 1 (.int .i64 x.size) rfl
   have c2 : wr.cell? ⟨b, off + j * 4 + 2, none⟩ = some (.int .i64 x.kind) := hcell j x hx 2 (.int .i64 x.kind) rfl
   have c3 : wr.cell? ⟨b, off + j * 4 + 3, none⟩ = some (.string x.frm) := hcell j x hx 3 (.string x.frm) rfl
   clear hcell
   have hft := congrArg (List.map (·.dig)) (St.filter_take (p := St.needed s) hx)
   rw [List.map_append] at hft
   have hfl : (((s.files.take j).filter (St.needed s)).map (·.dig)).length ≤ s.files.length := by rw [List.length_map]; exact St.filter_len (p := St.needed s) (L := s.files) j
   rw [HNF.out] at hfl
   have hmem := List.mem_of_getElem? hx
   obtain ⟨W3, hW3, hX3, hz3, hB3⟩ := box wr #[.string x.dig, .int .i64 x.size, .int .i64 x.kind, .string x.frm] 30
   have HW3 := Lib.hid hW3
   have HAW := Lib.hid (below_up hB hB3)
   have hown3 := own_keepE hown hB3
   have HX : Hid (∀ V, Below W3.heap.size W3 V → V.cell? ⟨wr.heap.size, 0, none⟩ = some (.string x.dig) ∧ V.cell? ⟨wr.heap.size, 1, none⟩ = some (.int .i64 x.size) ∧ V.cell? ⟨wr.heap.size, 2, none⟩ = some (.int .i64 x.kind) ∧ V.cell? ⟨wr.heap.size, 3, none⟩ = some (.string x.frm)) := Lib.hid fun V hv => (hX3.keep hv).four
   have HGX := Lib.hid (HGB.out x hmem)
   have hj0 : (0 : Int) ≤ (j : Int) := by omega
   have hj1 : (j : Int) < (nf : Int) := by omega
   have HFT := Lib.hid hft
   generalize (((s.files.take j).filter (St.needed s)).map (·.dig)) = G at *
   generalize hgd : St.needed s x = gd at *
   have hv : Below W3.heap.size W3 W3 := Below.refl _ _
   obtain ⟨e0, e1, e2, e3⟩ := HX.out _ hv
   obtain ⟨n0, n1, n2, n3, n4, n5, n6, n7⟩ := HCL.out _ (below_up HAW.out hv)
   have HOW := Lib.hid hown3
   clear hx hB hX3 hz3 hB3 hW3 hown hown3 hft hmem HGB hgd
   rw [ha] at HGX HCL n3 ⊢
   go_upto_region 5 with fail
   rw [HW3.out]
   clear c0 c1 c2 c3
   cases gd
   ·go_wp2_with (go_at_call 171; (with_reducible refine (HGX.out _ (below_up HAW.out hv)).mono ?_); rintro e w5 ⟨rfl, hq⟩; have hv := below_up hv hq; obtain ⟨e0, e1, e2, e3⟩ := HX.out _ hv)
    rw [← ha]
    go_roundg (nf - (j + 1))
    case rel => exact ⟨j + 1, by omega, rfl, by go_num, by rw [HFT.out, if_neg (by decide), List.map_nil, List.append_nil]; exact own_keepE HOW.out hv, below_up HAW.out hv⟩
    case measure => omega
   ·obtain ⟨FL, hFL⟩ : ∃ FL, St.eS.flat G = FL := ⟨_, rfl⟩
    obtain ⟨m, hm⟩ : ∃ m, G.length = m := ⟨_, rfl⟩
    have HFL : Hid (St.eS.flat (G ++ [x.dig]) = FL ++ [.string x.dig]) := Lib.hid (by rw [Enc.flat_snoc, hFL]; rfl)
    have HM : Hid ((G ++ [x.dig]).length = m + 1) := Lib.hid (by rw [List.length_append, hm]; rfl)
    have HOX := HOW
    rw [hFL, hm] at HOX
    rw [hm] at hfl
    clear hFL hm HOW
    go_wp2_with (first
     | (go_at_call 171; (with_reducible refine (HGX.out _ (below_up HAW.out hv)).mono ?_); rintro e w5 ⟨rfl, hq⟩; have hv := below_up hv hq; obtain ⟨e0, e1, e2, e3⟩ := HX.out _ hv; have hownp := own_keepE HOX.out hv; have hBp := below_up HAW.out hv; have hvs := hBp.size)
     | (at_builtin; refine list_appS rfl _ _ rfl _ _ m FL (by rfl) (by rfl) hownp (by omega) (by omega) (by rfl) (by simp [Value.oneCell']) ?_; intro g8 cap8 w8 hown8 hgrow8; have hB8 := below_grownE (below_allocs hBp _) (hownp.alloc _) hgrow8 (by simp; omega)))
    rw [← ha]
    go_roundg (nf - (j + 1))
    case rel => exact ⟨j + 1, by omega, rfl, by go_num, by rw [HFT.out, if_pos (by first | rfl | trivial), List.map_cons, List.map_nil, HFL.out, HM.out]; exact hown8, hB8⟩
    case measure => omega
  ·obtain rfl : nf = j := by omega
   rw [← HNF.out, List.take_length, ← HGL.out] at hown
   have HO := Lib.hid ((OwnV.of_own hown).down (show w.heap.size ≤ W1.heap.size by have := HS1.out; omega))
   obtain ⟨g, cap, rfl⟩ := ownV_slice (OwnV.of_own hown)
   obtain ⟨l1, l2⟩ := HO.out.caps
   clear hown
   go_wp2_with (go_at_call 104; (with_reducible refine (clnS_clip _ _ _ _ l1 l2).mono ?_); rintro e wc ⟨rfl, rfl⟩)
   go_ret
   exact ⟨g, _, rfl, HO.out.clip, below_up HB1.out hB⟩
def TlErr (w : World) (q : Int) (e : Ending) (w' : World) : Prop := e = .returned (.tuple #[.slice none 0 0, .int .i64 q]) ∧ Below w.heap.size w w'
def TlOk {α : Type} (E : Enc α) (w : World) (L : List α) (e : Ending) (w' : World) : Prop := ∃ g cap, e = .returned (.tuple #[.slice g L.length cap, .int .i64 0]) ∧ RowE E w' g L ∧ L.length ≤ cap ∧ cap ≤ 9223372036854775807 ∧ Below w.heap.size w w'
theorem needS_err (s : Sto) (a : StA) (w : World) (hI : StIn w s a) (he : St.err s ≠ 0) : Calls Tryz.prog 26 #[.agg #[.int .i64 s.least, .int .i64 s.wait, .slice a.ta s.tiers.length a.tc, .slice a.fa s.files.length a.fc, .slice a.ca s.copies.length a.cc, .slice a.ha s.held.length a.hc, .slice a.ba s.bin.length a.bc]] w (TlErr w (St.err s)) := by
 obtain ⟨W1, hW1, hP, hz1, hB1⟩ := box w #[.int .i64 s.least, .int .i64 s.wait, .slice a.ta s.tiers.length a.tc, .slice a.fa s.files.length a.fc, .slice a.ca s.copies.length a.cc, .slice a.ha s.held.length a.hc, .slice a.ba s.bin.length a.bc] 28
 have HW1 := Lib.hid hW1
 have HI1 := Lib.hid (hI.keep hB1)
 have q0 : W1.cell? ⟨w.heap.size, 0, none⟩ = some (.int .i64 s.least) := (hP.cell 0).trans rfl
 have q1 : W1.cell? ⟨w.heap.size, 1, none⟩ = some (.int .i64 s.wait) := (hP.cell 1).trans rfl
 have q2 : W1.cell? ⟨w.heap.size, 2, none⟩ = some (.slice a.ta s.tiers.length a.tc) := (hP.cell 2).trans rfl
 have q3 : W1.cell? ⟨w.heap.size, 3, none⟩ = some (.slice a.fa s.files.length a.fc) := (hP.cell 3).trans rfl
 have q4 : W1.cell? ⟨w.heap.size, 4, none⟩ = some (.slice a.ca s.copies.length a.cc) := (hP.cell 4).trans rfl
 have q5 : W1.cell? ⟨w.heap.size, 5, none⟩ = some (.slice a.ha s.held.length a.hc) := (hP.cell 5).trans rfl
 have q6 : W1.cell? ⟨w.heap.size, 6, none⟩ = some (.slice a.ba s.bin.length a.bc) := (hP.cell 6).trans rfl
 have HP := Lib.hid hP; have HB1 := Lib.hid hB1
 clear hW1 hP
 have HCK := Lib.hid (check_is s a W1 HI1.out)
 have hq1 : (St.err s != 0) = true := by simpa using he
 generalize St.err s = q at *
 clear hI he hz1
 go_enter Tryz.func26, Tryz.ntmps26
 go_upto_region 1 with fail
 rw [HW1.out]
 go_wp2_with (go_at_call 32; (with_reducible refine HCK.out.mono ?_); rintro e w3 ⟨rfl, hB3⟩)
 go_ret2
 exact ⟨rfl, below_up HB1.out hB3⟩
theorem shortS_err (s : Sto) (a : StA) (w : World) (hI : StIn w s a) (he : St.err s ≠ 0) : Calls Tryz.prog 27 #[.agg #[.int .i64 s.least, .int .i64 s.wait, .slice a.ta s.tiers.length a.tc, .slice a.fa s.files.length a.fc, .slice a.ca s.copies.length a.cc, .slice a.ha s.held.length a.hc, .slice a.ba s.bin.length a.bc]] w (TlErr w (St.err s)) := by
 obtain ⟨W1, hW1, hP, hz1, hB1⟩ := box w #[.int .i64 s.least, .int .i64 s.wait, .slice a.ta s.tiers.length a.tc, .slice a.fa s.files.length a.fc, .slice a.ca s.copies.length a.cc, .slice a.ha s.held.length a.hc, .slice a.ba s.bin.length a.bc] 28
 have HW1 := Lib.hid hW1
 have HI1 := Lib.hid (hI.keep hB1)
 have q0 : W1.cell? ⟨w.heap.size, 0, none⟩ = some (.int .i64 s.least) := (hP.cell 0).trans rfl
 have q1 : W1.cell? ⟨w.heap.size, 1, none⟩ = some (.int .i64 s.wait) := (hP.cell 1).trans rfl
 have q2 : W1.cell? ⟨w.heap.size, 2, none⟩ = some (.slice a.ta s.tiers.length a.tc) := (hP.cell 2).trans rfl
 have q3 : W1.cell? ⟨w.heap.size, 3, none⟩ = some (.slice a.fa s.files.length a.fc) := (hP.cell 3).trans rfl
 have q4 : W1.cell? ⟨w.heap.size, 4, none⟩ = some (.slice a.ca s.copies.length a.cc) := (hP.cell 4).trans rfl
 have q5 : W1.cell? ⟨w.heap.size, 5, none⟩ = some (.slice a.ha s.held.length a.hc) := (hP.cell 5).trans rfl
 have q6 : W1.cell? ⟨w.heap.size, 6, none⟩ = some (.slice a.ba s.bin.length a.bc) := (hP.cell 6).trans rfl
 have HP := Lib.hid hP; have HB1 := Lib.hid hB1
 clear hW1 hP
 have HCK := Lib.hid (check_is s a W1 HI1.out)
 have hq1 : (St.err s != 0) = true := by simpa using he
 generalize St.err s = q at *
 clear hI he hz1
 go_enter Tryz.func27, Tryz.ntmps27
 go_upto_region 1 with fail
 rw [HW1.out]
 go_wp2_with (go_at_call 32; (with_reducible refine HCK.out.mono ?_); rintro e w3 ⟨rfl, hB3⟩)
 go_ret2
 exact ⟨rfl, below_up HB1.out hB3⟩
theorem lostS_err (s : Sto) (a : StA) (w : World) (hI : StIn w s a) (he : St.err s ≠ 0) : Calls Tryz.prog 28 #[.agg #[.int .i64 s.least, .int .i64 s.wait, .slice a.ta s.tiers.length a.tc, .slice a.fa s.files.length a.fc, .slice a.ca s.copies.length a.cc, .slice a.ha s.held.length a.hc, .slice a.ba s.bin.length a.bc]] w (TlErr w (St.err s)) := by
 obtain ⟨W1, hW1, hP, hz1, hB1⟩ := box w #[.int .i64 s.least, .int .i64 s.wait, .slice a.ta s.tiers.length a.tc, .slice a.fa s.files.length a.fc, .slice a.ca s.copies.length a.cc, .slice a.ha s.held.length a.hc, .slice a.ba s.bin.length a.bc] 28
 have HW1 := Lib.hid hW1
 have HI1 := Lib.hid (hI.keep hB1)
 have q0 : W1.cell? ⟨w.heap.size, 0, none⟩ = some (.int .i64 s.least) := (hP.cell 0).trans rfl
 have q1 : W1.cell? ⟨w.heap.size, 1, none⟩ = some (.int .i64 s.wait) := (hP.cell 1).trans rfl
 have q2 : W1.cell? ⟨w.heap.size, 2, none⟩ = some (.slice a.ta s.tiers.length a.tc) := (hP.cell 2).trans rfl
 have q3 : W1.cell? ⟨w.heap.size, 3, none⟩ = some (.slice a.fa s.files.length a.fc) := (hP.cell 3).trans rfl
 have q4 : W1.cell? ⟨w.heap.size, 4, none⟩ = some (.slice a.ca s.copies.length a.cc) := (hP.cell 4).trans rfl
 have q5 : W1.cell? ⟨w.heap.size, 5, none⟩ = some (.slice a.ha s.held.length a.hc) := (hP.cell 5).trans rfl
 have q6 : W1.cell? ⟨w.heap.size, 6, none⟩ = some (.slice a.ba s.bin.length a.bc) := (hP.cell 6).trans rfl
 have HP := Lib.hid hP; have HB1 := Lib.hid hB1
 clear hW1 hP
 have HCK := Lib.hid (check_is s a W1 HI1.out)
 have hq1 : (St.err s != 0) = true := by simpa using he
 generalize St.err s = q at *
 clear hI he hz1
 go_enter Tryz.func28, Tryz.ntmps28
 go_upto_region 1 with fail
 rw [HW1.out]
 go_wp2_with (go_at_call 32; (with_reducible refine HCK.out.mono ?_); rintro e w3 ⟨rfl, hB3⟩)
 go_ret2
 exact ⟨rfl, below_up HB1.out hB3⟩
theorem garbS_err (s : Sto) (a : StA) (w : World) (hI : StIn w s a) (he : St.err s ≠ 0) : Calls Tryz.prog 29 #[.agg #[.int .i64 s.least, .int .i64 s.wait, .slice a.ta s.tiers.length a.tc, .slice a.fa s.files.length a.fc, .slice a.ca s.copies.length a.cc, .slice a.ha s.held.length a.hc, .slice a.ba s.bin.length a.bc]] w (TlErr w (St.err s)) := by
 obtain ⟨W1, hW1, hP, hz1, hB1⟩ := box w #[.int .i64 s.least, .int .i64 s.wait, .slice a.ta s.tiers.length a.tc, .slice a.fa s.files.length a.fc, .slice a.ca s.copies.length a.cc, .slice a.ha s.held.length a.hc, .slice a.ba s.bin.length a.bc] 28
 have HW1 := Lib.hid hW1
 have HI1 := Lib.hid (hI.keep hB1)
 have q0 : W1.cell? ⟨w.heap.size, 0, none⟩ = some (.int .i64 s.least) := (hP.cell 0).trans rfl
 have q1 : W1.cell? ⟨w.heap.size, 1, none⟩ = some (.int .i64 s.wait) := (hP.cell 1).trans rfl
 have q2 : W1.cell? ⟨w.heap.size, 2, none⟩ = some (.slice a.ta s.tiers.length a.tc) := (hP.cell 2).trans rfl
 have q3 : W1.cell? ⟨w.heap.size, 3, none⟩ = some (.slice a.fa s.files.length a.fc) := (hP.cell 3).trans rfl
 have q4 : W1.cell? ⟨w.heap.size, 4, none⟩ = some (.slice a.ca s.copies.length a.cc) := (hP.cell 4).trans rfl
 have q5 : W1.cell? ⟨w.heap.size, 5, none⟩ = some (.slice a.ha s.held.length a.hc) := (hP.cell 5).trans rfl
 have q6 : W1.cell? ⟨w.heap.size, 6, none⟩ = some (.slice a.ba s.bin.length a.bc) := (hP.cell 6).trans rfl
 have HP := Lib.hid hP; have HB1 := Lib.hid hB1
 clear hW1 hP
 have HCK := Lib.hid (check_is s a W1 HI1.out)
 have hq1 : (St.err s != 0) = true := by simpa using he
 generalize St.err s = q at *
 clear hI he hz1
 go_enter Tryz.func29, Tryz.ntmps29
 go_upto_region 1 with fail
 rw [HW1.out]
 go_wp2_with (go_at_call 32; (with_reducible refine HCK.out.mono ?_); rintro e w3 ⟨rfl, hB3⟩)
 go_ret2
 exact ⟨rfl, below_up HB1.out hB3⟩
theorem needS_ok (s : Sto) (a : StA) (w : World) (hI : StIn w s a) (r : St.Right s) : Calls Tryz.prog 26 #[.agg #[.int .i64 s.least, .int .i64 s.wait, .slice a.ta s.tiers.length a.tc, .slice a.fa s.files.length a.fc, .slice a.ca s.copies.length a.cc, .slice a.ha s.held.length a.hc, .slice a.ba s.bin.length a.bc]] w (TlOk St.eS w (St.neededL s)) := by
 obtain ⟨W1, hW1, hP, hz1, hB1⟩ := box w #[.int .i64 s.least, .int .i64 s.wait, .slice a.ta s.tiers.length a.tc, .slice a.fa s.files.length a.fc, .slice a.ca s.copies.length a.cc, .slice a.ha s.held.length a.hc, .slice a.ba s.bin.length a.bc] 28
 have HW1 := Lib.hid hW1
 have HI1 := Lib.hid (hI.keep hB1)
 have q0 : W1.cell? ⟨w.heap.size, 0, none⟩ = some (.int .i64 s.least) := (hP.cell 0).trans rfl
 have q1 : W1.cell? ⟨w.heap.size, 1, none⟩ = some (.int .i64 s.wait) := (hP.cell 1).trans rfl
 have q2 : W1.cell? ⟨w.heap.size, 2, none⟩ = some (.slice a.ta s.tiers.length a.tc) := (hP.cell 2).trans rfl
 have q3 : W1.cell? ⟨w.heap.size, 3, none⟩ = some (.slice a.fa s.files.length a.fc) := (hP.cell 3).trans rfl
 have q4 : W1.cell? ⟨w.heap.size, 4, none⟩ = some (.slice a.ca s.copies.length a.cc) := (hP.cell 4).trans rfl
 have q5 : W1.cell? ⟨w.heap.size, 5, none⟩ = some (.slice a.ha s.held.length a.hc) := (hP.cell 5).trans rfl
 have q6 : W1.cell? ⟨w.heap.size, 6, none⟩ = some (.slice a.ba s.bin.length a.bc) := (hP.cell 6).trans rfl
 have HP := Lib.hid hP; have HB1 := Lib.hid hB1
 clear hW1 hP
 obtain ⟨_, y1, y2, y3, y4, y5⟩ := St.sizes_iff.1 r.sizes
 have HCK := Lib.hid (check_is s a W1 HI1.out)
 rw [St.err_iff.2 r] at HCK
 have HLK := Lib.hid (fun V (hv : Below W1.heap.size W1 V) => look_is s a V (HI1.out.keep hv) (by omega))
 have HCL : Hid (∀ W, Below W1.heap.size W1 W → W.cell? ⟨w.heap.size, 0, none⟩ = some (.int .i64 s.least) ∧ W.cell? ⟨w.heap.size, 1, none⟩ = some (.int .i64 s.wait) ∧ W.cell? ⟨w.heap.size, 2, none⟩ = some (.slice a.ta s.tiers.length a.tc) ∧ W.cell? ⟨w.heap.size, 3, none⟩ = some (.slice a.fa s.files.length a.fc) ∧ W.cell? ⟨w.heap.size, 4, none⟩ = some (.slice a.ca s.copies.length a.cc) ∧ W.cell? ⟨w.heap.size, 5, none⟩ = some (.slice a.ha s.held.length a.hc) ∧ W.cell? ⟨w.heap.size, 6, none⟩ = some (.slice a.ba s.bin.length a.bc)) := Lib.hid fun W hb => (HP.out.keep hb).seven
 have HAN := Lib.hid (fun mb V (hv : Below W1.heap.size W1 V) (hM : FMap V mb s.files) => allNeeded_is s a mb V (HI1.out.keep hv) hM r)
 unfold DigPost at HAN
 clear hI r hz1 y1 y2 y3 y4 y5
 go_enter Tryz.func26, Tryz.ntmps26
 go_upto_region 1 with fail
 rw [HW1.out]
 go_wp2_with (first
  | (go_at_call 32; (with_reducible refine HCK.out.mono ?_); rintro e w3 ⟨rfl, hv⟩; obtain ⟨q0, q1, q2, q3, q4, q5, q6⟩ := HCL.out _ hv)
  | (go_at_call 93; (with_reducible refine (HLK.out _ hv).mono ?_); rintro e w4 ⟨mb, rfl, hmb, hM, hq⟩; have hv := below_up hv hq)
  | (go_at_call 99; (with_reducible refine (HAN.out mb _ hv hM).mono ?_); rintro e w5 ⟨g, cap, rfl, ho, hq⟩; have hv := below_up hv hq))
 go_ret2
 exact ⟨g, cap, rfl, RowE.ofV (E := St.eS) (ca := cap) ho, ho.caps.1, ho.caps.2, below_up HB1.out hv⟩
theorem garbS_ok (s : Sto) (a : StA) (w : World) (hI : StIn w s a) (r : St.Right s) : Calls Tryz.prog 29 #[.agg #[.int .i64 s.least, .int .i64 s.wait, .slice a.ta s.tiers.length a.tc, .slice a.fa s.files.length a.fc, .slice a.ca s.copies.length a.cc, .slice a.ha s.held.length a.hc, .slice a.ba s.bin.length a.bc]] w (TlOk St.eC w (St.garbageL s)) := by
 obtain ⟨W1, hW1, hP, hz1, hB1⟩ := box w #[.int .i64 s.least, .int .i64 s.wait, .slice a.ta s.tiers.length a.tc, .slice a.fa s.files.length a.fc, .slice a.ca s.copies.length a.cc, .slice a.ha s.held.length a.hc, .slice a.ba s.bin.length a.bc] 28
 have HW1 := Lib.hid hW1
 have HI1 := Lib.hid (hI.keep hB1)
 have q0 : W1.cell? ⟨w.heap.size, 0, none⟩ = some (.int .i64 s.least) := (hP.cell 0).trans rfl
 have q1 : W1.cell? ⟨w.heap.size, 1, none⟩ = some (.int .i64 s.wait) := (hP.cell 1).trans rfl
 have q2 : W1.cell? ⟨w.heap.size, 2, none⟩ = some (.slice a.ta s.tiers.length a.tc) := (hP.cell 2).trans rfl
 have q3 : W1.cell? ⟨w.heap.size, 3, none⟩ = some (.slice a.fa s.files.length a.fc) := (hP.cell 3).trans rfl
 have q4 : W1.cell? ⟨w.heap.size, 4, none⟩ = some (.slice a.ca s.copies.length a.cc) := (hP.cell 4).trans rfl
 have q5 : W1.cell? ⟨w.heap.size, 5, none⟩ = some (.slice a.ha s.held.length a.hc) := (hP.cell 5).trans rfl
 have q6 : W1.cell? ⟨w.heap.size, 6, none⟩ = some (.slice a.ba s.bin.length a.bc) := (hP.cell 6).trans rfl
 have HP := Lib.hid hP; have HB1 := Lib.hid hB1
 clear hW1 hP
 obtain ⟨_, y1, y2, y3, y4, y5⟩ := St.sizes_iff.1 r.sizes
 have HCK := Lib.hid (check_is s a W1 HI1.out)
 rw [St.err_iff.2 r] at HCK
 have HLK := Lib.hid (fun V (hv : Below W1.heap.size W1 V) => look_is s a V (HI1.out.keep hv) (by omega))
 have HCL : Hid (∀ W, Below W1.heap.size W1 W → W.cell? ⟨w.heap.size, 0, none⟩ = some (.int .i64 s.least) ∧ W.cell? ⟨w.heap.size, 1, none⟩ = some (.int .i64 s.wait) ∧ W.cell? ⟨w.heap.size, 2, none⟩ = some (.slice a.ta s.tiers.length a.tc) ∧ W.cell? ⟨w.heap.size, 3, none⟩ = some (.slice a.fa s.files.length a.fc) ∧ W.cell? ⟨w.heap.size, 4, none⟩ = some (.slice a.ca s.copies.length a.cc) ∧ W.cell? ⟨w.heap.size, 5, none⟩ = some (.slice a.ha s.held.length a.hc) ∧ W.cell? ⟨w.heap.size, 6, none⟩ = some (.slice a.ba s.bin.length a.bc)) := Lib.hid fun W hb => (HP.out.keep hb).seven
 have HAN := Lib.hid (fun mb V (hv : Below W1.heap.size W1 V) (hM : FMap V mb s.files) => garbage_is s a mb V (HI1.out.keep hv) hM r)
 unfold CopPost at HAN
 clear hI r hz1 y1 y2 y3 y4 y5
 go_enter Tryz.func29, Tryz.ntmps29
 go_upto_region 1 with fail
 rw [HW1.out]
 go_wp2_with (first
  | (go_at_call 32; (with_reducible refine HCK.out.mono ?_); rintro e w3 ⟨rfl, hv⟩; obtain ⟨q0, q1, q2, q3, q4, q5, q6⟩ := HCL.out _ hv)
  | (go_at_call 93; (with_reducible refine (HLK.out _ hv).mono ?_); rintro e w4 ⟨mb, rfl, hmb, hM, hq⟩; have hv := below_up hv hq)
  | (go_at_call 105; (with_reducible refine (HAN.out mb _ hv hM).mono ?_); rintro e w5 ⟨g, cap, rfl, ho, hq⟩; have hv := below_up hv hq))
 go_ret2
 exact ⟨g, cap, rfl, RowE.ofV (E := St.eC) (ca := cap) ho, ho.caps.1, ho.caps.2, below_up HB1.out hv⟩
theorem lostE_is (s : Sto) (a : StA) (mb bk : Nat) (t : TypeId) (d : ByteArray) (w : World) (hI : StIn w s a) (r : St.Right s) (hd : d.size = 16) (hb : Blk w bk #[.int .i64 s.least, .int .i64 s.wait, .slice a.ta s.tiers.length a.tc, .slice a.fa s.files.length a.fc, .slice a.ca s.copies.length a.cc, .slice a.ha s.held.length a.hc, .slice a.ba s.bin.length a.bc, .map (some mb)] t) :
  Calls Tryz.prog 102 #[.string d, .pointer (some ⟨bk, 0, none⟩)] w fun e w' => e = .returned (.bool (decide (0 < (St.goodL s d).length))) ∧ Below w.heap.size w w' := by
 have HGO := Lib.hid (good_is s a mb d w hI r hd)
 unfold TirPost at HGO
 obtain ⟨m0, m1, m2, m3, m4, m5, m6, m7⟩ := hb.eight
 obtain ⟨GL, hGL⟩ : ∃ GL, St.goodL s d = GL := ⟨_, rfl⟩
 rw [hGL] at HGO ⊢
 clear hI r hd hb hGL
 go_enter Tryz.func102, Tryz.ntmps102
 go_wp2_with (go_at_call 103; (with_reducible refine HGO.out.mono ?_); rintro e w3 ⟨g, cap, rfl, ho, hq⟩)
 go_ret
 exact ⟨ret_bool (by simp), hq⟩
theorem enters_lost : ∀ args w, (callFunc 102 args).run Tryz.prog w = .ok (.enter 102 args) w := enters_of Tryz.func102 (by kernel_rfl) rfl
theorem strF_delV (fn : FuncId) (lb : Array Value) (eg : ∀ args w, (callFunc fn args).run Tryz.prog w = .ok (.enter fn args) w) (p : ByteArray → Bool) (B n cap : Nat) (g : Option Addr) (L : List ByteArray) (w : World) (h : OwnV w B 9 1 (.slice g n cap) n (St.eS.flat L)) (hn : n ≤ 1000000) (hL : L.length = n) (HD : ∀ b, DelOk St.eS (fun x => .string x) w b fn lb p L ∨ g ≠ some ⟨b, 0, none⟩) :
  Calls Tryz.prog 87 #[.slice g n cap, .func (.func fn) #[] lb] w fun e w' => e = .returned (.slice g (L.filter (fun y => !p y)).length cap) ∧ OwnV w' B 9 1 (.slice g (L.filter (fun y => !p y)).length cap) (L.filter (fun y => !p y)).length (St.eS.flat (L.filter (fun y => !p y))) ∧ w.grownBy w' (Value.slice g n cap).ownBlock := by
 rcases h with ⟨h1, h2, h3⟩ | ⟨b, cap', h1, hc⟩
 ·cases h1
  obtain rfl := List.eq_nil_of_length_eq_zero hL
  have HIX := Lib.hid (strF_idx fn lb eg p [] none 0 w (RowE.nil _ _ _) ⟨Nat.le_refl _, by decide⟩ (fun V x hx => by cases hx))
  have hz : St.idx p [] 0 = -1 := rfl
  rw [hz, List.length_nil] at HIX
  go_enter Tryz.func87, Tryz.ntmps87
  go_wp2_with (go_at_call 161; (with_reducible refine HIX.out.mono ?_); rintro e w3 ⟨rfl, hB3⟩)
  go_ret
  exact ⟨rfl, .inl ⟨rfl, rfl, rfl⟩, ⟨hB3.os, hB3.tape, hB3.output, hB3.size, fun k hk _ => hB3.block k hk⟩⟩
 ·cases h1
  have hD : DelOk St.eS (fun x => .string x) w b fn lb p L := by
   rcases HD b with h | h
   ·exact h
   ·exact absurd rfl h
  refine (strF_del fn lb eg p B b n cap L w hc hn hL hD).mono fun e w' h => ?_
  obtain ⟨h1, h2, h3⟩ := h
  exact ⟨h1, .inr ⟨b, cap, rfl, h2⟩, h3⟩
theorem lostS_ok (s : Sto) (a : StA) (w : World) (hI : StIn w s a) (r : St.Right s) : Calls Tryz.prog 28 #[.agg #[.int .i64 s.least, .int .i64 s.wait, .slice a.ta s.tiers.length a.tc, .slice a.fa s.files.length a.fc, .slice a.ca s.copies.length a.cc, .slice a.ha s.held.length a.hc, .slice a.ba s.bin.length a.bc]] w (TlOk St.eS w (St.lostL s)) := by
 obtain ⟨W1, hW1, hP, hz1, hB1⟩ := box w #[.int .i64 s.least, .int .i64 s.wait, .slice a.ta s.tiers.length a.tc, .slice a.fa s.files.length a.fc, .slice a.ca s.copies.length a.cc, .slice a.ha s.held.length a.hc, .slice a.ba s.bin.length a.bc] 28
 have HW1 := Lib.hid hW1
 have HI1 := Lib.hid (hI.keep hB1)
 have q0 : W1.cell? ⟨w.heap.size, 0, none⟩ = some (.int .i64 s.least) := (hP.cell 0).trans rfl
 have q1 : W1.cell? ⟨w.heap.size, 1, none⟩ = some (.int .i64 s.wait) := (hP.cell 1).trans rfl
 have q2 : W1.cell? ⟨w.heap.size, 2, none⟩ = some (.slice a.ta s.tiers.length a.tc) := (hP.cell 2).trans rfl
 have q3 : W1.cell? ⟨w.heap.size, 3, none⟩ = some (.slice a.fa s.files.length a.fc) := (hP.cell 3).trans rfl
 have q4 : W1.cell? ⟨w.heap.size, 4, none⟩ = some (.slice a.ca s.copies.length a.cc) := (hP.cell 4).trans rfl
 have q5 : W1.cell? ⟨w.heap.size, 5, none⟩ = some (.slice a.ha s.held.length a.hc) := (hP.cell 5).trans rfl
 have q6 : W1.cell? ⟨w.heap.size, 6, none⟩ = some (.slice a.ba s.bin.length a.bc) := (hP.cell 6).trans rfl
 have HP := Lib.hid hP; have HB1 := Lib.hid hB1
 clear hW1 hP
 obtain ⟨_, y1, y2, y3, y4, y5⟩ := St.sizes_iff.1 r.sizes
 have HCK := Lib.hid (check_is s a W1 HI1.out)
 rw [St.err_iff.2 r] at HCK
 have HLK := Lib.hid (fun V (hv : Below W1.heap.size W1 V) => look_is s a V (HI1.out.keep hv) (by omega))
 have HCL : Hid (∀ W, Below W1.heap.size W1 W → W.cell? ⟨w.heap.size, 0, none⟩ = some (.int .i64 s.least) ∧ W.cell? ⟨w.heap.size, 1, none⟩ = some (.int .i64 s.wait) ∧ W.cell? ⟨w.heap.size, 2, none⟩ = some (.slice a.ta s.tiers.length a.tc) ∧ W.cell? ⟨w.heap.size, 3, none⟩ = some (.slice a.fa s.files.length a.fc) ∧ W.cell? ⟨w.heap.size, 4, none⟩ = some (.slice a.ca s.copies.length a.cc) ∧ W.cell? ⟨w.heap.size, 5, none⟩ = some (.slice a.ha s.held.length a.hc) ∧ W.cell? ⟨w.heap.size, 6, none⟩ = some (.slice a.ba s.bin.length a.bc)) := Lib.hid fun W hb => (HP.out.keep hb).seven
 have HAN := Lib.hid (fun mb V (hv : Below W1.heap.size W1 V) (hM : FMap V mb s.files) => allNeeded_is s a mb V (HI1.out.keep hv) hM r)
 unfold DigPost at HAN
 have HR := Lib.hid r
 have hnl := St.neededL_len s
 have HLO : Hid ((St.neededL s).filter (fun y => !decide (0 < (St.goodL s y).length)) = St.lostL s) := Lib.hid (by
  unfold St.lostL
  congr 1
  funext y
  cases (St.goodL s y).length <;> simp)
 have HN16 := Lib.hid (fun d (hd : d ∈ St.neededL s) => St.needed_16 r hd)
 obtain ⟨NL, hNL⟩ : ∃ NL, St.neededL s = NL := ⟨_, rfl⟩
 rw [hNL] at HAN HLO HN16 hnl
 obtain ⟨n, hn⟩ : ∃ n, NL.length = n := ⟨_, rfl⟩
 have HNN := Lib.hid hn
 rw [hn] at HAN hnl
 have hn6 : n ≤ 1000000 := by omega
 clear hI r hz1 y1 y2 y3 y4 y5 hNL hn hnl
 go_enter Tryz.func28, Tryz.ntmps28
 go_upto_region 1 with fail
 rw [HW1.out]
 go_upto_region 5 with (first
  | (go_at_call 32; (with_reducible refine HCK.out.mono ?_); rintro e w3 ⟨rfl, hv⟩; obtain ⟨q0, q1, q2, q3, q4, q5, q6⟩ := HCL.out _ hv)
  | (go_at_call 93; (with_reducible refine (HLK.out _ hv).mono ?_); rintro e w4 ⟨mb, rfl, hmb, hM, hq⟩; have hv := below_up hv hq))
 obtain ⟨W5, hW5, hX5, hz5, hB5⟩ := box w4 #[.int .i64 s.least, .int .i64 s.wait, .slice a.ta s.tiers.length a.tc, .slice a.fa s.files.length a.fc, .slice a.ca s.copies.length a.cc, .slice a.ha s.held.length a.hc, .slice a.ba s.bin.length a.bc, .map (some mb)] 135
 have HW5 := Lib.hid hW5; have HX5 := Lib.hid hX5
 have HV5 := Lib.hid (below_up hv hB5)
 have HM5 := Lib.hid (hM.keep hB5)
 rw [HW5.out]
 obtain ⟨m0, m1, m2, m3, m4, m5, m6, m7⟩ := hX5.eight
 clear hW5 hX5 hz5 hB5 q0 q1 q2 q3 q4 q5 q6 hv hM hq hmb
 go_upto_region 6 with (first
  | (go_at_call 99; (with_reducible refine (HAN.out mb _ HV5.out HM5.out).mono ?_); rintro e w6 ⟨g, cap, rfl, ho, hq⟩; have hfl := ho.lt; have HDE : ∀ b, DelOk St.eS (fun x => .string x) w6 b 102 #[.pointer (some ⟨w4.heap.size, 0, none⟩)] (fun y => decide (0 < (St.goodL s y).length)) NL ∨ g ≠ some ⟨b, 0, none⟩ := (fun b => by
    by_cases hgb : g = some ⟨b, 0, none⟩
    ·left
     subst hgb
     intro V x hx hg
     have hbW := (hfl b rfl).1
     have hvV : Below W5.heap.size W5 V := hq.grown hg hq.size (fun k e => by cases e; exact hbW)
     exact lostE_is s a mb w4.heap.size _ x V (HI1.out.keep (below_up HV5.out hvV)) HR.out (HN16.out x hx) (HX5.out.keep hvV)
    ·exact .inr hgb); have HDL := Lib.hid (strF_delV 102 #[.pointer (some ⟨w4.heap.size, 0, none⟩)] enters_lost (fun y => decide (0 < (St.goodL s y).length)) W5.heap.size n cap g NL w6 ho hn6 HNN.out HDE); rw [HLO.out] at HDL; have HQ6 := Lib.hid hq; have HOL := Lib.hid hfl; clear HDE ho hq hfl)
  | (go_at_call 87; (with_reducible refine HDL.out.mono ?_); rintro e w7 ⟨rfl, ho7, hg7⟩))
 have hB7 := HQ6.out.grown hg7 HQ6.out.size (fun b e => (HOL.out b e).1)
 obtain ⟨l1, l2⟩ := ho7.caps
 have HRE := Lib.hid (RowE.ofV (E := St.eS) (ca := cap) ho7)
 have HBZ := Lib.hid (below_up HB1.out (below_up HV5.out hB7))
 clear ho7 hg7
 go_wp2_with (go_at_call 104; (with_reducible refine (clnS_clip _ _ _ _ l1 l2).mono ?_); rintro e wc ⟨rfl, rfl⟩)
 go_ret2
 exact ⟨g, _, rfl, HRE.out, Nat.le_refl _, by omega, HBZ.out⟩
theorem infoLck : (Tryz.prog.info? 70).map (fun i => (i.zero, i.size, i.bytes)) = some (some (.agg #[.string ByteArray.empty, .int .i64 0, .int .i64 0]), 3, 32) := by kernel_rfl

theorem step_appL {ops : Array Oper} {o : Oper} {a : Act} {V : World} {cs : Array Value} {K : Act → World → Prop} {Q : Exit → Act → World → Prop} {E : Prop} (hgd : o.guard = none) (s x : Operand)
  (ho : o.op = .call { callee := .builtin .append, args := #[s, x], argTypes := #[58, 58] }) (base : Nat) (v : Value) (n : Nat) (xs : List Value) (hs : a.eval s = v) (hx : a.eval x = .slice (some ⟨V.heap.size, 0, none⟩) 1 1)
  (hown : V.ownsRow base 70 3 v n xs) (hn : n ≤ 1000000) (hb : base ≤ V.heap.size) (hcs : cs.toList.length = 1 * 3) (h1 : ∀ u ∈ cs.toList, u.oneCell' = true)
  (h : ∀ g cap w', w'.ownsRow base 70 3 (.slice (some ⟨g, 0, none⟩) (n + 1) cap) (n + 1) (xs ++ cs.toList) → (V.alloc (.cells cs 70)).grownBy w' v.ownBlock → K (a.put o.dst (.slice (some ⟨g, 0, none⟩) (n + 1) cap)) w') :
  if Region.wanted o (yielded ops a.tmps) = true then Oper.wp Tryz.prog o a (V.alloc (.cells cs 70)) K Q else E := by
 obtain ⟨i0, hi0, hi1, hi2, hi3⟩ := info_parts infoLck
 exact step_append_lies _ hgd s x _ ho base 70 i0 (.agg #[.string ByteArray.empty, .int .i64 0, .int .i64 0]) 3 32 Tryz.underlying58 hi0 hi1 hi2 hi3 rfl (by decide) v n xs hs (hown.alloc _) ⟨V.heap.size, 0, none⟩ 1 1 cs.toList hx hcs
  (World.news_of_block (cs := cs) (t := 70) (fr := (0, 0)) (Blk.new V cs 70)) h1 (by decide) (by unfold maxLen; omega) (by omega) (by simp; omega) _ rfl (fun g cap w' h1 h2 _ _ => h g cap w' h1 h2)
theorem list_appL {ops : Array Oper} {rest : List Oper} {o : Oper} {a : Act} {V : World} {cs : Array Value} {Q : Exit → Act → World → Prop} (hgd : o.guard = none) (s x : Operand)
  (ho : o.op = .call { callee := .builtin .append, args := #[s, x], argTypes := #[58, 58] }) (base : Nat) (v : Value) (n : Nat) (xs : List Value) (hs : a.eval s = v) (hx : a.eval x = .slice (some ⟨V.heap.size, 0, none⟩) 1 1)
  (hown : V.ownsRow base 70 3 v n xs) (hn : n ≤ 1000000) (hb : base ≤ V.heap.size) (hcs : cs.toList.length = 1 * 3) (h1 : ∀ u ∈ cs.toList, u.oneCell' = true)
  (h : ∀ g cap w', w'.ownsRow base 70 3 (.slice (some ⟨g, 0, none⟩) (n + 1) cap) (n + 1) (xs ++ cs.toList) → (V.alloc (.cells cs 70)).grownBy w' v.ownBlock → wpList Tryz.prog ops Q rest (a.put o.dst (.slice (some ⟨g, 0, none⟩) (n + 1) cap)) w') :
  wpList Tryz.prog ops Q (o :: rest) a (V.alloc (.cells cs 70)) := by
 obtain ⟨i0, hi0, hi1, hi2, hi3⟩ := info_parts infoLck
 exact wpList_append_own2 _ hgd s x _ ho base 70 i0 (.agg #[.string ByteArray.empty, .int .i64 0, .int .i64 0]) 3 32 Tryz.underlying58 hi0 hi1 hi2 hi3 rfl (by decide) v n xs hs (hown.alloc _) ⟨V.heap.size, 0, none⟩ 1 1 cs.toList hx (by decide) hcs
  (World.news_of_block (cs := cs) (t := 70) (fr := (0, 0)) (Blk.new V cs 70)) h1 (by unfold maxLen; omega) (by omega) (by simp; omega) (fun g cap w' h1 h2 _ => h g cap w' h1 h2)
theorem clnL_clip (a : Option Addr) (n ca : Nat) (w : World) (h : n ≤ ca) (hc : ca ≤ 9223372036854775807) : Calls Tryz.prog 101 #[.slice a n ca] w fun e w' => e = .returned (.slice a n n) ∧ w = w' := by
 go_enter Tryz.func101, Tryz.ntmps101
 go_wp2_with fail
 go_ret
 exact ⟨rfl, rfl⟩
theorem St.filtmap_take {α β : Type} {p : α → Bool} {f : α → β} {L : List α} {j : Nat} {x : α} (h : L[j]? = some x) : ((L.take (j + 1)).filter p).map f = ((L.take j).filter p).map f ++ (if p x = true then [f x] else []) := by
 rw [St.filter_take h, List.map_append]
 congr 1
 split <;> rfl
theorem shortS_ok (s : Sto) (a : StA) (w : World) (hI : StIn w s a) (r : St.Right s) : Calls Tryz.prog 27 #[.agg #[.int .i64 s.least, .int .i64 s.wait, .slice a.ta s.tiers.length a.tc, .slice a.fa s.files.length a.fc, .slice a.ca s.copies.length a.cc, .slice a.ha s.held.length a.hc, .slice a.ba s.bin.length a.bc]] w (TlOk St.eL w (St.shortC s)) := by
 obtain ⟨W1, hW1, hP, hz1, hB1⟩ := box w #[.int .i64 s.least, .int .i64 s.wait, .slice a.ta s.tiers.length a.tc, .slice a.fa s.files.length a.fc, .slice a.ca s.copies.length a.cc, .slice a.ha s.held.length a.hc, .slice a.ba s.bin.length a.bc] 28
 have HW1 := Lib.hid hW1
 have HI1 := Lib.hid (hI.keep hB1)
 have q0 : W1.cell? ⟨w.heap.size, 0, none⟩ = some (.int .i64 s.least) := (hP.cell 0).trans rfl
 have q1 : W1.cell? ⟨w.heap.size, 1, none⟩ = some (.int .i64 s.wait) := (hP.cell 1).trans rfl
 have q2 : W1.cell? ⟨w.heap.size, 2, none⟩ = some (.slice a.ta s.tiers.length a.tc) := (hP.cell 2).trans rfl
 have q3 : W1.cell? ⟨w.heap.size, 3, none⟩ = some (.slice a.fa s.files.length a.fc) := (hP.cell 3).trans rfl
 have q4 : W1.cell? ⟨w.heap.size, 4, none⟩ = some (.slice a.ca s.copies.length a.cc) := (hP.cell 4).trans rfl
 have q5 : W1.cell? ⟨w.heap.size, 5, none⟩ = some (.slice a.ha s.held.length a.hc) := (hP.cell 5).trans rfl
 have q6 : W1.cell? ⟨w.heap.size, 6, none⟩ = some (.slice a.ba s.bin.length a.bc) := (hP.cell 6).trans rfl
 have HP := Lib.hid hP; have HB1 := Lib.hid hB1
 clear hW1 hP
 obtain ⟨_, y1, y2, y3, y4, y5⟩ := St.sizes_iff.1 r.sizes
 have HCK := Lib.hid (check_is s a W1 HI1.out)
 rw [St.err_iff.2 r] at HCK
 have HLK := Lib.hid (fun V (hv : Below W1.heap.size W1 V) => look_is s a V (HI1.out.keep hv) (by omega))
 have HCL : Hid (∀ W, Below W1.heap.size W1 W → W.cell? ⟨w.heap.size, 0, none⟩ = some (.int .i64 s.least) ∧ W.cell? ⟨w.heap.size, 1, none⟩ = some (.int .i64 s.wait) ∧ W.cell? ⟨w.heap.size, 2, none⟩ = some (.slice a.ta s.tiers.length a.tc) ∧ W.cell? ⟨w.heap.size, 3, none⟩ = some (.slice a.fa s.files.length a.fc) ∧ W.cell? ⟨w.heap.size, 4, none⟩ = some (.slice a.ca s.copies.length a.cc) ∧ W.cell? ⟨w.heap.size, 5, none⟩ = some (.slice a.ha s.held.length a.hc) ∧ W.cell? ⟨w.heap.size, 6, none⟩ = some (.slice a.ba s.bin.length a.bc)) := Lib.hid fun W hb => (HP.out.keep hb).seven
 have HAN := Lib.hid (fun mb V (hv : Below W1.heap.size W1 V) (hM : FMap V mb s.files) => allNeeded_is s a mb V (HI1.out.keep hv) hM r)
 unfold DigPost at HAN
 have HR := Lib.hid r
 have hnl := St.neededL_len s
 have HLA := Lib.hid (fun mb d (hd : d ∈ St.neededL s) V (hv : Below W1.heap.size W1 V) => lack_is s a mb d V (HI1.out.keep hv) r (St.needed_16 r hd))
 have HSC : Hid (St.shortC s = ((St.neededL s).filter (St.short s)).map (St.lackOf s)) := Lib.hid rfl
 obtain ⟨NL, hNL⟩ : ∃ NL, St.neededL s = NL := ⟨_, rfl⟩
 rw [hNL] at HAN HSC HLA hnl
 obtain ⟨n, hn⟩ : ∃ n, NL.length = n := ⟨_, rfl⟩
 have HNN := Lib.hid hn
 rw [hn] at HAN hnl
 have hn6 : n ≤ 1000000 := by omega
 have HS1 := Lib.hid hz1
 clear hI r hz1 y1 y2 y3 y4 y5 hNL hn hnl
 go_enter Tryz.func27, Tryz.ntmps27
 go_upto_region 1 with fail
 rw [HW1.out]
 go_upto_region 5 with (first
  | (go_at_call 32; (with_reducible refine HCK.out.mono ?_); rintro e w3 ⟨rfl, hv⟩; obtain ⟨q0, q1, q2, q3, q4, q5, q6⟩ := HCL.out _ hv)
  | (go_at_call 93; (with_reducible refine (HLK.out _ hv).mono ?_); rintro e w4 ⟨mb, rfl, hmb, hM, hq⟩; have hv := below_up hv hq))
 obtain ⟨W5, hW5, hX5, hz5, hB5⟩ := box w4 #[.int .i64 s.least, .int .i64 s.wait, .slice a.ta s.tiers.length a.tc, .slice a.fa s.files.length a.fc, .slice a.ca s.copies.length a.cc, .slice a.ha s.held.length a.hc, .slice a.ba s.bin.length a.bc, .map (some mb)] 135
 have HW5 := Lib.hid hW5; have HX5 := Lib.hid hX5
 have HV5 := Lib.hid (below_up hv hB5)
 have HM5 := Lib.hid (hM.keep hB5)
 rw [HW5.out]
 obtain ⟨m0, m1, m2, m3, m4, m5, m6, m7⟩ := hX5.eight
 clear hW5 hX5 hz5 hB5 q0 q1 q2 q3 q4 q5 q6 hv hM hq hmb
 go_wp2_with (go_at_call 99; (with_reducible refine (HAN.out mb _ HV5.out HM5.out).mono ?_); rintro e w6 ⟨A, ca, rfl, ho, hq⟩)
 have HRE : Hid (RowE St.eS w6 A NL) := Lib.hid (RowE.ofV (E := St.eS) (ca := ca) (by rw [HNN.out]; exact ho))
 have HX6 := Lib.hid (HX5.out.keep hq)
 have HV6 := Lib.hid (below_up HV5.out hq)
 clear ho hq m0 m1 m2 m3 m4 m5 m6 m7
 go_loopg [6, 21] n (fun gk v i wr => ∃ j : Nat, j ≤ n ∧ gk = n - j ∧ i = .int .i64 j ∧ wr.ownsRow w6.heap.size 70 3 v (((NL.take j).filter (St.short s)).map (St.lackOf s)).length (St.eL.flat (((NL.take j).filter (St.short s)).map (St.lackOf s))) ∧ Below w6.heap.size w6 wr)
 case atStart => exact ⟨0, by omega, rfl, rfl, World.ownsRow_nil _ _ _ _, Below.refl _ _⟩
 case round =>
  obtain ⟨j, hj, rfl, rfl, hown, hB⟩ := hrel
  by_cases hlt : j < n
  ·obtain ⟨x, hx⟩ : ∃ x, NL[j]? = some x := ⟨_, List.getElem?_eq_getElem (by rw [HNN.out]; exact hlt)⟩
   obtain ⟨b, off, ha, hb, hcell⟩ := (HRE.out.keep hB) (by rw [HNN.out]; omega)
   have c0 : wr.cell? ⟨b, off + j, none⟩ = some (.string x) := by have := hcell j x hx 0 (.string x) rfl; rw [show off + j * St.eS.k + 0 = off + j by simp [St.eS]] at this; exact this
   have hft := St.filtmap_take (p := St.short s) (f := St.lackOf s) hx
   have hfl : (((NL.take j).filter (St.short s)).map (St.lackOf s)).length ≤ NL.length := by rw [List.length_map]; exact St.filter_len j
   rw [HNN.out] at hfl
   have HLX := Lib.hid (HLA.out mb x (List.mem_of_getElem? hx) wr (below_up HV6.out hB))
   obtain ⟨m0, m1, m2, m3, m4, m5, m6, m7⟩ := (HX6.out.keep hB).eight
   have hj0 : (0 : Int) ≤ (j : Int) := by omega
   have hj1 : (j : Int) < (n : Int) := by omega
   have hlo : St.lackOf s x = ⟨x, ((St.goodL s x).length : Nat), (St.awayN (St.goodL s x) : Nat)⟩ := rfl
   have HFT := Lib.hid hft
   generalize (((NL.take j).filter (St.short s)).map (St.lackOf s)) = G at *
   obtain ⟨mg, hmg⟩ : ∃ mg : Int, ((St.goodL s x).length : Int) = mg := ⟨_, rfl⟩
   obtain ⟨ma, hma⟩ : ∃ ma : Int, (St.awayN (St.goodL s x) : Int) = ma := ⟨_, rfl⟩
   rw [hmg, hma] at HLX hlo
   obtain ⟨sb, hsb⟩ : ∃ sb, St.short s x = sb := ⟨_, rfl⟩
   rw [hsb] at HLX HFT
   rw [hlo] at HFT
   obtain ⟨FL, hFL⟩ : ∃ FL, St.eL.flat G = FL := ⟨_, rfl⟩
   obtain ⟨m, hm⟩ : ∃ m, G.length = m := ⟨_, rfl⟩
   have HFL : Hid (St.eL.flat (G ++ [⟨x, mg, ma⟩]) = FL ++ [.string x, .int .i64 mg, .int .i64 ma]) := Lib.hid (by rw [Enc.flat_snoc, hFL]; rfl)
   have HM : Hid ((G ++ [(⟨x, mg, ma⟩ : Lck)]).length = m + 1) := Lib.hid (by rw [List.length_append, hm]; rfl)
   have HMF := Lib.hid (And.intro hm hFL)
   have HOW := Lib.hid hown
   rw [hFL, hm] at HOW
   rw [hm] at hfl
   have HBW := Lib.hid hB
   clear hx hft hcell hmg hma hlo hsb hFL hm hown
   rw [ha]
   go_upto_region 10 with (go_at_call 100; (with_reducible refine HLX.out.mono ?_); rintro e w7 ⟨rfl, hq7⟩)
   obtain ⟨W8, hW8, hX8, hz8, hB8⟩ := box w7 #[.string x, .int .i64 mg, .int .i64 ma] 70
   have HW8 := Lib.hid hW8
   rw [HW8.out]
   obtain ⟨e0, e1, e2⟩ := hX8.three
   have hq8 := below_up hq7 hB8
   have HO8 := own_keepE HOW.out hq8
   have hB68 := below_up HBW.out hq8
   have hs8 := hB68.size
   clear hW8 hX8 hz8 hB8 m0 m1 m2 m3 m4 m5 m6 m7 c0
   cases sb
   ·go_wp2_with fail
    rw [← ha]
    go_roundg (n - (j + 1))
    case rel => exact ⟨j + 1, by omega, rfl, by go_num, by rw [HFT.out, if_neg (by decide), List.append_nil, HMF.out.1, HMF.out.2]; exact HO8, hB68⟩
    case measure => omega
   ·go_wp2_with (at_builtin; refine list_appL rfl _ _ rfl _ _ m FL (by rfl) (by rfl) HO8 (by omega) (by omega) (by rfl) (by simp [Value.oneCell']) ?_; intro g8 cap8 w8 hown8 hgrow8; have hB9 := below_grownE (below_allocs hB68 _) (HO8.alloc _) hgrow8 (by simp; omega))
    rw [← ha]
    go_roundg (n - (j + 1))
    case rel => exact ⟨j + 1, by omega, rfl, by go_num, by rw [HFT.out, if_pos (by first | rfl | trivial), HFL.out, HM.out]; exact hown8, hB9⟩
    case measure => omega
  ·obtain rfl : n = j := by omega
   rw [← HNN.out, List.take_length, ← HSC.out] at hown
   have HOV := Lib.hid (OwnV.of_own hown)
   obtain ⟨g, cap, rfl⟩ := ownV_slice (OwnV.of_own hown)
   obtain ⟨l1, l2⟩ := HOV.out.caps
   have HRZ := Lib.hid (RowE.ofV (E := St.eL) (ca := cap) HOV.out)
   clear hown
   go_wp2_with (go_at_call 101; (with_reducible refine (clnL_clip _ _ _ _ l1 l2).mono ?_); rintro e wc ⟨rfl, rfl⟩)
   go_ret2
   exact ⟨g, _, rfl, HRZ.out, Nat.le_refl _, by omega, below_up HB1.out (below_up HV6.out hB)⟩
theorem freeS_err (s : Sto) (a : StA) (tier : ByteArray) (w : World) (hI : StIn w s a) (he : St.err s ≠ 0) : Calls Tryz.prog 25 #[.agg #[.int .i64 s.least, .int .i64 s.wait, .slice a.ta s.tiers.length a.tc, .slice a.fa s.files.length a.fc, .slice a.ca s.copies.length a.cc, .slice a.ha s.held.length a.hc, .slice a.ba s.bin.length a.bc], .string tier] w fun e w' => e = .returned (.tuple #[.int .i64 0, .int .i64 (St.err s)]) ∧ Below w.heap.size w w' := by
 obtain ⟨W1, hW1, hP, hz1, hB1⟩ := box w #[.int .i64 s.least, .int .i64 s.wait, .slice a.ta s.tiers.length a.tc, .slice a.fa s.files.length a.fc, .slice a.ca s.copies.length a.cc, .slice a.ha s.held.length a.hc, .slice a.ba s.bin.length a.bc] 28
 have HW1 := Lib.hid hW1
 have HI1 := Lib.hid (hI.keep hB1)
 have q0 : W1.cell? ⟨w.heap.size, 0, none⟩ = some (.int .i64 s.least) := (hP.cell 0).trans rfl
 have q1 : W1.cell? ⟨w.heap.size, 1, none⟩ = some (.int .i64 s.wait) := (hP.cell 1).trans rfl
 have q2 : W1.cell? ⟨w.heap.size, 2, none⟩ = some (.slice a.ta s.tiers.length a.tc) := (hP.cell 2).trans rfl
 have q3 : W1.cell? ⟨w.heap.size, 3, none⟩ = some (.slice a.fa s.files.length a.fc) := (hP.cell 3).trans rfl
 have q4 : W1.cell? ⟨w.heap.size, 4, none⟩ = some (.slice a.ca s.copies.length a.cc) := (hP.cell 4).trans rfl
 have q5 : W1.cell? ⟨w.heap.size, 5, none⟩ = some (.slice a.ha s.held.length a.hc) := (hP.cell 5).trans rfl
 have q6 : W1.cell? ⟨w.heap.size, 6, none⟩ = some (.slice a.ba s.bin.length a.bc) := (hP.cell 6).trans rfl
 have HP := Lib.hid hP; have HB1 := Lib.hid hB1
 clear hW1 hP
 have HCK := Lib.hid (check_is s a W1 HI1.out)
 have hq1 : (St.err s != 0) = true := by simpa using he
 generalize St.err s = q at *
 clear hI he hz1
 go_enter Tryz.func25, Tryz.ntmps25
 go_upto_region 1 with fail
 rw [HW1.out]
 go_wp2_with (go_at_call 32; (with_reducible refine HCK.out.mono ?_); rintro e w3 ⟨rfl, hB3⟩)
 go_ret2
 exact ⟨rfl, below_up HB1.out hB3⟩
theorem freeS_none (s : Sto) (a : StA) (tier : ByteArray) (w : World) (hI : StIn w s a) (r : St.Right s) (hn : St.tierAt s.tiers tier < 0) : Calls Tryz.prog 25 #[.agg #[.int .i64 s.least, .int .i64 s.wait, .slice a.ta s.tiers.length a.tc, .slice a.fa s.files.length a.fc, .slice a.ca s.copies.length a.cc, .slice a.ha s.held.length a.hc, .slice a.ba s.bin.length a.bc], .string tier] w fun e w' => e = .returned (.tuple #[.int .i64 0, .int .i64 7]) ∧ Below w.heap.size w w' := by
 obtain ⟨W1, hW1, hP, hz1, hB1⟩ := box w #[.int .i64 s.least, .int .i64 s.wait, .slice a.ta s.tiers.length a.tc, .slice a.fa s.files.length a.fc, .slice a.ca s.copies.length a.cc, .slice a.ha s.held.length a.hc, .slice a.ba s.bin.length a.bc] 28
 have HW1 := Lib.hid hW1
 have HI1 := Lib.hid (hI.keep hB1)
 have q0 : W1.cell? ⟨w.heap.size, 0, none⟩ = some (.int .i64 s.least) := (hP.cell 0).trans rfl
 have q1 : W1.cell? ⟨w.heap.size, 1, none⟩ = some (.int .i64 s.wait) := (hP.cell 1).trans rfl
 have q2 : W1.cell? ⟨w.heap.size, 2, none⟩ = some (.slice a.ta s.tiers.length a.tc) := (hP.cell 2).trans rfl
 have q3 : W1.cell? ⟨w.heap.size, 3, none⟩ = some (.slice a.fa s.files.length a.fc) := (hP.cell 3).trans rfl
 have q4 : W1.cell? ⟨w.heap.size, 4, none⟩ = some (.slice a.ca s.copies.length a.cc) := (hP.cell 4).trans rfl
 have q5 : W1.cell? ⟨w.heap.size, 5, none⟩ = some (.slice a.ha s.held.length a.hc) := (hP.cell 5).trans rfl
 have q6 : W1.cell? ⟨w.heap.size, 6, none⟩ = some (.slice a.ba s.bin.length a.bc) := (hP.cell 6).trans rfl
 have HP := Lib.hid hP; have HB1 := Lib.hid hB1
 clear hW1 hP
 obtain ⟨_, y1, y2, y3, y4, y5⟩ := St.sizes_iff.1 r.sizes
 have HCK := Lib.hid (check_is s a W1 HI1.out)
 rw [St.err_iff.2 r] at HCK
 have HLK := Lib.hid (fun V (hv : Below W1.heap.size W1 V) => look_is s a V (HI1.out.keep hv) (by omega))
 have HCL : Hid (∀ W, Below W1.heap.size W1 W → W.cell? ⟨w.heap.size, 0, none⟩ = some (.int .i64 s.least) ∧ W.cell? ⟨w.heap.size, 1, none⟩ = some (.int .i64 s.wait) ∧ W.cell? ⟨w.heap.size, 2, none⟩ = some (.slice a.ta s.tiers.length a.tc) ∧ W.cell? ⟨w.heap.size, 3, none⟩ = some (.slice a.fa s.files.length a.fc) ∧ W.cell? ⟨w.heap.size, 4, none⟩ = some (.slice a.ca s.copies.length a.cc) ∧ W.cell? ⟨w.heap.size, 5, none⟩ = some (.slice a.ha s.held.length a.hc) ∧ W.cell? ⟨w.heap.size, 6, none⟩ = some (.slice a.ba s.bin.length a.bc)) := Lib.hid fun W hb => (HP.out.keep hb).seven
 have HTA := Lib.hid (fun V (hv : Below W1.heap.size W1 V) => tierAt_is s a tier V (HI1.out.keep hv))
 generalize St.tierAt s.tiers tier = n at *
 have hnb : decide (n < 0) = true := decide_eq_true hn
 clear hI hz1 r y1 y2 y3 y4 y5
 go_enter Tryz.func25, Tryz.ntmps25
 go_upto_region 1 with fail
 rw [HW1.out]
 go_wp2_with (first
  | (go_at_call 32; (with_reducible refine HCK.out.mono ?_); rintro e w3 ⟨rfl, hv⟩; obtain ⟨q0, q1, q2, q3, q4, q5, q6⟩ := HCL.out _ hv)
  | (go_at_call 91; (with_reducible refine (HTA.out _ hv).mono ?_); rintro e w4 ⟨rfl, hq⟩; have hv := below_up hv hq))
 go_ret2
 exact ⟨rfl, below_up HB1.out hv⟩
theorem freeS_ok (s : Sto) (a : StA) (t : Tir) (k : Nat) (hk : s.tiers[k]? = some t) (hka : St.tierAt s.tiers t.name = (k : Int)) (w : World) (hI : StIn w s a) (r : St.Right s) : Calls Tryz.prog 25 #[.agg #[.int .i64 s.least, .int .i64 s.wait, .slice a.ta s.tiers.length a.tc, .slice a.fa s.files.length a.fc, .slice a.ca s.copies.length a.cc, .slice a.ha s.held.length a.hc, .slice a.ba s.bin.length a.bc], .string t.name] w fun e w' => e = .returned (.tuple #[.int .i64 (t.room - St.used s.files t.name s.copies), .int .i64 0]) ∧ Below w.heap.size w w' := by
 obtain ⟨W1, hW1, hP, hz1, hB1⟩ := box w #[.int .i64 s.least, .int .i64 s.wait, .slice a.ta s.tiers.length a.tc, .slice a.fa s.files.length a.fc, .slice a.ca s.copies.length a.cc, .slice a.ha s.held.length a.hc, .slice a.ba s.bin.length a.bc] 28
 have HW1 := Lib.hid hW1
 have HI1 := Lib.hid (hI.keep hB1)
 have q0 : W1.cell? ⟨w.heap.size, 0, none⟩ = some (.int .i64 s.least) := (hP.cell 0).trans rfl
 have q1 : W1.cell? ⟨w.heap.size, 1, none⟩ = some (.int .i64 s.wait) := (hP.cell 1).trans rfl
 have q2 : W1.cell? ⟨w.heap.size, 2, none⟩ = some (.slice a.ta s.tiers.length a.tc) := (hP.cell 2).trans rfl
 have q3 : W1.cell? ⟨w.heap.size, 3, none⟩ = some (.slice a.fa s.files.length a.fc) := (hP.cell 3).trans rfl
 have q4 : W1.cell? ⟨w.heap.size, 4, none⟩ = some (.slice a.ca s.copies.length a.cc) := (hP.cell 4).trans rfl
 have q5 : W1.cell? ⟨w.heap.size, 5, none⟩ = some (.slice a.ha s.held.length a.hc) := (hP.cell 5).trans rfl
 have q6 : W1.cell? ⟨w.heap.size, 6, none⟩ = some (.slice a.ba s.bin.length a.bc) := (hP.cell 6).trans rfl
 have HP := Lib.hid hP; have HB1 := Lib.hid hB1
 clear hW1 hP
 obtain ⟨_, y1, y2, y3, y4, y5⟩ := St.sizes_iff.1 r.sizes
 have HCK := Lib.hid (check_is s a W1 HI1.out)
 rw [St.err_iff.2 r] at HCK
 have HLK := Lib.hid (fun V (hv : Below W1.heap.size W1 V) => look_is s a V (HI1.out.keep hv) (by omega))
 have HCL : Hid (∀ W, Below W1.heap.size W1 W → W.cell? ⟨w.heap.size, 0, none⟩ = some (.int .i64 s.least) ∧ W.cell? ⟨w.heap.size, 1, none⟩ = some (.int .i64 s.wait) ∧ W.cell? ⟨w.heap.size, 2, none⟩ = some (.slice a.ta s.tiers.length a.tc) ∧ W.cell? ⟨w.heap.size, 3, none⟩ = some (.slice a.fa s.files.length a.fc) ∧ W.cell? ⟨w.heap.size, 4, none⟩ = some (.slice a.ca s.copies.length a.cc) ∧ W.cell? ⟨w.heap.size, 5, none⟩ = some (.slice a.ha s.held.length a.hc) ∧ W.cell? ⟨w.heap.size, 6, none⟩ = some (.slice a.ba s.bin.length a.bc)) := Lib.hid fun W hb => (HP.out.keep hb).seven
 have hmem := List.mem_of_getElem? hk
 have hkl : k < s.tiers.length := (List.getElem?_eq_some_iff.1 hk).1
 have hSZ := St.szs_of (F := s.files) (fun f hf => (r.dig f hf).2)
 have htg := St.tier_good r hmem
 have HTA := Lib.hid (fun V (hv : Below W1.heap.size W1 V) => tierAt_is s a t.name V (HI1.out.keep hv))
 rw [hka] at HTA
 have HBD := Lib.hid (fun V (hv : Below W1.heap.size W1 V) => byDigest_is s a V (HI1.out.keep hv) (by omega))
 have HFR := Lib.hid (fun mb V (hv : Below W1.heap.size W1 V) (hM : FMap V mb s.files) => free_is s a t mb V (HI1.out.keep hv) hM r.fup hSZ y3 htg.2.1)
 obtain ⟨b, off, ha, hbb, hcell⟩ := HI1.out.ti (by omega)
 have HCT : Hid (∀ V, Below W1.heap.size W1 V → V.cell? ⟨b, off + k * 4, none⟩ = some (.string t.name) ∧ V.cell? ⟨b, off + k * 4 + 1, none⟩ = some (.int .i64 t.room) ∧ V.cell? ⟨b, off + k * 4 + 2, none⟩ = some (.int .i64 t.cost) ∧ V.cell? ⟨b, off + k * 4 + 3, none⟩ = some (.bool t.away)) := Lib.hid fun V hv =>
  ⟨(hv.cell hbb).trans (hcell k t hk 0 (.string t.name) rfl), (hv.cell hbb).trans (hcell k t hk 1 (.int .i64 t.room) rfl), (hv.cell hbb).trans (hcell k t hk 2 (.int .i64 t.cost) rfl), (hv.cell hbb).trans (hcell k t hk 3 (.bool t.away) rfl)⟩
 obtain ⟨fq, hfq⟩ : ∃ fq, t.room - St.used s.files t.name s.copies = fq := ⟨_, rfl⟩
 rw [hfq] at HFR ⊢
 have hnb : decide ((k : Int) < 0) = false := decide_eq_false (by omega)
 have hk0 : (0 : Int) ≤ (k : Int) := by omega
 have htl := hI.tl
 obtain ⟨nt, hnt⟩ : ∃ nt, s.tiers.length = nt := ⟨_, rfl⟩
 rw [hnt] at hkl y1 htl q2 HCL HW1 HCK HTA HLK HFR HBD ⊢
 have hk1 : (k : Int) < (nt : Int) := by omega
 have HHI := Lib.hid hI
 clear hI hz1 hcell hbb hk hka hmem hnt r y2 y3 y4 y5 hSZ htg hfq
 rw [ha] at q2 HCL HW1 HCK HTA HLK HFR HBD ⊢
 go_enter Tryz.func25, Tryz.ntmps25
 go_upto_region 1 with fail
 rw [HW1.out]
 go_upto_region 7 with (first
  | (go_at_call 32; (with_reducible refine HCK.out.mono ?_); rintro e w3 ⟨rfl, hv⟩; obtain ⟨q0, q1, q2, q3, q4, q5, q6⟩ := HCL.out _ hv)
  | (go_at_call 91; (with_reducible refine (HTA.out _ hv).mono ?_); rintro e w4 ⟨rfl, hq⟩; have hv := below_up hv hq; obtain ⟨q0, q1, q2, q3, q4, q5, q6⟩ := HCL.out _ hv; obtain ⟨d0, d1, d2, d3⟩ := HCT.out _ hv))
 have hv := hv.drew
 clear q0 q1 q2 q3 q4 q5 q6 d0 d1 d2 d3
 obtain ⟨q0, q1, q2, q3, q4, q5, q6⟩ := HCL.out _ hv
 obtain ⟨d0, d1, d2, d3⟩ := HCT.out _ hv
 go_region_held3 (fun w' => w'.cell? ⟨w.heap.size, 0, none⟩ = some (.int .i64 s.least) ∧ w'.cell? ⟨w.heap.size, 1, none⟩ = some (.int .i64 s.wait) ∧ w'.cell? ⟨w.heap.size, 2, none⟩ = some (.slice (some ⟨b, off, none⟩) nt a.tc) ∧ w'.cell? ⟨w.heap.size, 3, none⟩ = some (.slice a.fa s.files.length a.fc) ∧ w'.cell? ⟨w.heap.size, 4, none⟩ = some (.slice a.ca s.copies.length a.cc) ∧ w'.cell? ⟨w.heap.size, 5, none⟩ = some (.slice a.ha s.held.length a.hc) ∧ w'.cell? ⟨w.heap.size, 6, none⟩ = some (.slice a.ba s.bin.length a.bc) ∧ w'.cell? ⟨b, off + k * 4, none⟩ = some (.string t.name) ∧ w'.cell? ⟨b, off + k * 4 + 1, none⟩ = some (.int .i64 t.room) ∧ w'.cell? ⟨b, off + k * 4 + 2, none⟩ = some (.int .i64 t.cost) ∧ w'.cell? ⟨b, off + k * 4 + 3, none⟩ = some (.bool t.away))
  (first | (with_reducible exact ⟨q0, q1, q2, q3, q4, q5, q6, d0, d1, d2, d3⟩) | go_keep)
  (first
   | (go_at_call 98; (with_reducible refine (HBD.out _ hv).mono ?_); rintro e w5 ⟨mb, rfl, hmb, hM, hq⟩; have hv := below_up hv hq; obtain ⟨q0, q1, q2, q3, q4, q5, q6⟩ := HCL.out _ hv; obtain ⟨d0, d1, d2, d3⟩ := HCT.out _ hv)
   | (go_at_call 97; (with_reducible refine (HFR.out mb _ hv hM).mono ?_); rintro e w6 ⟨rfl, hq⟩; have hv := below_up hv hq; obtain ⟨q0, q1, q2, q3, q4, q5, q6⟩ := HCL.out _ hv; obtain ⟨d0, d1, d2, d3⟩ := HCT.out _ hv)
   | fail)
 have HBZ := Lib.hid (below_up HB1.out hv)
 clear hv q0 q1 q2 q3 q4 q5 q6 d0 d1 d2 d3
 go_wp2_with fail
 go_ret2
 exact ⟨rfl, HBZ.out⟩
end Go.Proofs.YthdiccdnggloiaaGreatDoor

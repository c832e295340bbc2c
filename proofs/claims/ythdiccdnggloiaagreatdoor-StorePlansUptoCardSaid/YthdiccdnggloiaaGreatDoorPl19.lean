/- Parts of the proof, no condition: StTnd. -/
import Derived.Test.YthdiccdnggloiaaGreatDoorPl18
import Derived.Test.YthdiccdnggloiaaGreatDoorPl13
import Derived.Deep.RegionHeld3
import Derived.Maps.RangeWalk
import Derived.Carry
set_option maxRecDepth 100000
set_option maxHeartbeats 16000000
set_option linter.unusedSimpArgs false
set_option linter.unusedVariables false
namespace Go.Proofs.YthdiccdnggloiaaGreatDoor
open Go.RowKit Go.Sort Go.Shelf Go.Maps
theorem below_own2 {B base : Nat} {a w w' : World} {v : Value} {n k : Nat} {e : TypeId} {xs : List Value} (h : Below B a w) (ho : w.ownsRow base e k v n xs) (hb : B ≤ base) (hg : w.grownBy w' v.ownBlock) (hB : B ≤ w.heap.size) : Below B a w' := by
 refine h.trans ⟨hg.os, hg.tape, hg.output, hg.size, fun j hj => ?_⟩
 refine hg.block j (by omega) fun e2 => ?_
 have h1 := (ho.lt j e2.symm).1
 omega
theorem target_is (s : Sto) (a : StA) (mb : Nat) (d : ByteArray) (FN : Nat) (mbf : Tir → Bool) (eg : ∀ args w, (callFunc FN args).run Tryz.prog w = .ok (.enter FN args) w) (w : World) (hI : StIn w s a) (hM : FMap w mb s.files) (r : St.Right s) (hd : d.size = 16)
  (hmb : ∀ V (x : Tir), Calls Tryz.prog FN #[.agg #[.string x.name, .int .i64 x.room, .int .i64 x.cost, .bool x.away]] V fun e w' => e = .returned (.bool (mbf x)) ∧ Below V.heap.size V w') :
  Calls Tryz.prog 182 #[.agg #[.int .i64 s.least, .int .i64 s.wait, .slice a.ta s.tiers.length a.tc, .slice a.fa s.files.length a.fc, .slice a.ca s.copies.length a.cc, .slice a.ha s.held.length a.hc, .slice a.ba s.bin.length a.bc, .map (some mb)], .string d, .func (.func FN) #[] #[]] w (TgPost w (St.tgt s d mbf) (fun t => St.evM s t (St.sizeOf s.files d))) := by
 obtain ⟨W1, hW1, hP, hz1, hB1⟩ := box w #[.int .i64 s.least, .int .i64 s.wait, .slice a.ta s.tiers.length a.tc, .slice a.fa s.files.length a.fc, .slice a.ca s.copies.length a.cc, .slice a.ha s.held.length a.hc, .slice a.ba s.bin.length a.bc, .map (some mb)] 135
 obtain ⟨W2, hW2, hQ, hz2, hB2⟩ := box W1 #[.string ⟨#[]⟩, .int .i64 0, .int .i64 0, .bool false] 46
 obtain ⟨W3, hW3⟩ : ∃ W3, W2.alloc (.map #[] 0) = W3 := ⟨_, rfl⟩
 have hm3 : VMap W3 W2.heap.size [] (fun _ => .slice none 0 0) := by rw [← hW3]; exact VMap.made W2 _
 have hB3 : Below W2.heap.size W2 W3 := by rw [← hW3]; exact (Below.refl _ _).alloc (Nat.le_refl _) _
 have hz3 : W3.heap.size = W2.heap.size + 1 := by rw [← hW3]; show (W2.heap.push _).size = _; simp
 have HW1 := Lib.hid hW1; have HW2 := Lib.hid hW2; have HW3 := Lib.hid hW3
 have hP := hP.keep hB2
 rw [hz1] at hQ hz2
 have HBW := Lib.hid (below_up hB1 hB2)
 obtain ⟨_, y1, y2, y3, y4, y5⟩ := St.sizes_iff.1 r.sizes
 have hcz : ∀ x ∈ s.copies, x.dig.size ≤ 100 ∧ x.tier.size ≤ 100 := fun x hx => by
  obtain ⟨g1, g2, _⟩ := St.cop_good r hx
  omega
 have HCR := Lib.hid (fun V => copiesRow_is s a V)
 have HPL := Lib.hid (fun V (hV : Below w.heap.size w V) k => hasC_is s.copies (St.cop_up r) hcz (by omega) k a.ca a.cc V hI.cl (hI.co.keep hV))
 have HCK := Lib.hid (fun V (t : ByteArray) (ht : t.size ≤ 100) => copyKey_is d t (by omega) ht V)
 have HHC := Lib.hid (fun t => (St.hasCopy_any r d t).symm)
 have HTG := Lib.hid (fun (x : Tir) (hx : x ∈ s.tiers) => St.name40 (St.tier_good r hx).1)
 have hbs : 0 ≤ St.sizeOf s.files d ∧ St.sizeOf s.files d ≤ 1000000000000 := by
  unfold St.sizeOf
  cases hf : St.fileOf s.files d with
  | none => exact ⟨by simp, by simp⟩
  | some f => have := (St.szs_of (F := s.files) (fun f hf => (r.dig f hf).2)) f (St.find_mem hf).1; exact ⟨this.1, by simp only; omega⟩
 have hfs : (St.filD s.files d).size = St.sizeOf s.files d := by
  unfold St.filD St.sizeOf
  cases St.fileOf s.files d <;> rfl
 obtain ⟨bs, hbse⟩ : ∃ bs, St.sizeOf s.files d = bs := ⟨_, rfl⟩
 have hca : St.cand s d mbf = fun t => (mbf t && !St.hasCopy s d t.name) && St.evOk s t bs := by rw [← hbse]; rfl
 rw [hbse] at hbs hfs ⊢
 have HEV := Lib.hid (fun V (hV : Below w.heap.size w V) t (ht : t ∈ s.tiers) => evict_is s a mb t ht bs hbs V (hI.keep hV) (hM.keep hV) r)
 have HFK := Lib.hid (fun V (hV : Below w.heap.size w V) => FMap.kind (hM.keep hV) r.fup (show d.size ≤ 9223372036854775807 by omega))
 have HFS := Lib.hid hfs; have HCA := Lib.hid hca; have HR := Lib.hid r; have HMB := Lib.hid hmb; have HI := Lib.hid hI
 have htl := hI.tl
 have HCL : Hid (∀ V, Below W2.heap.size W2 V → V.cell? ⟨w.heap.size, 0, none⟩ = some (.int .i64 s.least) ∧ V.cell? ⟨w.heap.size, 1, none⟩ = some (.int .i64 s.wait) ∧ V.cell? ⟨w.heap.size, 2, none⟩ = some (.slice a.ta s.tiers.length a.tc) ∧ V.cell? ⟨w.heap.size, 3, none⟩ = some (.slice a.fa s.files.length a.fc) ∧ V.cell? ⟨w.heap.size, 4, none⟩ = some (.slice a.ca s.copies.length a.cc) ∧ V.cell? ⟨w.heap.size, 5, none⟩ = some (.slice a.ha s.held.length a.hc) ∧ V.cell? ⟨w.heap.size, 6, none⟩ = some (.slice a.ba s.bin.length a.bc) ∧ V.cell? ⟨w.heap.size, 7, none⟩ = some (.map (some mb))) := Lib.hid fun V hv => (hP.keep hv).eight
 have HQZ : Hid (∀ V, Below W2.heap.size W2 V → Blk V (w.heap.size + 1) #[.string ⟨#[]⟩, .int .i64 0, .int .i64 0, .bool false] 46) := Lib.hid fun V hv => hQ.keep hv
 have HTZ : Hid (W2.heap.size = w.heap.size + 2 ∧ W3.heap.size = w.heap.size + 3) := Lib.hid ⟨by omega, by omega⟩
 have HM3 := Lib.hid hm3; have HB3 := Lib.hid hB3
 obtain ⟨m0, m1, m2, m3, m4, m5, m6, m7⟩ := HCL.out _ hB3
 have hmm := @run_makeMap Tryz.prog
 have HTD : Hid (St.tgt s d mbf = if (s.tiers.filter (St.cand s d mbf)).length = 0 then none else some (St.cheap (s.tiers.filter (St.cand s d mbf)))) := Lib.hid rfl
 generalize St.tgt s d mbf = TG at *
 clear hI hM r hcz hW1 hW2 hW3 hP hQ hz1 hz2 hz3 hB1 hB2 hB3 hm3 m0 m1 m3 m4 m5 m6 m7 y2 y4 y5 hfs hca hmb hbse
 obtain ⟨nt, hnt⟩ : ∃ nt, s.tiers.length = nt := ⟨_, rfl⟩
 have HNT := Lib.hid hnt
 rw [hnt] at htl y1 HCL m2 HW1 HCR HEV ⊢
 clear hnt
 go_enter Tryz.func182, Tryz.ntmps182
 go_upto_region 1 with fail
 rw [HW1.out, HW2.out]
 go_upto_region 2 with fail
 rw [HW3.out]
 go_wp2_with fail
 clear m2
 go_loopg [10, 21] nt (fun gk v i wr => ∃ (j : Nat) (fv : ByteArray → Value), j ≤ nt ∧ gk = nt - j ∧ i = .int .i64 j ∧ wr.ownsRow W3.heap.size 46 4 v ((s.tiers.take j).filter (St.cand s d mbf)).length (St.eT.flat ((s.tiers.take j).filter (St.cand s d mbf))) ∧ VMap wr W2.heap.size (((s.tiers.take j).filter (St.cand s d mbf)).map (·.name)) fv ∧ (∀ t ∈ (s.tiers.take j).filter (St.cand s d mbf), MvRow wr W3.heap.size (fv t.name) (St.evM s t bs)) ∧ Below W2.heap.size W2 wr)
 case atStart => exact ⟨0, fun _ => .slice none 0 0, by omega, rfl, rfl, World.ownsRow_nil _ _ _ _, HM3.out, fun t h => by simp at h, HB3.out⟩
 case round =>
  obtain ⟨j, fv, hj, rfl, rfl, hown, hvm, hro, hB⟩ := hrel
  by_cases hlt : j < nt
  ·obtain ⟨x, hx⟩ : ∃ x, s.tiers[j]? = some x := ⟨_, List.getElem?_eq_getElem (by rw [HNT.out]; exact hlt)⟩
   obtain ⟨b, off, ha, hb, hcell⟩ := ((HI.out.keep (below_up HBW.out hB)).ti) (by rw [HNT.out]; omega)
   have c0 : wr.cell? ⟨b, off + j * 4, none⟩ = some (.string x.name) := hcell j x hx 0 (.string x.name) rfl
   have c1 : wr.cell? ⟨b, off + j * 4 + 1, none⟩ = some (.int .i64 x.room) := hcell j x hx 1 (.int .i64 x.room) rfl
   have c2 : wr.cell? ⟨b, off + j * 4 + 2, none⟩ = some (.int .i64 x.cost) := hcell j x hx 2 (.int .i64 x.cost) rfl
   have c3 : wr.cell? ⟨b, off + j * 4 + 3, none⟩ = some (.bool x.away) := hcell j x hx 3 (.bool x.away) rfl
   clear hcell
   have hft := St.filter_take (p := St.cand s d mbf) hx
   have hfl := St.filter_len (p := St.cand s d mbf) (L := s.tiers) j
   rw [HNT.out] at hfl
   have hmem := List.mem_of_getElem? hx
   have hnm := HTG.out x hmem
   have hKm : ∀ t ∈ (s.tiers.take j).filter (St.cand s d mbf), t ∈ s.tiers := fun t ht => List.mem_of_mem_take (List.mem_filter.1 ht).1
   obtain ⟨W4, hW4, hX4, hz4, hB4⟩ := box wr #[.string x.name, .int .i64 x.room, .int .i64 x.cost, .bool x.away] 46
   have HW4 := Lib.hid hW4
   have HAW := Lib.hid (below_up hB hB4)
   have hsz1 := hB.size
   have hown4 := own_keepE hown hB4
   have hvm4 := hvm.keep hB4
   have hro4 := fun t ht => OwnV.keep (hro t ht) hB4
   have HXB : Hid (∀ V, Below W4.heap.size W4 V → Blk V wr.heap.size #[.string x.name, .int .i64 x.room, .int .i64 x.cost, .bool x.away] 46) := Lib.hid fun V hv => hX4.keep hv
   have HX : Hid (∀ V, Below W4.heap.size W4 V → V.cell? ⟨wr.heap.size, 0, none⟩ = some (.string x.name) ∧ V.cell? ⟨wr.heap.size, 1, none⟩ = some (.int .i64 x.room) ∧ V.cell? ⟨wr.heap.size, 2, none⟩ = some (.int .i64 x.cost) ∧ V.cell? ⟨wr.heap.size, 3, none⟩ = some (.bool x.away)) := Lib.hid fun V hv => (hX4.keep hv).four
   have HKX := Lib.hid (keyS (d := x.name) (by omega))
   have HKY := Lib.hid (fun V => HCK.out V x.name (by omega))
   have HMX := Lib.hid (fun V => HMB.out V x)
   have HEX := Lib.hid (fun V hV => HEV.out V hV x hmem)
   have hhc := HHC.out x.name
   obtain ⟨key, hkey⟩ : ∃ key, St.key d x.name = key := ⟨_, rfl⟩
   rw [hkey] at HKY hhc
   have HPK := Lib.hid (fun V hV => HPL.out V hV key)
   have hcx : St.cand s d mbf x = ((mbf x && !St.hasCopy s d x.name) && St.evOk s x bs) := by rw [HCA.out]
   rw [← hhc] at hcx
   have hj0 : (0 : Int) ≤ (j : Int) := by omega
   have hj1 : (j : Int) < (nt : Int) := by omega
   have HRP := Lib.hid (fun (w' : World) (fv : ByteArray → Value) (v : Value) (h : ∀ t ∈ (s.tiers.take j).filter (St.cand s d mbf), MvRow w' W3.heap.size (fv t.name) (St.evM s t bs)) (hv : MvRow w' W3.heap.size v (St.evM s x bs)) => rows_put (w := w') (B := W3.heap.size) (b := bs) HR.out hKm hmem h hv)
   generalize ((s.tiers.take j).filter (St.cand s d mbf)) = G at *
   generalize St.cand s d mbf x = cx at *
   generalize St.hasK St.ckey s.copies key = hk at *
   have hlt2 := hvm.lt
   obtain ⟨ok, hok⟩ : ∃ ok, St.evOk s x bs = ok := ⟨_, rfl⟩
   rw [hok] at hcx
   have HOK := Lib.hid hok
   clear hok
   generalize mbf x = mq at *
   have HFT := Lib.hid hft; have HCX := Lib.hid hcx; have HOW := Lib.hid hown4; have HVM := Lib.hid hvm4; have HRO := Lib.hid hro4
   have hz4' := hz4
   clear hx hB hX4 hz4 hB4 hW4 hown hvm hro hft hcx hown4 hvm4 hro4 hkey hhc hmem hKm hnm
   have hv : Below W4.heap.size W4 W4.drew := (Below.refl _ _).drew
   obtain ⟨e0, e1, e2, e3⟩ := HX.out _ hv
   obtain ⟨n0, n1, n2, n3, n4, n5, n6, n7⟩ := HCL.out _ (below_up HAW.out hv)
   rw [ha] at HCR HCL HEX n2 ⊢
   go_upto_region 6 with fail
   rw [HW4.out]
   clear c0 c1 c2 c3
   cases mq
   ·refine wp_region_held_drew (S := (fun w' => (w'.cell? ⟨w.heap.size, 0, none⟩ = some (.int .i64 s.least) ∧ w'.cell? ⟨w.heap.size, 1, none⟩ = some (.int .i64 s.wait) ∧ w'.cell? ⟨w.heap.size, 2, none⟩ = some (.slice (some ⟨b, off, none⟩) nt a.tc) ∧ w'.cell? ⟨w.heap.size, 3, none⟩ = some (.slice a.fa s.files.length a.fc) ∧ w'.cell? ⟨w.heap.size, 4, none⟩ = some (.slice a.ca s.copies.length a.cc) ∧ w'.cell? ⟨w.heap.size, 5, none⟩ = some (.slice a.ha s.held.length a.hc) ∧ w'.cell? ⟨w.heap.size, 6, none⟩ = some (.slice a.ba s.bin.length a.bc) ∧ w'.cell? ⟨w.heap.size, 7, none⟩ = some (.map (some mb))) ∧ w'.cell? ⟨wr.heap.size, 0, none⟩ = some (.string x.name) ∧ w'.cell? ⟨wr.heap.size, 1, none⟩ = some (.int .i64 x.room) ∧ w'.cell? ⟨wr.heap.size, 2, none⟩ = some (.int .i64 x.cost) ∧ w'.cell? ⟨wr.heap.size, 3, none⟩ = some (.bool x.away))) (by kernel_rfl) ⟨⟨n0, n1, n2, n3, n4, n5, n6, n7⟩, e0, e1, e2, e3⟩ (fun hHeld => ?_)
    generalize W4.drew = w5 at *
    refine wpAnyH_take (i := 0) (v := ?_) rfl (by kernel_rfl) (by kernel_rfl) (by kernel_rfl) (fun _ _ _ h => h) (Or.inl ⟨by kernel_rfl, ?_⟩) (by assumption) ?_
    rotate_left
    ·(intro w hSw; (try dsimp only at hSw); go_simp; try (with_reducible rfl))
    try go_frame
    refine wpAnyH_take (i := 1) (v := ?_) rfl (by kernel_rfl) (by kernel_rfl) (by kernel_rfl) (fun _ _ _ h => h) (Or.inl ⟨by kernel_rfl, ?_⟩) (by assumption) ?_
    rotate_left
    ·(intro w hSw; (try dsimp only at hSw); go_simp; try (with_reducible rfl))
    try go_frame
    refine wpAnyH_ready (rs := [2]) (by kernel_rfl) (by simp) ?_
    refine AllReadyH.cons rfl (fun K hK => ?_) AllReadyH.nil
    go_simp
    refine (HMX.out _).mono ?_
    rintro e wo ⟨rfl, hq⟩
    have hv := below_up hv hq
    clear n0 n1 n2 n3 n4 n5 n6 n7 e0 e1 e2 e3
    obtain ⟨n0, n1, n2, n3, n4, n5, n6, n7⟩ := HCL.out _ (below_up HAW.out hv)
    obtain ⟨e0, e1, e2, e3⟩ := HX.out _ hv
    refine hK.out _ _ (⟨⟨n0, n1, n2, n3, n4, n5, n6, n7⟩, e0, e1, e2, e3⟩) (fun hHeld => ?_)
    clear hK K
    try go_frame
    refine wpAnyH_take (i := 3) (v := ?_) rfl (by kernel_rfl) (by kernel_rfl) (by kernel_rfl) (fun _ _ _ h => h) (Or.inl ⟨by kernel_rfl, ?_⟩) (by assumption) ?_
    rotate_left
    ·(intro w hSw; (try dsimp only at hSw); go_simp; try (with_reducible rfl))
    try go_frame
    refine wpAnyH_take (i := 4) (v := ?_) rfl (by kernel_rfl) (by kernel_rfl) (by kernel_rfl) (fun _ _ _ h => h) (Or.inl ⟨by kernel_rfl, ?_⟩) (by assumption) ?_
    rotate_left
    ·(intro w hSw; (try dsimp only at hSw); go_simp; try (with_reducible rfl))
    try go_frame
    refine wpAnyH_take (i := 5) (v := ?_) rfl (by kernel_rfl) (by kernel_rfl) (by kernel_rfl) (fun _ _ _ h => h) (Or.inr ⟨by kernel_rfl, ?_⟩) (by assumption) ?_
    rotate_left
    ·rfl
    try go_frame
    refine wpAnyH_take (i := 6) (v := ?_) rfl (by kernel_rfl) (by kernel_rfl) (by kernel_rfl) (fun _ _ _ h => h) (Or.inr ⟨by kernel_rfl, ?_⟩) (by assumption) ?_
    rotate_left
    ·rfl
    try go_frame
    refine wpAnyH_take (i := 7) (v := ?_) rfl (by kernel_rfl) (by kernel_rfl) (by kernel_rfl) (fun _ _ _ h => h) (Or.inr ⟨by kernel_rfl, ?_⟩) (by assumption) ?_
    rotate_left
    ·rfl
    try go_frame
    refine wpAnyH_take (i := 8) (v := ?_) rfl (by kernel_rfl) (by kernel_rfl) (by kernel_rfl) (fun _ _ _ h => h) (Or.inr ⟨by kernel_rfl, ?_⟩) (by assumption) ?_
    rotate_left
    ·rfl
    try go_frame
    refine wpAnyH_take (i := 9) (v := ?_) rfl (by kernel_rfl) (by kernel_rfl) (by kernel_rfl) (fun _ _ _ h => h) (Or.inr ⟨by kernel_rfl, ?_⟩) (by assumption) ?_
    rotate_left
    ·rfl
    try go_frame
    refine wpAnyH_take (i := 10) (v := ?_) rfl (by kernel_rfl) (by kernel_rfl) (by kernel_rfl) (fun _ _ _ h => h) (Or.inr ⟨by kernel_rfl, ?_⟩) (by assumption) ?_
    rotate_left
    ·rfl
    try go_frame
    refine wpAnyH_take (i := 11) (v := ?_) rfl (by kernel_rfl) (by kernel_rfl) (by kernel_rfl) (fun _ _ _ h => h) (Or.inr ⟨by kernel_rfl, ?_⟩) (by assumption) ?_
    rotate_left
    ·rfl
    try go_frame
    refine wpAnyH_take (i := 12) (v := ?_) rfl (by kernel_rfl) (by kernel_rfl) (by kernel_rfl) (fun _ _ _ h => h) (Or.inr ⟨by kernel_rfl, ?_⟩) (by assumption) ?_
    rotate_left
    ·rfl
    try go_frame
    refine wpAnyH_take (i := 13) (v := ?_) rfl (by kernel_rfl) (by kernel_rfl) (by kernel_rfl) (fun _ _ _ h => h) (Or.inl ⟨by kernel_rfl, ?_⟩) (by assumption) ?_
    rotate_left
    ·(intro w hSw; (try dsimp only at hSw); go_simp; try (with_reducible rfl))
    try go_frame
    refine wpAnyH_done (by kernel_rfl) ?_ _
    go_simp
    go_wp2_with fail
    rw [← ha]
    go_roundg (nt - (j + 1))
    case rel => exact ⟨j + 1, fv, by omega, rfl, by go_num, by rw [HFT.out, if_neg (by rw [HCX.out]; simp), List.append_nil]; exact own_keepE HOW.out hv, by rw [HFT.out, if_neg (by rw [HCX.out]; simp), List.append_nil]; exact HVM.out.keep hv, by rw [HFT.out, if_neg (by rw [HCX.out]; simp), List.append_nil]; exact fun t ht => OwnV.keep (HRO.out t ht) hv, below_up HAW.out hv⟩
    case measure => omega
   ·cases hk
    ·refine wp_region_held_drew (S := (fun w' => (w'.cell? ⟨w.heap.size, 0, none⟩ = some (.int .i64 s.least) ∧ w'.cell? ⟨w.heap.size, 1, none⟩ = some (.int .i64 s.wait) ∧ w'.cell? ⟨w.heap.size, 2, none⟩ = some (.slice (some ⟨b, off, none⟩) nt a.tc) ∧ w'.cell? ⟨w.heap.size, 3, none⟩ = some (.slice a.fa s.files.length a.fc) ∧ w'.cell? ⟨w.heap.size, 4, none⟩ = some (.slice a.ca s.copies.length a.cc) ∧ w'.cell? ⟨w.heap.size, 5, none⟩ = some (.slice a.ha s.held.length a.hc) ∧ w'.cell? ⟨w.heap.size, 6, none⟩ = some (.slice a.ba s.bin.length a.bc) ∧ w'.cell? ⟨w.heap.size, 7, none⟩ = some (.map (some mb))) ∧ w'.cell? ⟨wr.heap.size, 0, none⟩ = some (.string x.name) ∧ w'.cell? ⟨wr.heap.size, 1, none⟩ = some (.int .i64 x.room) ∧ w'.cell? ⟨wr.heap.size, 2, none⟩ = some (.int .i64 x.cost) ∧ w'.cell? ⟨wr.heap.size, 3, none⟩ = some (.bool x.away))) (by kernel_rfl) ⟨⟨n0, n1, n2, n3, n4, n5, n6, n7⟩, e0, e1, e2, e3⟩ (fun hHeld => ?_)
     generalize W4.drew = w5 at *
     refine wpAnyH_take (i := 0) (v := ?_) rfl (by kernel_rfl) (by kernel_rfl) (by kernel_rfl) (fun _ _ _ h => h) (Or.inl ⟨by kernel_rfl, ?_⟩) (by assumption) ?_
     rotate_left
     ·(intro w hSw; (try dsimp only at hSw); go_simp; try (with_reducible rfl))
     try go_frame
     refine wpAnyH_take (i := 1) (v := ?_) rfl (by kernel_rfl) (by kernel_rfl) (by kernel_rfl) (fun _ _ _ h => h) (Or.inl ⟨by kernel_rfl, ?_⟩) (by assumption) ?_
     rotate_left
     ·(intro w hSw; (try dsimp only at hSw); go_simp; try (with_reducible rfl))
     try go_frame
     refine wpAnyH_ready (rs := [2]) (by kernel_rfl) (by simp) ?_
     refine AllReadyH.cons rfl (fun K hK => ?_) AllReadyH.nil
     go_simp
     refine (HMX.out _).mono ?_
     rintro e wo ⟨rfl, hq⟩
     have hv := below_up hv hq
     clear n0 n1 n2 n3 n4 n5 n6 n7 e0 e1 e2 e3
     obtain ⟨n0, n1, n2, n3, n4, n5, n6, n7⟩ := HCL.out _ (below_up HAW.out hv)
     obtain ⟨e0, e1, e2, e3⟩ := HX.out _ hv
     refine hK.out _ _ (⟨⟨n0, n1, n2, n3, n4, n5, n6, n7⟩, e0, e1, e2, e3⟩) (fun hHeld => ?_)
     clear hK K
     try go_frame
     refine wpAnyH_take (i := 3) (v := ?_) rfl (by kernel_rfl) (by kernel_rfl) (by kernel_rfl) (fun _ _ _ h => h) (Or.inl ⟨by kernel_rfl, ?_⟩) (by assumption) ?_
     rotate_left
     ·(intro w hSw; (try dsimp only at hSw); go_simp; try (with_reducible rfl))
     try go_frame
     refine wpAnyH_take (i := 4) (v := ?_) rfl (by kernel_rfl) (by kernel_rfl) (by kernel_rfl) (fun _ _ _ h => h) (Or.inl ⟨by kernel_rfl, ?_⟩) (by assumption) ?_
     rotate_left
     ·(intro w hSw; (try dsimp only at hSw); go_simp; try (with_reducible rfl))
     try go_frame
     refine wpAnyH_take (i := 5) (v := ?_) rfl (by kernel_rfl) (by kernel_rfl) (by kernel_rfl) (fun _ _ _ h => h) (Or.inl ⟨by kernel_rfl, ?_⟩) (by assumption) ?_
     rotate_left
     ·(intro w hSw; (try dsimp only at hSw); go_simp; try (with_reducible rfl))
     try go_frame
     refine wpAnyH_take (i := 6) (v := ?_) rfl (by kernel_rfl) (by kernel_rfl) (by kernel_rfl) (fun _ _ _ h => h) (Or.inl ⟨by kernel_rfl, ?_⟩) (by assumption) ?_
     rotate_left
     ·(intro w hSw; (try dsimp only at hSw); go_simp; try (with_reducible rfl))
     try go_frame
     refine wpAnyH_take (i := 8) (v := ?_) rfl (by kernel_rfl) (by kernel_rfl) (by kernel_rfl) (fun _ _ _ h => h) (Or.inl ⟨by kernel_rfl, ?_⟩) (by assumption) ?_
     rotate_left
     ·(intro w hSw; (try dsimp only at hSw); go_simp; try (with_reducible rfl))
     try go_frame
     refine wpAnyH_take (i := 9) (v := ?_) rfl (by kernel_rfl) (by kernel_rfl) (by kernel_rfl) (fun _ _ _ h => h) (Or.inl ⟨by kernel_rfl, ?_⟩) (by assumption) ?_
     rotate_left
     ·(intro w hSw; (try dsimp only at hSw); go_simp; try (with_reducible rfl))
     try go_frame
     refine wpAnyH_take (i := 10) (v := ?_) rfl (by kernel_rfl) (by kernel_rfl) (by kernel_rfl) (fun _ _ _ h => h) (Or.inl ⟨by kernel_rfl, ?_⟩) (by assumption) ?_
     rotate_left
     ·(intro w hSw; (try dsimp only at hSw); go_simp; try (with_reducible rfl))
     try go_frame
     refine wpAnyH_ready (rs := [7]) (by kernel_rfl) (by simp) ?_
     refine AllReadyH.cons rfl (fun K hK => ?_) AllReadyH.nil
     go_simp
     refine (HCR.out _).mono ?_
     rintro e wo2 ⟨rfl, hq⟩
     have hv := below_up hv hq
     clear n0 n1 n2 n3 n4 n5 n6 n7 e0 e1 e2 e3
     obtain ⟨n0, n1, n2, n3, n4, n5, n6, n7⟩ := HCL.out _ (below_up HAW.out hv)
     obtain ⟨e0, e1, e2, e3⟩ := HX.out _ hv
     refine hK.out _ _ (⟨⟨n0, n1, n2, n3, n4, n5, n6, n7⟩, e0, e1, e2, e3⟩) (fun hHeld => ?_)
     clear hK K
     try go_frame
     refine wpAnyH_ready (rs := [11]) (by kernel_rfl) (by simp) ?_
     refine AllReadyH.cons rfl (fun K hK => ?_) AllReadyH.nil
     go_simp
     refine (HKY.out _).mono ?_
     rintro e wo3 ⟨rfl, rfl⟩
     refine hK.out _ _ (⟨⟨n0, n1, n2, n3, n4, n5, n6, n7⟩, e0, e1, e2, e3⟩) (fun hHeld => ?_)
     clear hK K
     try go_frame
     refine wpAnyH_ready (rs := [12]) (by kernel_rfl) (by simp) ?_
     refine AllReadyH.cons rfl (fun K hK => ?_) AllReadyH.nil
     go_simp
     refine (HPK.out _ (below_up HBW.out (below_up HAW.out hv))).mono ?_
     rintro e wo4 ⟨rfl, hq⟩
     have hv := below_up hv hq
     clear n0 n1 n2 n3 n4 n5 n6 n7 e0 e1 e2 e3
     obtain ⟨n0, n1, n2, n3, n4, n5, n6, n7⟩ := HCL.out _ (below_up HAW.out hv)
     obtain ⟨e0, e1, e2, e3⟩ := HX.out _ hv
     refine hK.out _ _ (⟨⟨n0, n1, n2, n3, n4, n5, n6, n7⟩, e0, e1, e2, e3⟩) (fun hHeld => ?_)
     clear hK K
     try go_frame
     refine wpAnyH_take (i := 13) (v := ?_) rfl (by kernel_rfl) (by kernel_rfl) (by kernel_rfl) (fun _ _ _ h => h) (Or.inl ⟨by kernel_rfl, ?_⟩) (by assumption) ?_
     rotate_left
     ·(intro w hSw; (try dsimp only at hSw); go_simp; try (with_reducible rfl))
     try go_frame
     refine wpAnyH_done (by kernel_rfl) ?_ _
     go_simp
     obtain ⟨f, hlk, hf⟩ := HFK.out _ (below_up HBW.out (below_up HAW.out hv))
     have hfz : f.size = bs := by rw [hf]; exact HFS.out
     rw [hfz] at hlk
     clear hf hfz
     have hfd := fldSize
     have HEW := Lib.hid (HEX.out _ (below_up HBW.out (below_up HAW.out hv)))
     cases ok
     ·go_wp2_with (go_at_call 94; (with_reducible refine HEW.out.mono ?_); intro e w6 hE; obtain ⟨ge, ce, ne, hne, he, ho, hq⟩ := evPost_at hE; rw [HOK.out] at he; subst he; have hv := below_up hv hq; clear hE hne ho hlk)
      rw [← ha]
      go_roundg (nt - (j + 1))
      case rel => exact ⟨j + 1, fv, by omega, rfl, by go_num, by rw [HFT.out, if_neg (by rw [HCX.out]; simp), List.append_nil]; exact own_keepE HOW.out hv, by rw [HFT.out, if_neg (by rw [HCX.out]; simp), List.append_nil]; exact HVM.out.keep hv, by rw [HFT.out, if_neg (by rw [HCX.out]; simp), List.append_nil]; exact fun t ht => OwnV.keep (HRO.out t ht) hv, below_up HAW.out hv⟩
      case measure => omega
     ·obtain ⟨FL, hFL⟩ : ∃ FL, St.eT.flat G = FL := ⟨_, rfl⟩
      obtain ⟨m, hm⟩ : ∃ m, G.length = m := ⟨_, rfl⟩
      have HFL : Hid (St.eT.flat (G ++ [x]) = FL ++ [.string x.name, .int .i64 x.room, .int .i64 x.cost, .bool x.away]) := Lib.hid (by rw [Enc.flat_snoc, hFL]; rfl)
      have HM : Hid ((G ++ [x]).length = m + 1) := Lib.hid (by rw [List.length_append, hm]; rfl)
      have HOX := HOW
      rw [hFL, hm] at HOX
      rw [hm] at hfl
      have HGM := Lib.hid hm
      clear hFL hm HOW
      have HZ : Hid (W2.heap.size < wr.heap.size ∧ W3.heap.size = W2.heap.size + 1 ∧ W4.heap.size = wr.heap.size + 1) := Lib.hid ⟨hlt2, by have := HTZ.out; omega, hz4'⟩
      clear hlt2 hz4'
      go_wp2_with (first
       | (go_at_call 94; (with_reducible refine HEW.out.mono ?_); intro e w6 hE; obtain ⟨ge, ce, ne, hne, he, ho, hq⟩ := evPost_at hE; rw [HOK.out] at he; subst he; have hvv := hv.size; have hv := below_up hv hq; obtain ⟨e0, e1, e2, e3⟩ := HX.out _ hv; obtain ⟨D, h1, h2, h3⟩ := HVM.out.keep hv; have H1 := Lib.hid h1; have H2 := Lib.hid h2; have H3 := Lib.hid h3; have HV := Lib.hid hv; have HEO := Lib.hid ho; have HEN := Lib.hid hne; clear hE hne ho hlk h1 h2 h3)
       | (at_mapUpdate; (refine wpList_mapUpdate_own _ rfl _ _ _ 236 rfl 9 41 (string_keyed Tryz.underlying9) Tryz.underlying236 St.rdF W2.heap.size (G.map (·.name)).length D rfl H1.out (by rw [List.length_map, HGM.out]; unfold maxLen; omega) _ _ (St.kl x.name) rfl rfl HKX.out (.held (.slice ge ne ce)) [] rfl ?_; intro w7 hown7 hg7); have hXw := ((HXB.out _ HV.out).of_block (hg7.block _ (by have := HV.out.size; have := HZ.out; omega) (by intro e; have e2 := Option.some.inj e; have := HZ.out; omega))).four; obtain ⟨e0, e1, e2, e3⟩ := hXw; have HVP := Lib.hid (VMap.put H2.out H3.out hown7); have hrow7 := own_off (own_keepE HOX.out HV.out) (by have := HZ.out; omega) hg7; have HRW := Lib.hid hrow7; have HB7 := Lib.hid ((below_up HAW.out HV.out).trans (below_of_grownS hg7 (below_up HAW.out HV.out).size (Nat.le_refl _))); have HG7 := Lib.hid hg7; clear hown7 hrow7 hg7)
       | (at_builtin; refine list_appT rfl _ _ rfl _ _ m FL (by rfl) (by rfl) HRW.out (by omega) (by have := HG7.out.size; have := HV.out.size; have := HZ.out; omega) (by rfl) (by simp [Value.oneCell']) ?_; intro g8 cap8 w8 hown8 hgrow8))
      rw [← ha]
      have hal7 := (Below.refl w7.heap.size w7).alloc (Nat.le_refl _) (.cells #[.string x.name, .int .i64 x.room, .int .i64 x.cost, .bool x.away] 46)
      go_roundg (nt - (j + 1))
      case rel => exact ⟨j + 1, fvPut fv x.name (.slice ge ne ce), by omega, rfl, by go_num, by rw [HFT.out, if_pos (by rw [HCX.out]; rfl), HFL.out, HM.out]; exact hown8, by rw [HFT.out, if_pos (by rw [HCX.out]; rfl), List.map_append]; exact (HVP.out.keep hal7).kept hgrow8 (by intro e; have := (HRW.out.lt _ e.symm).1; have := HZ.out; omega), by rw [HFT.out, if_pos (by rw [HCX.out]; rfl)]; exact HRP.out w8 fv (.slice ge ne ce) (fun t ht => own_far (OwnV.keep (OwnV.off (OwnV.keep (HRO.out t ht) HV.out) (by have := HZ.out; omega) HG7.out) hal7) (HRW.out.alloc _) (by decide) hgrow8) (by unfold MvRow; rw [HEN.out]; exact own_far (OwnV.keep (OwnV.off (HEO.out.down (by have := HZ.out; omega)) (by have := HZ.out; omega) HG7.out) hal7) (HRW.out.alloc _) (by decide) hgrow8), below_own2 (HB7.out.alloc HB7.out.size _) (HRW.out.alloc _) (by have := HZ.out; omega) hgrow8 (Nat.le_trans HB7.out.size hal7.size)⟩
      case measure => omega
    ·refine wp_region_held_drew (S := (fun w' => (w'.cell? ⟨w.heap.size, 0, none⟩ = some (.int .i64 s.least) ∧ w'.cell? ⟨w.heap.size, 1, none⟩ = some (.int .i64 s.wait) ∧ w'.cell? ⟨w.heap.size, 2, none⟩ = some (.slice (some ⟨b, off, none⟩) nt a.tc) ∧ w'.cell? ⟨w.heap.size, 3, none⟩ = some (.slice a.fa s.files.length a.fc) ∧ w'.cell? ⟨w.heap.size, 4, none⟩ = some (.slice a.ca s.copies.length a.cc) ∧ w'.cell? ⟨w.heap.size, 5, none⟩ = some (.slice a.ha s.held.length a.hc) ∧ w'.cell? ⟨w.heap.size, 6, none⟩ = some (.slice a.ba s.bin.length a.bc) ∧ w'.cell? ⟨w.heap.size, 7, none⟩ = some (.map (some mb))) ∧ w'.cell? ⟨wr.heap.size, 0, none⟩ = some (.string x.name) ∧ w'.cell? ⟨wr.heap.size, 1, none⟩ = some (.int .i64 x.room) ∧ w'.cell? ⟨wr.heap.size, 2, none⟩ = some (.int .i64 x.cost) ∧ w'.cell? ⟨wr.heap.size, 3, none⟩ = some (.bool x.away))) (by kernel_rfl) ⟨⟨n0, n1, n2, n3, n4, n5, n6, n7⟩, e0, e1, e2, e3⟩ (fun hHeld => ?_)
     generalize W4.drew = w5 at *
     refine wpAnyH_take (i := 0) (v := ?_) rfl (by kernel_rfl) (by kernel_rfl) (by kernel_rfl) (fun _ _ _ h => h) (Or.inl ⟨by kernel_rfl, ?_⟩) (by assumption) ?_
     rotate_left
     ·(intro w hSw; (try dsimp only at hSw); go_simp; try (with_reducible rfl))
     try go_frame
     refine wpAnyH_take (i := 1) (v := ?_) rfl (by kernel_rfl) (by kernel_rfl) (by kernel_rfl) (fun _ _ _ h => h) (Or.inl ⟨by kernel_rfl, ?_⟩) (by assumption) ?_
     rotate_left
     ·(intro w hSw; (try dsimp only at hSw); go_simp; try (with_reducible rfl))
     try go_frame
     refine wpAnyH_ready (rs := [2]) (by kernel_rfl) (by simp) ?_
     refine AllReadyH.cons rfl (fun K hK => ?_) AllReadyH.nil
     go_simp
     refine (HMX.out _).mono ?_
     rintro e wo ⟨rfl, hq⟩
     have hv := below_up hv hq
     clear n0 n1 n2 n3 n4 n5 n6 n7 e0 e1 e2 e3
     obtain ⟨n0, n1, n2, n3, n4, n5, n6, n7⟩ := HCL.out _ (below_up HAW.out hv)
     obtain ⟨e0, e1, e2, e3⟩ := HX.out _ hv
     refine hK.out _ _ (⟨⟨n0, n1, n2, n3, n4, n5, n6, n7⟩, e0, e1, e2, e3⟩) (fun hHeld => ?_)
     clear hK K
     try go_frame
     refine wpAnyH_take (i := 3) (v := ?_) rfl (by kernel_rfl) (by kernel_rfl) (by kernel_rfl) (fun _ _ _ h => h) (Or.inl ⟨by kernel_rfl, ?_⟩) (by assumption) ?_
     rotate_left
     ·(intro w hSw; (try dsimp only at hSw); go_simp; try (with_reducible rfl))
     try go_frame
     refine wpAnyH_take (i := 4) (v := ?_) rfl (by kernel_rfl) (by kernel_rfl) (by kernel_rfl) (fun _ _ _ h => h) (Or.inl ⟨by kernel_rfl, ?_⟩) (by assumption) ?_
     rotate_left
     ·(intro w hSw; (try dsimp only at hSw); go_simp; try (with_reducible rfl))
     try go_frame
     refine wpAnyH_take (i := 5) (v := ?_) rfl (by kernel_rfl) (by kernel_rfl) (by kernel_rfl) (fun _ _ _ h => h) (Or.inl ⟨by kernel_rfl, ?_⟩) (by assumption) ?_
     rotate_left
     ·(intro w hSw; (try dsimp only at hSw); go_simp; try (with_reducible rfl))
     try go_frame
     refine wpAnyH_take (i := 6) (v := ?_) rfl (by kernel_rfl) (by kernel_rfl) (by kernel_rfl) (fun _ _ _ h => h) (Or.inl ⟨by kernel_rfl, ?_⟩) (by assumption) ?_
     rotate_left
     ·(intro w hSw; (try dsimp only at hSw); go_simp; try (with_reducible rfl))
     try go_frame
     refine wpAnyH_take (i := 8) (v := ?_) rfl (by kernel_rfl) (by kernel_rfl) (by kernel_rfl) (fun _ _ _ h => h) (Or.inl ⟨by kernel_rfl, ?_⟩) (by assumption) ?_
     rotate_left
     ·(intro w hSw; (try dsimp only at hSw); go_simp; try (with_reducible rfl))
     try go_frame
     refine wpAnyH_take (i := 9) (v := ?_) rfl (by kernel_rfl) (by kernel_rfl) (by kernel_rfl) (fun _ _ _ h => h) (Or.inl ⟨by kernel_rfl, ?_⟩) (by assumption) ?_
     rotate_left
     ·(intro w hSw; (try dsimp only at hSw); go_simp; try (with_reducible rfl))
     try go_frame
     refine wpAnyH_take (i := 10) (v := ?_) rfl (by kernel_rfl) (by kernel_rfl) (by kernel_rfl) (fun _ _ _ h => h) (Or.inl ⟨by kernel_rfl, ?_⟩) (by assumption) ?_
     rotate_left
     ·(intro w hSw; (try dsimp only at hSw); go_simp; try (with_reducible rfl))
     try go_frame
     refine wpAnyH_ready (rs := [7]) (by kernel_rfl) (by simp) ?_
     refine AllReadyH.cons rfl (fun K hK => ?_) AllReadyH.nil
     go_simp
     refine (HCR.out _).mono ?_
     rintro e wo2 ⟨rfl, hq⟩
     have hv := below_up hv hq
     clear n0 n1 n2 n3 n4 n5 n6 n7 e0 e1 e2 e3
     obtain ⟨n0, n1, n2, n3, n4, n5, n6, n7⟩ := HCL.out _ (below_up HAW.out hv)
     obtain ⟨e0, e1, e2, e3⟩ := HX.out _ hv
     refine hK.out _ _ (⟨⟨n0, n1, n2, n3, n4, n5, n6, n7⟩, e0, e1, e2, e3⟩) (fun hHeld => ?_)
     clear hK K
     try go_frame
     refine wpAnyH_ready (rs := [11]) (by kernel_rfl) (by simp) ?_
     refine AllReadyH.cons rfl (fun K hK => ?_) AllReadyH.nil
     go_simp
     refine (HKY.out _).mono ?_
     rintro e wo3 ⟨rfl, rfl⟩
     refine hK.out _ _ (⟨⟨n0, n1, n2, n3, n4, n5, n6, n7⟩, e0, e1, e2, e3⟩) (fun hHeld => ?_)
     clear hK K
     try go_frame
     refine wpAnyH_ready (rs := [12]) (by kernel_rfl) (by simp) ?_
     refine AllReadyH.cons rfl (fun K hK => ?_) AllReadyH.nil
     go_simp
     refine (HPK.out _ (below_up HBW.out (below_up HAW.out hv))).mono ?_
     rintro e wo4 ⟨rfl, hq⟩
     have hv := below_up hv hq
     clear n0 n1 n2 n3 n4 n5 n6 n7 e0 e1 e2 e3
     obtain ⟨n0, n1, n2, n3, n4, n5, n6, n7⟩ := HCL.out _ (below_up HAW.out hv)
     obtain ⟨e0, e1, e2, e3⟩ := HX.out _ hv
     refine hK.out _ _ (⟨⟨n0, n1, n2, n3, n4, n5, n6, n7⟩, e0, e1, e2, e3⟩) (fun hHeld => ?_)
     clear hK K
     try go_frame
     refine wpAnyH_take (i := 13) (v := ?_) rfl (by kernel_rfl) (by kernel_rfl) (by kernel_rfl) (fun _ _ _ h => h) (Or.inl ⟨by kernel_rfl, ?_⟩) (by assumption) ?_
     rotate_left
     ·(intro w hSw; (try dsimp only at hSw); go_simp; try (with_reducible rfl))
     try go_frame
     refine wpAnyH_done (by kernel_rfl) ?_ _
     go_simp
     go_wp2_with fail
     rw [← ha]
     go_roundg (nt - (j + 1))
     case rel => exact ⟨j + 1, fv, by omega, rfl, by go_num, by rw [HFT.out, if_neg (by rw [HCX.out]; simp), List.append_nil]; exact own_keepE HOW.out hv, by rw [HFT.out, if_neg (by rw [HCX.out]; simp), List.append_nil]; exact HVM.out.keep hv, by rw [HFT.out, if_neg (by rw [HCX.out]; simp), List.append_nil]; exact fun t ht => OwnV.keep (HRO.out t ht) hv, below_up HAW.out hv⟩
     case measure => omega
  ·obtain rfl : nt = j := by omega
   have hKl := List.length_filter_le (St.cand s d mbf) s.tiers
   rw [← HNT.out, List.take_length] at hown hvm hro
   have HTE := HTD.out
   have HKM : Hid (∀ t ∈ s.tiers.filter (St.cand s d mbf), t ∈ s.tiers) := Lib.hid fun t ht => (List.mem_filter.1 ht).1
   generalize s.tiers.filter (St.cand s d mbf) = K at *
   obtain ⟨g, cap, rfl⟩ := ownV_slice (OwnV.of_own hown)
   rw [HNT.out] at hKl
   obtain ⟨n, hn⟩ : ∃ n, K.length = n := ⟨_, rfl⟩
   have HN := Lib.hid hn
   rw [hn] at hKl hown HTE ⊢
   have HB := Lib.hid hB; have HVM := Lib.hid hvm; have HRO := Lib.hid hro; have HOW := Lib.hid hown
   obtain ⟨z0, z1, z2, z3⟩ := (HQZ.out _ hB).four
   have zf := (HQZ.out _ hB).free
   have HTF := Lib.hid HTE
   clear hB hvm hro hown HTE hn
   rcases Nat.eq_zero_or_pos n with hz | hz
   ·subst hz
    go_wp2_with fail
    have hZ := (((((HQZ.out _ HB.out).set 0 (.string ⟨#[]⟩)).set 1 (.int .i64 0)).set 2 (.int .i64 0)).set 3 (.bool false))
    have hBz := (((((below_up HBW.out HB.out).setCell (p := ⟨w.heap.size + 1, 0, none⟩) (by simp) (.string ⟨#[]⟩)).setCell (p := ⟨w.heap.size + 1, 1, none⟩) (by simp) (.int .i64 0)).setCell (p := ⟨w.heap.size + 1, 2, none⟩) (by simp) (.int .i64 0)).setCell (p := ⟨w.heap.size + 1, 3, none⟩) (by simp) (.bool false))
    obtain ⟨V, hV⟩ : ∃ V, ((((wr.setCell ⟨w.heap.size + 1, 0, none⟩ (.string ⟨#[]⟩)).setCell ⟨w.heap.size + 1, 1, none⟩ (.int .i64 0)).setCell ⟨w.heap.size + 1, 2, none⟩ (.int .i64 0)).setCell ⟨w.heap.size + 1, 3, none⟩ (.bool false)) = V := ⟨_, rfl⟩
    rw [hV] at hZ hBz ⊢
    have hZ : Blk V (w.heap.size + 1) #[.string ⟨#[]⟩, .int .i64 0, .int .i64 0, .bool false] 46 := hZ
    obtain ⟨g0, g1, g2, g3⟩ := hZ.four
    have htn : TG = none := by simpa using HTF.out
    refine bodyPost_ret (v := .tuple #[.agg #[.string ⟨#[]⟩, .int .i64 0, .int .i64 0, .bool false], .slice none 0 0, .bool false]) (by simp [results, Tryz.results182, go_sem, g0, g1, g2, g3]) rfl ?_
    rw [htn]
    exact ⟨hBz, rfl⟩
   ·have hnb : ((n : Int) == 0) = false := by simp; omega
    have HCP := Lib.hid (cheapest_is K (by rw [HN.out]; exact hz) (by rw [HN.out]; omega) g cap wr (RowE.ofV (E := St.eT) (ca := cap) (by rw [HN.out]; exact OwnV.of_own HOW.out)))
    rw [HN.out] at HCP
    have hcm := St.cheap_mem (L := K) (by intro e; rw [e] at HN; have := HN.out; simp at this; omega)
    have htt : TG = some (St.cheap K) := HTF.out.trans (if_neg (by omega))
    obtain ⟨c, hc⟩ : ∃ c, St.cheap K = c := ⟨_, rfl⟩
    rw [hc] at HCP hcm htt
    have HCM := Lib.hid hcm; have HTT := Lib.hid htt
    have HCN := Lib.hid (HTG.out c (HKM.out c hcm))
    clear hc hcm htt
    go_upto_region 15 with (go_at_call 185; (with_reducible refine HCP.out.mono ?_); rintro e w9 ⟨rfl, hq⟩)
    obtain ⟨W5, hW5, hX5, hz5, hB5⟩ := box w9 #[.string c.name, .int .i64 c.room, .int .i64 c.cost, .bool c.away] 46
    have HW5 := Lib.hid hW5
    rw [HW5.out]
    have hX := hX5.drew
    have hv := (below_up hq hB5).drew
    have HV5 := Lib.hid hv
    have HX5 := Lib.hid hX
    have hVD := HVM.out.keep hv
    have HVD := Lib.hid hVD
    have hnm : c.name ∈ K.map (·.name) := List.mem_map.2 ⟨c, HCM.out, rfl⟩
    have HNM := Lib.hid hnm
    have HLK := Lib.hid (fun V (h : VMap V W2.heap.size (K.map (·.name)) fv) => h.look (d := c.name) (by have := HCN.out; omega) hnm)
    have hlk := HLK.out _ hVD
    obtain ⟨x0, x1, x2, x3⟩ := hX.four
    have hzw : W2.heap.size < wr.heap.size := HVM.out.lt
    have HSZ : Hid (w.heap.size + 1 < W2.heap.size ∧ W2.heap.size < wr.heap.size ∧ wr.heap.size ≤ w9.heap.size) := Lib.hid ⟨by have := HTZ.out; omega, hzw, hq.size⟩
    have hne : ¬ w.heap.size + 1 = w9.heap.size := by have := HSZ.out; omega
    clear z0 z1 z2 z3 zf
    obtain ⟨z0, z1, z2, z3⟩ := (HQZ.out _ (below_up HB.out hv)).four
    have zf := (HQZ.out _ (below_up HB.out hv)).free
    clear hW5 hX5 hz5 hB5 hq hX hVD hnm hzw
    refine wp_region_held_drew (S := fun w' => (w'.cell? ⟨w9.heap.size, 0, none⟩ = some (.string c.name) ∧ w'.cell? ⟨w9.heap.size, 1, none⟩ = some (.int .i64 c.room) ∧ w'.cell? ⟨w9.heap.size, 2, none⟩ = some (.int .i64 c.cost) ∧ w'.cell? ⟨w9.heap.size, 3, none⟩ = some (.bool c.away)) ∧ (Instr.lookup 236 (.map (some W2.heap.size)) (.string c.name) false).run Tryz.prog w' = .ok (fv c.name) w') (by kernel_rfl) ⟨⟨x0, x1, x2, x3⟩, hlk⟩ (fun hHeld => ?_)
    generalize W5.drew = w5 at *
    refine wpAnyH_take (i := 0) (v := ?_) rfl (by kernel_rfl) (by kernel_rfl) (by kernel_rfl) (fun _ _ _ h => h) (Or.inl ⟨by kernel_rfl, ?_⟩) (by assumption) ?_
    rotate_left
    ·(intro w hSw; (try dsimp only at hSw); go_simp; try (with_reducible rfl))
    try go_frame
    refine wpAnyH_take (i := 1) (v := ?_) rfl (by kernel_rfl) (by kernel_rfl) (by kernel_rfl) (fun _ _ _ h => h) (Or.inl ⟨by kernel_rfl, ?_⟩) (by assumption) ?_
    rotate_left
    ·(intro w hSw; (try dsimp only at hSw); go_simp; try (with_reducible rfl))
    try go_frame
    refine wpAnyH_take (i := 2) (v := ?_) rfl (by kernel_rfl) (by kernel_rfl) (by kernel_rfl) (fun _ _ _ h => h) (Or.inl ⟨by kernel_rfl, ?_⟩) (by assumption) ?_
    rotate_left
    ·(intro w hSw; (try dsimp only at hSw); go_simp; try (with_reducible rfl))
    try go_frame
    refine wpAnyH_take (i := 3) (v := ?_) rfl (by kernel_rfl) (by kernel_rfl) (by kernel_rfl) (fun _ _ _ h => h) (Or.inl ⟨by kernel_rfl, ?_⟩) (by assumption) ?_
    rotate_left
    ·(intro w hSw; (try dsimp only at hSw); go_simp; try (with_reducible rfl))
    try go_frame
    refine wpAnyH_take (i := 4) (v := ?_) rfl (by kernel_rfl) (by kernel_rfl) (by kernel_rfl) (fun _ _ _ h => h) (Or.inl ⟨by kernel_rfl, ?_⟩) (by assumption) ?_
    rotate_left
    ·(intro w hSw; (try dsimp only at hSw); go_simp; try (with_reducible rfl))
    try go_frame
    have hG := grown_set (grown_set (grown_set (grown_set (grown_self w5 (w.heap.size + 1)) 0 (.string c.name)) 1 (.int .i64 c.room)) 2 (.int .i64 c.cost)) 3 (.bool c.away)
    have HG := Lib.hid hG
    have HV2 := Lib.hid (HVD.out.kept hG (by intro e; have := Option.some.inj e; have := HSZ.out; omega))
    have hlk2 := HLK.out _ HV2.out
    clear hG
    refine wpAnyH_ready (rs := [5]) (by kernel_rfl) (by simp) ?_
    refine AllReadyH.cons rfl (fun K hK => ?_) AllReadyH.nil
    go_simp
    refine hK.out _ _ (by refine ⟨⟨?_, ?_, ?_, ?_⟩, ?_⟩ <;> first | (with_reducible exact hlk2) | go_keep) (fun hHeld => ?_)
    clear hK K
    try go_frame
    refine wpAnyH_ready (rs := [6]) (by kernel_rfl) (by simp) ?_
    refine AllReadyH.cons rfl (fun K hK => ?_) AllReadyH.nil
    go_simp
    refine hK.out _ _ (hHeld) (fun hHeld => ?_)
    clear hK K
    try go_frame
    refine wpAnyH_ready (rs := [7]) (by kernel_rfl) (by simp) ?_
    refine AllReadyH.cons rfl (fun K hK => ?_) AllReadyH.nil
    go_simp
    refine hK.out _ _ (hHeld) (fun hHeld => ?_)
    clear hK K
    try go_frame
    refine wpAnyH_done (by kernel_rfl) ?_ _
    have hZ := (((((HQZ.out _ (below_up HB.out HV5.out)).set 0 (.string c.name)).set 1 (.int .i64 c.room)).set 2 (.int .i64 c.cost)).set 3 (.bool c.away))
    have hBz := (((((below_up HBW.out (below_up HB.out HV5.out)).setCell (p := ⟨w.heap.size + 1, 0, none⟩) (by simp) (.string c.name)).setCell (p := ⟨w.heap.size + 1, 1, none⟩) (by simp) (.int .i64 c.room)).setCell (p := ⟨w.heap.size + 1, 2, none⟩) (by simp) (.int .i64 c.cost)).setCell (p := ⟨w.heap.size + 1, 3, none⟩) (by simp) (.bool c.away))
    have hrw := (OwnV.off (OwnV.keep (HRO.out c HCM.out) HV5.out) (by have := HSZ.out; have := HTZ.out; omega) HG.out).down (show w.heap.size ≤ W3.heap.size by have := HTZ.out; omega)
    clear hlk2 HV2 HG
    obtain ⟨V, hV⟩ : ∃ V, ((((w5.setCell ⟨w.heap.size + 1, 0, none⟩ (.string c.name)).setCell ⟨w.heap.size + 1, 1, none⟩ (.int .i64 c.room)).setCell ⟨w.heap.size + 1, 2, none⟩ (.int .i64 c.cost)).setCell ⟨w.heap.size + 1, 3, none⟩ (.bool c.away)) = V := ⟨_, rfl⟩
    rw [hV] at hZ hBz hrw ⊢
    have hZ : Blk V (w.heap.size + 1) #[.string c.name, .int .i64 c.room, .int .i64 c.cost, .bool c.away] 46 := hZ
    obtain ⟨g0, g1, g2, g3⟩ := hZ.four
    have HRR := Lib.hid hrw; have HBZ := Lib.hid hBz
    clear hrw hBz hZ hV hHeld hlk x0 x1 x2 x3 z0 z1 z2 z3 zf
    go_wp2_with fail
    refine bodyPost_ret (v := .tuple #[.agg #[.string c.name, .int .i64 c.room, .int .i64 c.cost, .bool c.away], fv c.name, .bool true]) (by simp [results, Tryz.results182, go_sem, g0, g1, g2, g3]) rfl ?_
    rw [HTT.out]
    exact ⟨HBZ.out, _, HRR.out, rfl⟩
end Go.Proofs.YthdiccdnggloiaaGreatDoor

/- Patch: changes one after the other. -/
import Derived.Test.YtipmegkmkbbklaaDdChk
namespace Go.Proofs.Ytipmegkmkbbklaa
open Go.RowKit Go.Sort Go.Shelf
set_option linter.unusedVariables false
/-- What Patch returns. -/
def PatchPost (w : World) (R : Int × Dd.Lib) (e : Ending) (w' : World) : Prop :=
  ∃ a ca A, e = .returned (.tuple #[.slice a A.length ca, .int .i64 R.1]) ∧ Dd.cores A = R.2 ∧ Phs w' a A.length (Dd.at_ A) ∧ (∀ p, p ∈ A → p.Fits) ∧ A.length ≤ 1000 ∧ Below w.heap.size w w'
theorem phFlat_one (L : List Ph) : ∀ v ∈ Fd.phFlat L, v.oneCell' = true := by
  intro v hv
  unfold Fd.phFlat at hv
  obtain ⟨p, _, hp⟩ := List.mem_flatMap.1 hv
  exact phCells_one p v hp
set_option maxRecDepth 100000 in
set_option maxHeartbeats 8000000 in
theorem patch_ok (A0 : Dd.Lib) (a : Option Addr) (ca : Nat) (C : List Chg) (xc : Option Addr) (cc : Nat) (w : World) (hx : Phs w a A0.length (Dd.at_ A0)) (hX : ∀ p, p ∈ A0 → p.Fits) (hok : DdOk A0) (hl0 : Fd.lerr (Dd.at_ A0) A0.length = 0) (hC : Chs w xc C) (hCF : ChFits C) (hcn : C.length ≤ 9223372036854775807) :
    Calls Try.prog 11 #[.slice a A0.length ca, .slice xc C.length cc] w (PatchPost w (Dd.run (Dd.cores A0) (Dd.coreC C))) := by
  obtain ⟨R, hR⟩ : ∃ R, Dd.run (Dd.cores A0) (Dd.coreC C) = R := ⟨_, rfl⟩
  rw [hR]
  have hfew := hok.few
  have HCHECK := Lib.hid (check_is a A0.length ca (Dd.at_ A0) w hx (fun i hi => hX _ (Dd.at_mem hi)) (by omega))
  rw [hl0] at HCHECK
  have HCOPY := Lib.hid (fun V (hb : Below w.heap.size w V) => copyPhotos_is A0 a ca V (hx.keep hb) (by omega) (fun p hp => Ph.few_of' (hok.right p hp)))
  have HCS := Lib.hid hC; have HCF := Lib.hid hCF; have HOK := Lib.hid hok; have HR := Lib.hid hR; have HX0 := Lib.hid hX
  obtain ⟨n, hn⟩ : ∃ n, C.length = n := ⟨_, rfl⟩
  rw [hn] at hcn ⊢
  have HCN := Lib.hid hn
  have HSZ : Hid ((Try.prog.info? 26).map (·.size) = some 13) := Lib.hid (by kernel_rfl)
  generalize hA0n : A0.length = n0 at *
  clear hx hX hok hl0 hC hCF hn hR
  go_enter Try.func11, Try.ntmps11
  go_wp2_with (first
    | (go_at_call 40; (with_reducible refine HCHECK.out.mono ?_); rintro e w1 ⟨rfl, hB1⟩)
    | (go_at_call 45; (with_reducible refine (HCOPY.out _ hB1).mono ?_); rintro e w2 ⟨v2, M2, rfl, hcm, hph2, hB2⟩; have HCM := Lib.hid hcm; have HPH2 := Lib.hid hph2; clear hcm hph2))
  have hB02 := below_up hB1 hB2
  have hs1 := hB1.size
  go_loopg [0, 21] n (fun gk v i wr => ∃ (j : Nat) (A : Dd.Lib), j ≤ n ∧ gk = n - j ∧ i = .int .i64 j ∧ OwnPh wr w1.heap.size v A ∧ DdOk A ∧ Dd.run (Dd.cores A) (Dd.coreC (C.drop j)) = R ∧ Below w1.heap.size w1 wr)
  case atStart =>
    refine ⟨0, M2, by omega, rfl, rfl, HPH2.out, ?_, ?_, hB2⟩
    · have hc := HCM.out
      refine ⟨Dd.rise_cores.1 (by rw [hc]; exact Dd.rise_cores.2 HOK.out.rise), Dd.right_cores.1 (by rw [hc]; exact Dd.right_cores.2 HOK.out.right), fun p hp => ?_, ?_⟩
      · have hp' : p.core ∈ Dd.cores M2 := List.mem_map_of_mem hp
        rw [hc] at hp'
        obtain ⟨q, hq, e⟩ := List.mem_map.1 hp'
        exact (HX0.out q hq).of_core e.symm
      · have := congrArg List.length hc
        simp only [Dd.cores, List.length_map] at this
        omega
    · rw [HCM.out]; exact HR.out
  case round =>
    obtain ⟨j, A, hj, rfl, rfl, hph, hdok, hrun, hB⟩ := hrel
    have hBw := below_up hB1 hB
    have hsr := hB.size
    have HPH := Lib.hid hph; have HDOK := Lib.hid hdok; have HRUN := Lib.hid hrun
    have hAfew := hdok.few
    obtain ⟨a1, c1, rfl, hk1, hm1, hrow⟩ := hph.row
    have HROW := Lib.hid hrow
    clear hph hdok hrun hrow
    by_cases hlt : j < n
    · obtain ⟨b, off, hca, hb, hcell⟩ := (HCS.out.keep hBw).row (by rw [HCN.out]; omega)
      obtain ⟨q0, q1, q2, q3, q4, q5, q6, q7, q8, q9, q10, q11, q12, q13⟩ := hcell j (by rw [HCN.out]; exact hlt)
      have hIp := (HCS.out.keep hBw).each j (by rw [HCN.out]; exact hlt)
      obtain ⟨hFp, hid1, hid2⟩ := HCF.out j (by rw [HCN.out]; exact hlt)
      have hdr := Dd.drop_atC (Z := C) (j := j) (by rw [HCN.out]; exact hlt)
      obtain ⟨d, p, hdp⟩ : ∃ d p, Dd.atC C j = (d, p) := ⟨_, _, rfl⟩
      rw [hdp] at q0 q1 q2 q3 q4 q5 q6 q7 q8 q9 q10 q11 q12 q13 hIp hFp hid1 hid2 hdr
      clear hcell hdp
      obtain ⟨W4, hW4, hK, hz4, hB4⟩ := box wr #[.bool d, .int .i64 p.id, .string p.file, .int .i64 p.mom, .int .i64 p.zone, .slice p.wa p.wn p.wc, .int .i64 p.W, .int .i64 p.H, .int .i64 p.turn, .int .i64 p.stars, .slice p.ta p.tn p.tc, .string p.cap, .slice p.pa p.pn p.pc, .bool p.hid] 47
      have HW4 := Lib.hid hW4
      have hBr4 := below_up hB hB4
      have hBw4 := below_up hBw hB4
      have HDR := Lib.hid hdr; have HIP := Lib.hid hIp; have HFP := Lib.hid hFp
      have HCHK := Lib.hid (checkChange_is A d p a1 c1 W4 (HROW.out.keep hB4) (HIP.out.keep hB4) hFp ⟨hid1, hid2⟩ hAfew HDOK.out.right HDOK.out.rise)
      have HIDX := Lib.hid (fun V (hb : Below W4.heap.size W4 V) => indexOf_is A a1 c1 p.id ⟨hid1, hid2⟩ V ((HROW.out.keep hB4).keep hb) hAfew HDOK.out.right HDOK.out.rise)
      clear hW4 hz4 hdr hIp hFp hid1 hid2
      obtain ⟨l0, m0, m1, m2, m3, m4, m5, m6, m7, m8, m9, m10, m11, m12⟩ := hK.change
      obtain ⟨ek, hek⟩ : ∃ ek, Dd.chk A d p = ek := ⟨_, rfl⟩
      have HEK := Lib.hid hek
      rw [hek] at HCHK
      clear hek
      by_cases he0 : ek = 0
      · subst he0
        have HK0 := HEK.out
        have HPR : Hid (∀ r : Ph, r.core = p.core → Dd.run (Dd.cores (Dd.patched A d r)) (Dd.coreC (C.drop (j + 1))) = R) := Lib.hid (fun r hr => by
          rw [Dd.patched_cores, hr, ← HRUN.out, HDR.out]
          show _ = Dd.run (Dd.cores A) ((d, p.core) :: Dd.coreC (C.drop (j + 1)))
          rw [Dd.run_ok (by rw [Dd.chk_cores, HK0])])
        have HNX := Lib.hid (fun (r : Ph) (hr : r.core = p.core) => HDOK.out.next HK0 hr HFP.out (A' := Dd.patched A d r) rfl)
        have HIX1 : Hid (∀ V, Below W4.heap.size W4 V → Calls Try.prog 41 #[.slice a1 A.length c1, .int .i64 p.id] V fun e w' => e = .returned (.tuple #[.int .i64 (Dd.pos A p.id), .bool (Dd.has A p.id)]) ∧ Below V.heap.size V w') := Lib.hid (fun V hb => (HIDX.out V hb).mono (by
          rintro e w' ⟨i, rfl, hi, hg1, hg2, hB⟩
          have hpos : i = Dd.pos A p.id := by
            rcases Dd.chk_0 HK0 with ⟨_, hh⟩ | ⟨_, he, _⟩
            · exact (hg2 hh).2.2
            · exact hg1 (Dd.right_id (L := [p]) (fun q hq => by have : q = p := by simpa using hq
                                                                subst this; exact he) (by simp))
          exact ⟨by rw [hpos], hB⟩))
        have hple := Dd.pos_le A p.id
        have HTH := Lib.hid (fun (hh : Dd.has A p.id = true) => show Dd.pos A p.id < A.length by
          obtain ⟨A1, q, A2, h1, h2, _⟩ := Dd.there HDOK.out.rise hh
          rw [← h2, h1]; simp)
        have HONE := Lib.hid (phFlat_one A)
        clear HIDX HCHECK HCOPY HPH2 HK0
        rcases Dd.chk_0 HEK.out with ⟨rfl, hh⟩ | ⟨rfl, hpe, hlim⟩
        · -- the row's block
          obtain ⟨g, hge, hoc⟩ : ∃ g, a1 = some ⟨g, 0, none⟩ ∧ OwnC wr w1.heap.size 26 13 g A.length c1 (Fd.phFlat A) := by
            rcases HPH.out.own with ⟨e, h0, _⟩ | ⟨g, cap, e, hc⟩
            · exfalso; have := HTH.out hh; omega
            · cases e; exact ⟨g, rfl, hc⟩
          subst hge
          have hpk := HTH.out hh
          have HPAT : Hid (Dd.patched A true p = A.take (Dd.pos A p.id) ++ A.drop (Dd.pos A p.id + 1)) := Lib.hid rfl
          rw [hh] at HIX1
          have HPRP := Lib.hid (HPR.out p rfl); have HNXP := Lib.hid (HNX.out p rfl)
          obtain ⟨k, hkk⟩ : ∃ k, Dd.pos A p.id = k := ⟨_, rfl⟩
          rw [hkk] at HIX1 hpk hple HPAT
          obtain ⟨m, hm⟩ : ∃ m, A.length = m + 1 := ⟨A.length - 1, by omega⟩
          have HMM := Lib.hid hm
          have HOC := Lib.hid hoc
          have hAfew2 : m + 1 ≤ 1000 := by omega
          have hpk2 : k ≤ m := by omega
          rw [hm] at HOC
          have HDEL := Lib.hid (fun V (hb : Below wr.heap.size wr V) => ph_del w1.heap.size g m c1 k (Fd.phFlat A) V (HOC.out.keep hb) hpk2 (by omega) HONE.out)
          have hLA : (A.take k ++ A.drop (k + 1)).length = m := by rw [List.length_append, List.length_take, List.length_drop]; omega
          have HLA := Lib.hid hLA
          clear hoc hkk hLA HPR HNX HTH
          rw [hm] at HCHK HIX1 hpk hple hAfew ⊢
          clear hm
          rw [hca]
          go_upto_region 8 with fail
          rw [HW4.out]
          go_wp2_with (first
            | (go_at_call 46; (with_reducible refine HCHK.out.mono ?_); rintro e w5 ⟨rfl, hB5⟩; obtain ⟨l0, m0, m1, m2, m3, m4, m5, m6, m7, m8, m9, m10, m11, m12⟩ := (hK.keep hB5).change)
            | (go_at_call 41; (with_reducible refine (HIX1.out _ hB5).mono ?_); rintro e w6 ⟨rfl, hB6⟩; have hB56 := below_up hB5 hB6; obtain ⟨l0, m0, m1, m2, m3, m4, m5, m6, m7, m8, m9, m10, m11, m12⟩ := (hK.keep hB56).change)
            | (go_at_call 47; (with_reducible refine (HDEL.out _ (below_up hB4 hB56)).mono ?_); rintro e w7 ⟨rfl, hc7, hg7⟩; have HC7 := Lib.hid hc7; have HG7 := Lib.hid hg7; clear hc7 hg7))
          have hB46 := below_up hB4 hB56
          have HC7' : Hid (OwnC w7 w1.heap.size 26 13 g m c1 (Fd.phFlat (Dd.patched A true p))) := Lib.hid (by have h := HC7.out; rw [Dd.phFlat_take, Dd.phFlat_drop, ← Fd.phFlat_append] at h; rw [HPAT.out]; exact h)
          have HPH7 := Lib.hid (HPH.out.grow (L' := Dd.patched A true p) hB46 HC7'.out (by rw [HPAT.out, HLA.out]) HG7.out (.inl rfl) (fun q hq => by rcases Dd.patched_mem hq with h | h; exact .inl h; exact absurd h.1 (by decide)))
          have hBw7 : Below w1.heap.size w1 w7 := (below_up hBr4 hB56).grown HG7.out (by have := hBr4.size; have := hB56.size; omega) (fun b h => by cases h; exact HOC.out.lt.1)
          rw [← hca]
          go_roundg (n - (j + 1))
          case rel => exact ⟨j + 1, Dd.patched A true p, by omega, rfl, by go_num, HPH7.out, HNXP.out, HPRP.out, hBw7⟩
          case measure => omega
        · cases hh : Dd.has A p.id
          · have HPAT : Hid (∀ r : Ph, r.id = p.id → Dd.patched A false r = A.take (Dd.pos A p.id) ++ [r] ++ A.drop (Dd.pos A p.id)) := Lib.hid (fun r hr => by unfold Dd.patched; rw [hr, if_neg (by decide), if_neg (by rw [hh]; decide)])
            rw [hh] at HIX1
            obtain ⟨k, hkk⟩ : ∃ k, Dd.pos A p.id = k := ⟨_, rfl⟩
            rw [hkk] at HIX1 hple HPAT
            have HCP := Lib.hid (fun V (hb : Below wr.heap.size wr V) => copyPhoto_new p (Ph.few_of' hpe) V (HIP.out.keep hb))
            have hLA : ∀ r : Ph, (A.take k ++ [r] ++ A.drop k).length = A.length + 1 := fun r => by rw [List.length_append, List.length_append, List.length_take, List.length_drop]; simp; omega
            have HLA := Lib.hid hLA
            have HINS := Lib.hid (fun V (r : Ph) (bv : Nat) (hb : Below wr.heap.size wr V) (hbv : V.heap[bv]? = some (.cells #[.int .i64 r.id, .string r.file, .int .i64 r.mom, .int .i64 r.zone, .slice r.wa r.wn r.wc, .int .i64 r.W, .int .i64 r.H, .int .i64 r.turn, .int .i64 r.stars, .slice r.ta r.tn r.tc, .string r.cap, .slice r.pa r.pn r.pc, .bool r.hid] 26 (0, 0))) (hge : wr.heap.size ≤ bv) => ph_ins w1.heap.size A.length k (.slice a1 A.length c1) (Fd.phFlat A) (Fd.phCells r) V (HPH.out.own.keep hb) (by have := hb.size; omega) hple (by omega) HONE.out bv #[.int .i64 r.id, .string r.file, .int .i64 r.mom, .int .i64 r.zone, .slice r.wa r.wn r.wc, .int .i64 r.W, .int .i64 r.H, .int .i64 r.turn, .int .i64 r.stars, .slice r.ta r.tn r.tc, .string r.cap, .slice r.pa r.pn r.pc, .bool r.hid] 26 hbv (fun e => by have := (HPH.out.own.lt bv e).2; omega) rfl rfl (phCells_one r))
            clear hkk hLA HTH hlim hpe hh
            rw [hca]
            generalize hAn : A.length = nA at *
            have HAN := Lib.hid hAn
            clear hAn
            go_upto_region 8 with fail
            rw [HW4.out]
            go_wp2_with (first
              | (go_at_call 46; (with_reducible refine HCHK.out.mono ?_); rintro e w5 ⟨rfl, hB5⟩; obtain ⟨l0, m0, m1, m2, m3, m4, m5, m6, m7, m8, m9, m10, m11, m12⟩ := (hK.keep hB5).change)
              | (go_at_call 41; (with_reducible refine (HIX1.out _ hB5).mono ?_); rintro e w6 ⟨rfl, hB6⟩; have hB56 := below_up hB5 hB6; obtain ⟨l0, m0, m1, m2, m3, m4, m5, m6, m7, m8, m9, m10, m11, m12⟩ := (hK.keep hB56).change)
              | (go_at_call 43; (with_reducible refine (HCP.out _ (below_up hB4 hB56)).mono ?_); rintro e w7 ⟨r, rfl, hrc, hrI, hrN, hB7⟩; have HRC := Lib.hid hrc; have HRI := Lib.hid hrI; have HRN := Lib.hid hrN; clear hrc hrI hrN; have hB47 := below_up (below_up hB4 hB56) hB7)
              | (go_at_call 48; (with_reducible refine (HINS.out _ r w7.heap.size (below_allocs hB47 _) (heap_alloc_new w7 _) hB47.size).mono ?_); rintro e w8 ⟨g8, c8, rfl, hc8, hg8, hn8⟩; have HC8 := Lib.hid hc8; have HG8 := Lib.hid hg8; have HN8 := Lib.hid hn8; clear hc8 hg8 hn8))
            have hid : r.id = p.id := by rw [← Ph.id_core, HRC.out, Ph.id_core]
            have HC9 : Hid (OwnC w8 w1.heap.size 26 13 g8 (nA + 1) c8 (Fd.phFlat (Dd.patched A false r))) := Lib.hid (by
              have h := HC8.out
              rw [Dd.phFlat_take, Dd.phFlat_drop, ← Fd.phFlat_snoc, ← Fd.phFlat_append] at h
              rw [HPAT.out r hid]; exact h)
            have HPH9 := Lib.hid (HPH.out.grow (L' := Dd.patched A false r) (below_allocs hB47 _) HC9.out (by rw [HPAT.out r hid, HLA.out]) HG8.out HN8.out (fun q hq => by
              rcases Dd.patched_mem hq with h | ⟨_, rfl⟩
              · exact .inl h
              · have hs := hB4.size; have hs2 := hB56.size
                exact .inr ⟨HRI.out.keep (below_allocs (Below.refl _ _) _), HRN.out.1.down (by omega), HRN.out.2.1.down (by omega), HRN.out.2.2.down (by omega)⟩))
            have hBw9 : Below w1.heap.size w1 w8 := (below_allocs (below_up hB hB47) (.cells #[.int .i64 r.id, .string r.file, .int .i64 r.mom, .int .i64 r.zone, .slice r.wa r.wn r.wc, .int .i64 r.W, .int .i64 r.H, .int .i64 r.turn, .int .i64 r.stars, .slice r.ta r.tn r.tc, .string r.cap, .slice r.pa r.pn r.pc, .bool r.hid] 26)).grown HG8.out (by simp; have := hB47.size; omega) (fun b h => (HPH.out.own.lt b h).1)
            rw [← hca]
            go_roundg (n - (j + 1))
            case rel => exact ⟨j + 1, Dd.patched A false r, by omega, rfl, by go_num, HPH9.out, HNX.out r HRC.out, HPR.out r HRC.out, hBw9⟩
            case measure => omega
          · -- the row's block
            obtain ⟨g, hge, hoc⟩ : ∃ g, a1 = some ⟨g, 0, none⟩ ∧ OwnC wr w1.heap.size 26 13 g A.length c1 (Fd.phFlat A) := by
              rcases HPH.out.own with ⟨e, h0, _⟩ | ⟨g, cap, e, hc⟩
              · exfalso; have := HTH.out hh; omega
              · cases e; exact ⟨g, rfl, hc⟩
            subst hge
            have hpk := HTH.out hh
            rw [hh] at HIX1
            have HPAT : Hid (∀ r : Ph, r.id = p.id → Dd.patched A false r = A.take (Dd.pos A p.id) ++ [r] ++ A.drop (Dd.pos A p.id + 1)) := Lib.hid (fun r hr => by unfold Dd.patched; rw [hr, if_neg (by decide), if_pos hh])
            obtain ⟨k, hkk⟩ : ∃ k, Dd.pos A p.id = k := ⟨_, rfl⟩
            rw [hkk] at HIX1 hpk hple HPAT
            have HOC := Lib.hid hoc
            have HCP := Lib.hid (fun V (hb : Below wr.heap.size wr V) => copyPhoto_new p (Ph.few_of' hpe) V (HIP.out.keep hb))
            have hLA : ∀ r : Ph, (A.take k ++ [r] ++ A.drop (k + 1)).length = A.length := fun r => by rw [List.length_append, List.length_append, List.length_take, List.length_drop]; simp; omega
            have HLA := Lib.hid hLA
            have hk0 : (0 : Int) ≤ (k : Int) := by omega
            clear hoc hkk hLA HTH hlim hpe hh
            rw [hca]
            generalize hAn : A.length = nA at *
            have HAN := Lib.hid hAn
            clear hAn
            have hk1' : (k : Int) < (nA : Int) := by omega
            go_upto_region 8 with fail
            rw [HW4.out]
            go_wp2_with (first
              | (go_at_call 46; (with_reducible refine HCHK.out.mono ?_); rintro e w5 ⟨rfl, hB5⟩; obtain ⟨l0, m0, m1, m2, m3, m4, m5, m6, m7, m8, m9, m10, m11, m12⟩ := (hK.keep hB5).change)
              | (go_at_call 41; (with_reducible refine (HIX1.out _ hB5).mono ?_); rintro e w6 ⟨rfl, hB6⟩; have hB56 := below_up hB5 hB6; obtain ⟨l0, m0, m1, m2, m3, m4, m5, m6, m7, m8, m9, m10, m11, m12⟩ := (hK.keep hB56).change)
              | (go_at_call 43; (with_reducible refine (HCP.out _ (below_up hB4 hB56)).mono ?_); rintro e w7 ⟨r, rfl, hrc, hrI, hrN, hB7⟩; have HRC := Lib.hid hrc; have HRI := Lib.hid hrI; have HRN := Lib.hid hrN; clear hrc hrI hrN; have hB47 := below_up (below_up hB4 hB56) hB7; have HST := Lib.hid (own_setCells (HOC.out.keep hB47) (k * 13) (Fd.phCells r) (by show k * 13 + 13 ≤ nA * 13; omega) (phCells_one r)); obtain ⟨W8, hW8⟩ : ∃ W8, w7.setCells g (k * 13) (Fd.phCells r) = W8 := ⟨_, rfl⟩; rw [hW8] at HST; have HW8 := Lib.hid hW8; clear hW8)
              | (refine wpList_store_mid rfl 26 _ _ rfl g (k * 13) #[.int .i64 r.id, .string r.file, .int .i64 r.mom, .int .i64 r.zone, .slice r.wa r.wn r.wc, .int .i64 r.W, .int .i64 r.H, .int .i64 r.turn, .int .i64 r.stars, .slice r.ta r.tn r.tc, .string r.cap, .slice r.pa r.pn r.pc, .bool r.hid] rfl rfl HST.out.2.2 HSZ.out (by simp [Value.oneCell']) ?_; rw [show w7.setCells g (k * 13) (#[.int .i64 r.id, .string r.file, .int .i64 r.mom, .int .i64 r.zone, .slice r.wa r.wn r.wc, .int .i64 r.W, .int .i64 r.H, .int .i64 r.turn, .int .i64 r.stars, .slice r.ta r.tn r.tc, .string r.cap, .slice r.pa r.pn r.pc, .bool r.hid] : Array Value).toList = W8 from HW8.out]))
            have hid : r.id = p.id := by rw [← Ph.id_core, HRC.out, Ph.id_core]
            have HC8 : Hid (OwnC W8 w1.heap.size 26 13 g nA c1 (Fd.phFlat (Dd.patched A false r))) := Lib.hid (by
              have h := HST.out.1
              rw [show k * 13 + (Fd.phCells r).length = (k + 1) * 13 from by show k * 13 + 13 = _; omega, Dd.phFlat_take, Dd.phFlat_drop, ← Fd.phFlat_snoc, ← Fd.phFlat_append] at h
              rw [HPAT.out r hid]; exact h)
            have HPH8 := Lib.hid (HPH.out.grow (L' := Dd.patched A false r) hB47 HC8.out (by rw [HPAT.out r hid, HLA.out]) HST.out.2.1 (.inl rfl) (fun q hq => by
              rcases Dd.patched_mem hq with h | ⟨_, rfl⟩
              · exact .inl h
              · have hs := hB4.size; have hs2 := hB56.size
                exact .inr ⟨HRI.out, HRN.out.1.down (by omega), HRN.out.2.1.down (by omega), HRN.out.2.2.down (by omega)⟩))
            have hBw8 : Below w1.heap.size w1 W8 := (below_up hB hB47).grown HST.out.2.1 (by have := hB47.size; omega) (fun b h => by cases h; exact HOC.out.lt.1)
            rw [← hca]
            go_roundg (n - (j + 1))
            case rel => exact ⟨j + 1, Dd.patched A false r, by omega, rfl, by go_num, HPH8.out, HNX.out r HRC.out, HPR.out r HRC.out, hBw8⟩
            case measure => omega
      · have he1 : (ek != 0) = true := by simpa using he0
        have HRR : Hid (R = (ek, [])) := Lib.hid (by
          rw [← HRUN.out, HDR.out]
          show Dd.run (Dd.cores A) ((d, p.core) :: Dd.coreC (C.drop (j + 1))) = _
          rw [Dd.run_bad (by rw [Dd.chk_cores, HEK.out]; exact he0), Dd.chk_cores, HEK.out])
        clear he0
        rw [hca]
        go_upto_region 8 with fail
        rw [HW4.out]
        go_wp2_with (go_at_call 46; (with_reducible refine HCHK.out.mono ?_); rintro e w5 ⟨rfl, hB5⟩)
        go_ret2
        rw [HRR.out]
        exact ⟨none, 0, [], rfl, rfl, ⟨fun h => absurd h (Nat.lt_irrefl 0), fun i h => absurd h (Nat.not_lt_zero i)⟩, fun q h => by simp at h, Nat.zero_le _, below_up hBw4 hB5⟩
    · obtain rfl : j = n := by omega
      have HRR : Hid (R = (0, Dd.cores A)) := Lib.hid (by
        have h := HRUN.out
        rw [List.drop_eq_nil_of_le (by rw [HCN.out]; exact Nat.le_refl _)] at h
        exact h.symm)
      have HCL := Lib.hid (clipPh_is a1 A.length c1 wr hk1 hm1)
      go_wp2_with (go_at_call 49; (with_reducible refine HCL.out.mono ?_); rintro e w9 ⟨rfl, rfl⟩)
      go_ret2
      rw [HRR.out]
      exact ⟨a1, A.length, A, rfl, rfl, HROW.out, HDOK.out.fits, HDOK.out.few, hBw⟩
end Go.Proofs.Ytipmegkmkbbklaa
namespace Go.Proofs.Ytipmegkmkbbklaa
open Go.RowKit Go.Sort Go.Shelf
set_option linter.unusedVariables false
set_option maxHeartbeats 1000000 in
theorem patch_err (A0 : Dd.Lib) (a : Option Addr) (ca : Nat) (C : List Chg) (xc : Option Addr) (cc : Nat) (w : World) (hx : Phs w a A0.length (Dd.at_ A0)) (hX : ∀ p, p ∈ A0 → p.Fits) (hn : A0.length ≤ 9223372036854775807) (q : Int) (hq : Fd.lerr (Dd.at_ A0) A0.length = q) (hne : q ≠ 0) :
    Calls Try.prog 11 #[.slice a A0.length ca, .slice xc C.length cc] w fun e w' => e = .returned (.tuple #[.slice none 0 0, .int .i64 q]) ∧ Below w.heap.size w w' := by
  have HCHECK := Lib.hid (check_is a A0.length ca (Dd.at_ A0) w hx (fun i hi => hX _ (Dd.at_mem hi)) hn)
  rw [hq] at HCHECK
  have h1 : (q != 0) = true := by simpa using hne
  generalize hA0n : A0.length = n0 at *
  generalize hCn : C.length = n at *
  clear hx hX hq
  go_enter Try.func11, Try.ntmps11
  go_wp2_with (go_at_call 40; (with_reducible refine HCHECK.out.mono ?_); rintro e w1 ⟨rfl, hB1⟩)
  go_ret2
  exact ⟨rfl, hB1⟩
set_option maxRecDepth 100000 in
set_option maxHeartbeats 8000000 in
theorem patchOf_is (A0 : Dd.Lib) (a : Option Addr) (ca : Nat) (C : List Chg) (xc : Option Addr) (cc : Nat) (w : World) (hx : Phs w a A0.length (Dd.at_ A0)) (hok : DdOk A0) (hC : Chs w xc C) (hCF : ChFits C) (hcn : C.length ≤ 9223372036854775807) :
    Calls Try.prog 13 #[.slice a A0.length ca, .slice xc C.length cc] w (PatchPost w (Dd.run (Dd.cores A0) (Dd.coreC C))) := by
  obtain ⟨R, hR⟩ : ∃ R, Dd.run (Dd.cores A0) (Dd.coreC C) = R := ⟨_, rfl⟩
  rw [hR]
  have HCS := Lib.hid hC; have HCF := Lib.hid hCF; have HOK := Lib.hid hok; have HR := Lib.hid hR; have HX0 := Lib.hid hx
  obtain ⟨n, hn⟩ : ∃ n, C.length = n := ⟨_, rfl⟩
  rw [hn] at hcn ⊢
  have HCN := Lib.hid hn
  clear hx hok hC hCF hn hR
  go_enter Try.func13, Try.ntmps13
  go_wp2_with fail
  go_loopg [0, 11] n (fun gk v i wr => ∃ (j : Nat) (A : Dd.Lib) (a1 : Option Addr) (c1 : Nat), j ≤ n ∧ gk = n - j ∧ i = .int .i64 j ∧ v = .slice a1 A.length c1 ∧ Phs wr a1 A.length (Dd.at_ A) ∧ DdOk A ∧ Dd.run (Dd.cores A) (Dd.coreC (C.drop j)) = R ∧ Below w.heap.size w wr)
  case atStart => exact ⟨0, A0, a, ca, by omega, rfl, rfl, rfl, HX0.out, HOK.out, HR.out, Below.refl _ _⟩
  case round =>
    obtain ⟨j, A, a1, c1, hj, rfl, rfl, rfl, hrow, hdok, hrun, hBw⟩ := hrel
    have HDOK := Lib.hid hdok; have HRUN := Lib.hid hrun
    have hAfew := hdok.few
    have HROW := Lib.hid hrow
    clear hdok hrun hrow
    by_cases hlt : j < n
    · obtain ⟨b, off, hca, hb, hcell⟩ := (HCS.out.keep hBw).row (by rw [HCN.out]; omega)
      obtain ⟨q0, q1, q2, q3, q4, q5, q6, q7, q8, q9, q10, q11, q12, q13⟩ := hcell j (by rw [HCN.out]; exact hlt)
      have hIp := (HCS.out.keep hBw).each j (by rw [HCN.out]; exact hlt)
      obtain ⟨hFp, hid1, hid2⟩ := HCF.out j (by rw [HCN.out]; exact hlt)
      have hdr := Dd.drop_atC (Z := C) (j := j) (by rw [HCN.out]; exact hlt)
      obtain ⟨d, p, hdp⟩ : ∃ d p, Dd.atC C j = (d, p) := ⟨_, _, rfl⟩
      rw [hdp] at q0 q1 q2 q3 q4 q5 q6 q7 q8 q9 q10 q11 q12 q13 hIp hFp hid1 hid2 hdr
      clear hcell hdp
      obtain ⟨W4, hW4, hK, hz4, hB4⟩ := box wr #[.bool d, .int .i64 p.id, .string p.file, .int .i64 p.mom, .int .i64 p.zone, .slice p.wa p.wn p.wc, .int .i64 p.W, .int .i64 p.H, .int .i64 p.turn, .int .i64 p.stars, .slice p.ta p.tn p.tc, .string p.cap, .slice p.pa p.pn p.pc, .bool p.hid] 47
      have HW4 := Lib.hid hW4
      have hBw4 := below_up hBw hB4
      have HDR := Lib.hid hdr; have HIP := Lib.hid hIp; have HFP := Lib.hid hFp
      have HCHK := Lib.hid (changeError_is A d p a1 c1 W4 (HROW.out.keep hB4) (HIP.out.keep hB4) hFp hAfew HDOK.out.rise)
      have HPUT := Lib.hid (fun V (hb : Below W4.heap.size W4 V) => put_is A p a1 c1 V ((HROW.out.keep hB4).keep hb) ((HIP.out.keep hB4).keep hb) (by omega))
      have HWOUT := Lib.hid (fun V (hb : Below W4.heap.size W4 V) => without_is A p.id a1 c1 V ((HROW.out.keep hB4).keep hb) (by omega))
      clear hW4 hz4 hdr hIp hFp hid1 hid2
      obtain ⟨l0, m0, m1, m2, m3, m4, m5, m6, m7, m8, m9, m10, m11, m12⟩ := hK.change
      obtain ⟨ek, hek⟩ : ∃ ek, Dd.chk A d p = ek := ⟨_, rfl⟩
      have HEK := Lib.hid hek
      rw [hek] at HCHK
      clear hek
      by_cases he0 : ek = 0
      · subst he0
        have HK0 := HEK.out
        have HPR : Hid (Dd.run (Dd.cores (Dd.patched A d p)) (Dd.coreC (C.drop (j + 1))) = R) := Lib.hid (by
          rw [Dd.patched_cores, ← HRUN.out, HDR.out]
          show _ = Dd.run (Dd.cores A) ((d, p.core) :: Dd.coreC (C.drop (j + 1)))
          rw [Dd.run_ok (by rw [Dd.chk_cores, HK0])])
        have HNX : Hid (DdOk (Dd.patched A d p)) := Lib.hid (HDOK.out.next HK0 rfl HFP.out rfl)
        generalize hAn : A.length = nA at *
        clear HK0
        rcases Dd.chk_0 HEK.out with ⟨rfl, hh⟩ | ⟨rfl, _, _⟩
        · have HPAT := Lib.hid (Dd.without_eq HDOK.out.rise hh)
          rw [HPAT.out] at HPR HNX
          clear hh
          rw [hca]
          go_upto_region 4 with fail
          rw [HW4.out]
          go_wp2_with (first
            | (go_at_call 50; (with_reducible refine HCHK.out.mono ?_); rintro e w5 ⟨rfl, hB5⟩; obtain ⟨l0, m0, m1, m2, m3, m4, m5, m6, m7, m8, m9, m10, m11, m12⟩ := (hK.keep hB5).change)
            | (go_at_call 51; (with_reducible refine (HWOUT.out _ hB5).mono ?_); rintro e w6 ⟨a6, c6, rfl, _, _, hr6, hB6⟩))
          rw [← hca]
          go_roundg (n - (j + 1))
          case rel => exact ⟨j + 1, _, a6, c6, by omega, rfl, by go_num, rfl, hr6, HNX.out, HPR.out, below_up hBw4 (below_up hB5 hB6)⟩
          case measure => omega
        · have HPAT := Lib.hid (Dd.put_eq HDOK.out.rise p)
          rw [HPAT.out] at HPR HNX
          rw [hca]
          go_upto_region 4 with fail
          rw [HW4.out]
          go_wp2_with (first
            | (go_at_call 50; (with_reducible refine HCHK.out.mono ?_); rintro e w5 ⟨rfl, hB5⟩; obtain ⟨l0, m0, m1, m2, m3, m4, m5, m6, m7, m8, m9, m10, m11, m12⟩ := (hK.keep hB5).change)
            | (go_at_call 52; (with_reducible refine (HPUT.out _ hB5).mono ?_); rintro e w6 ⟨a6, c6, rfl, _, _, hr6, hB6⟩))
          rw [← hca]
          go_roundg (n - (j + 1))
          case rel => exact ⟨j + 1, _, a6, c6, by omega, rfl, by go_num, rfl, hr6, HNX.out, HPR.out, below_up hBw4 (below_up hB5 hB6)⟩
          case measure => omega
      · have he1 : (ek != 0) = true := by simpa using he0
        have HRR : Hid (R = (ek, [])) := Lib.hid (by
          rw [← HRUN.out, HDR.out]
          show Dd.run (Dd.cores A) ((d, p.core) :: Dd.coreC (C.drop (j + 1))) = _
          rw [Dd.run_bad (by rw [Dd.chk_cores, HEK.out]; exact he0), Dd.chk_cores, HEK.out])
        clear he0
        rw [hca]
        go_upto_region 4 with fail
        rw [HW4.out]
        go_wp2_with (go_at_call 50; (with_reducible refine HCHK.out.mono ?_); rintro e w5 ⟨rfl, hB5⟩)
        go_ret2
        rw [HRR.out]
        exact ⟨none, 0, [], rfl, rfl, ⟨fun h => absurd h (Nat.lt_irrefl 0), fun i h => absurd h (Nat.not_lt_zero i)⟩, fun q h => by simp at h, Nat.zero_le _, below_up hBw4 hB5⟩
    · obtain rfl : j = n := by omega
      have HRR : Hid (R = (0, Dd.cores A)) := Lib.hid (by
        have h := HRUN.out
        rw [List.drop_eq_nil_of_le (by rw [HCN.out]; exact Nat.le_refl _)] at h
        exact h.symm)
      go_wp2_with fail
      go_ret2
      rw [HRR.out]
      exact ⟨a1, c1, A, rfl, rfl, HROW.out, HDOK.out.fits, HDOK.out.few, hBw⟩
end Go.Proofs.Ytipmegkmkbbklaa

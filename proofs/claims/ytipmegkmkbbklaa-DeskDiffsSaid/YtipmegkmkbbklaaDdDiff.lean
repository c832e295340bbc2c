/- Diff: what makes one library of another one. -/
import Derived.Test.YtipmegkmkbbklaaDdChk
import Derived.Test.YtipmegkmkbbklaaDdMath
import Derived.Test.YtipmegkmkbbklaaFdSames
import Derived.Deep.RegionHeld3
namespace Go.Proofs.Ytipmegkmkbbklaa
open Go.RowKit Go.Sort Go.Shelf
set_option linter.unusedVariables false
namespace Dd
def dropsL (A B : Lib) : List Chg := (A.filter fun p => !has B p.id).map fun p => (true, only p.id)
def putsL (B A : Lib) : List Chg := (B.filter fun p => !(has A p.id && (at_ A (pos A p.id)).same p)).map fun p => (false, p)
theorem diff_eq (A B : Lib) : diff A B = dropsL A B ++ putsL B A := rfl
theorem drops_next {A B : Lib} {j : Nat} (h : j < A.length) : dropsL (A.take (j + 1)) B = dropsL (A.take j) B ++ if has B (at_ A j).id = true then [] else [(true, only (at_ A j).id)] := by
  rw [take_at h]; unfold dropsL; rw [List.filter_append, List.map_append]
  congr 1
  simp only [List.filter_cons, List.filter_nil]
  generalize has B (at_ A j).id = q
  cases q <;> rfl
theorem puts_next {A B : Lib} {j : Nat} (h : j < B.length) : putsL (B.take (j + 1)) A = putsL (B.take j) A ++ if (has A (at_ B j).id && (at_ A (pos A (at_ B j).id)).same (at_ B j)) = true then [] else [(false, at_ B j)] := by
  rw [take_at h]; unfold putsL; rw [List.filter_append, List.map_append]
  congr 1
  simp only [List.filter_cons, List.filter_nil]
  generalize (has A (at_ B j).id && (at_ A (pos A (at_ B j).id)).same (at_ B j)) = q
  cases q <;> rfl
theorem drops_len (A B : Lib) : (dropsL A B).length ≤ A.length := by unfold dropsL; rw [List.length_map]; exact List.length_filter_le _ _
theorem puts_len (A B : Lib) : (putsL B A).length ≤ B.length := by unfold putsL; rw [List.length_map]; exact List.length_filter_le _ _
theorem coreC_len {M N : List Chg} (h : coreC M = coreC N) : M.length = N.length := by have := congrArg List.length h; simpa [coreC] using this
theorem coreC_snoc {M N : List Chg} {d : Bool} {p r : Ph} (h : coreC M = coreC N) (hr : r.core = p.core) : coreC (M ++ [(d, r)]) = coreC (N ++ [(d, p)]) := by
  unfold coreC at h ⊢
  rw [List.map_append, List.map_append, h]; simp [hr]
end Dd
theorem Dd.only_off (id : Int) (b : Nat) : (Dd.only id).Off b := ⟨fun h => absurd h (by show ¬ 0 < 0; omega), fun h => absurd h (by show ¬ 0 < 0; omega), fun h => absurd h (by show ¬ 0 < 0; omega)⟩
theorem Phs.sub {w : World} {b off n : Nat} {x : Nat → Ph} (h : Phs w (some ⟨b, off, none⟩) n x) {i : Nat} (hi : i < n) : Phs w (some ⟨b, off + i * 13, none⟩) 1 (fun _ => x i) := by
  refine ⟨fun _ => ?_, fun k _ => h.each i hi⟩
  obtain ⟨b', o', e, hb, hc⟩ := h.row (by omega)
  cases e
  refine ⟨b, off + i * 13, rfl, hb, fun k hk => ?_⟩
  obtain rfl : k = 0 := by omega
  exact hc i hi
/-- What Diff returns. -/
def DiffPost (w : World) (D : List Chg) (e : Ending) (w' : World) : Prop :=
  ∃ a ca M, e = .returned (.tuple #[.slice a M.length ca, .int .i64 0]) ∧ Dd.coreC M = Dd.coreC D ∧ Chs w' a M ∧ (∀ c, c ∈ M → c.2.Fits) ∧ Below w.heap.size w w'
theorem clipCh_is (a : Option Addr) (n ca : Nat) (w : World) (h : n ≤ ca) (hc : ca ≤ 9223372036854775807) : Calls Try.prog 44 #[.slice a n ca] w fun e w' => e = .returned (.slice a n n) ∧ w = w' := by
  go_enter Try.func44, Try.ntmps44
  go_wp2_with fail
  go_ret
  exact ⟨rfl, rfl⟩
set_option maxRecDepth 100000 in
set_option maxHeartbeats 8000000 in
theorem diff_ok (A B : Dd.Lib) (a : Option Addr) (ca : Nat) (b : Option Addr) (cb : Nat) (w : World) (hx : Phs w a A.length (Dd.at_ A)) (hy : Phs w b B.length (Dd.at_ B)) (hA : DdOk A) (hB : DdOk B) (hlA : Fd.lerr (Dd.at_ A) A.length = 0) (hlB : Fd.lerr (Dd.at_ B) B.length = 0) (hca : A.length ≤ ca) (hcm : ca ≤ 9223372036854775807) :
    Calls Try.prog 10 #[.slice a A.length ca, .slice b B.length cb] w (DiffPost w (Dd.diff A B)) := by
  obtain ⟨i0, hi0, hy0, hy1, hy2⟩ := info_parts infoChange
  have HI0 := Lib.hid hi0; have HI1 := Lib.hid hy0; have HI2 := Lib.hid hy1; have HI3 := Lib.hid hy2
  clear hi0 hy0 hy1 hy2
  have hAf := hA.few; have hBf := hB.few
  have HCA := Lib.hid (fun V (hb : Below w.heap.size w V) => check_is a A.length ca (Dd.at_ A) V (hx.keep hb) (fun i hi => hA.fits _ (Dd.at_mem hi)) (by omega))
  have HCB := Lib.hid (fun V (hb : Below w.heap.size w V) => check_is b B.length cb (Dd.at_ B) V (hy.keep hb) (fun i hi => hB.fits _ (Dd.at_mem hi)) (by omega))
  rw [hlA] at HCA
  rw [hlB] at HCB
  have HXB := Lib.hid (fun V (id : Int) (h1 : 1 ≤ id ∧ id ≤ 1000000) (hb : Below w.heap.size w V) => indexOf_is B b cb id ⟨by omega, by omega⟩ V (hy.keep hb) hBf hB.right hB.rise)
  have HXA := Lib.hid (fun V (id : Int) (h1 : 1 ≤ id ∧ id ≤ 1000000) (hb : Below w.heap.size w V) => indexOf_is A a ca id ⟨by omega, by omega⟩ V (hx.keep hb) hAf hA.right hA.rise)
  have HX := Lib.hid hx; have HY := Lib.hid hy; have HAO := Lib.hid hA; have HBO := Lib.hid hB
  have HD1 := Lib.hid (fun j (h : j < A.length) => Dd.drops_next (B := B) h)
  have HD2 := Lib.hid (fun j (h : j < B.length) => Dd.puts_next (A := A) h)
  have HL1 := Lib.hid (fun j => Dd.drops_len (A.take j) B)
  have HL2 := Lib.hid (fun j => Dd.puts_len A (B.take j))
  obtain ⟨n, hn⟩ : ∃ n, A.length = n := ⟨_, rfl⟩
  obtain ⟨m, hm⟩ : ∃ m, B.length = m := ⟨_, rfl⟩
  rw [hn] at hAf HCA HXA hca ⊢
  rw [hm] at hBf HCB HXB ⊢
  have HN := Lib.hid hn; have HM := Lib.hid hm
  obtain ⟨W1, hW1, hK, hz1, hB1⟩ := box w #[.slice a n ca, .slice b m cb] 37
  have HW1 := Lib.hid hW1
  have hs1 := hB1.size
  clear hx hy hA hB hlA hlB hn hm hW1 hz1
  go_enter Try.func10, Try.ntmps10
  go_upto_region 2 with fail
  rw [HW1.out]
  go_loopg [22] 2 (fun gk i wr => ∃ j : Nat, j ≤ 2 ∧ gk = 2 - j ∧ i = .int .i64 j ∧ Below W1.heap.size W1 wr)
  case atStart => exact ⟨0, by omega, rfl, rfl, Below.refl _ _⟩
  case round =>
    obtain ⟨j, hj, rfl, rfl, hBr⟩ := hrel
    have hBw := below_up hB1 hBr
    obtain ⟨k0, k1⟩ := (hK.keep hBr).two
    by_cases h0 : j = 0
    · subst h0
      go_wp2_with (go_at_call 40; (with_reducible refine (HCA.out _ hBw).mono ?_); rintro e w4 ⟨rfl, hB4⟩)
      go_roundg 1
      case rel => exact ⟨1, by omega, rfl, rfl, below_up hBr hB4⟩
      case measure => omega
    by_cases h1 : j = 1
    · subst h1
      go_wp2_with (go_at_call 40; (with_reducible refine (HCB.out _ hBw).mono ?_); rintro e w4 ⟨rfl, hB4⟩)
      go_roundg 0
      case rel => exact ⟨2, by omega, rfl, rfl, below_up hBr hB4⟩
      case measure => omega
    obtain rfl : j = 2 := by omega
    have hs2 := hBr.size
    go_wp2_with fail
    go_loopg [9, 34] n (fun gk v i wt => ∃ (j : Nat) (M : List Chg), j ≤ n ∧ gk = n - j ∧ i = .int .i64 j ∧ Dd.coreC M = Dd.coreC (Dd.dropsL (A.take j) B) ∧ OwnCh wt W1.heap.size v M ∧ (∀ c, c ∈ M → c.2.Fits) ∧ Below W1.heap.size W1 wt)
    case atStart => exact ⟨0, [], by omega, rfl, rfl, rfl, OwnCh.nil _ _, fun c h => by simp at h, hBr⟩
    case round =>
      clear hj h0 h1 hBr hBw k0 k1 hs2
      obtain ⟨j, M, hj, rfl, rfl, hMC, hOC, hMF, hBt⟩ := hrel
      have HMC := Lib.hid hMC; have HOC := Lib.hid hOC; have HMF := Lib.hid hMF
      have hBwt := below_up hB1 hBt
      have hst := hBt.size
      have hml : M.length ≤ j := by
        have := HL1.out j
        rw [List.length_take, HN.out, Nat.min_eq_left hj] at this
        rw [Dd.coreC_len HMC.out]; exact this
      clear hMC hOC hMF
      by_cases hlt : j < n
      · have HXr := HX.out.keep hBwt
        obtain ⟨bb, off, hab, hbb, hcell⟩ := HXr.row (by rw [HN.out]; omega)
        obtain ⟨q0, q1, q2, q3, q4, q5, q6, q7, q8, q9, q10, q11, q12⟩ := hcell j (by rw [HN.out]; exact hlt)
        have hyid := Dd.right_id HAO.out.right (Dd.at_mem (L := A) (i := j) (by rw [HN.out]; exact hlt))
        have HD := Lib.hid (HD1.out j (by rw [HN.out]; exact hlt))
        clear hcell HXr
        generalize Dd.at_ A j = y at *
        obtain ⟨W4, hW4, hP, hz4, hB4⟩ := box wr #[.int .i64 y.id, .string y.file, .int .i64 y.mom, .int .i64 y.zone, .slice y.wa y.wn y.wc, .int .i64 y.W, .int .i64 y.H, .int .i64 y.turn, .int .i64 y.stars, .slice y.ta y.tn y.tc, .string y.cap, .slice y.pa y.pn y.pc, .bool y.hid] 26
        have HW4 := Lib.hid hW4
        have hBt4 := below_up hBt hB4
        have hBw4 := below_up hBwt hB4
        obtain ⟨m0, m1, m2, m3, m4, m5, m6, m7, m8, m9, m10, m11, m12⟩ := hP.photo
        have HIX := Lib.hid (HXB.out W4 y.id hyid hBw4)
        clear hW4 hz4 hyid
        cases hh : Dd.has B y.id
        · have HH := Lib.hid hh
          have HDN := Lib.hid (HD.out.trans (by rw [hh, if_neg (by decide)]))
          clear hh
          rw [hab]
          go_upto_region 12 with fail
          rw [HW4.out]
          clear q0 q1 q2 q3 q4 q5 q6 q7 q8 q9 q10 q11 q12
          go_wp2_with (first
            | (go_at_call 41; (with_reducible refine HIX.out.mono ?_); rintro e w5 ⟨i, rfl, _, _, _, hB5⟩; rw [HH.out]; have hB45 := below_up hB4 hB5; have hBt5 := below_up hBt hB45; have hs5 := hBt5.size; have HOC5 := Lib.hid (HOC.out.keep hB45); obtain ⟨m0, m1, m2, m3, m4, m5, m6, m7, m8, m9, m10, m11, m12⟩ := (hP.keep hB5).photo)
            | (at_builtin; refine wpList_append_own2 _ rfl _ _ 38 rfl W1.heap.size 47 i0 (.agg #[.bool false, .int .i64 0, .string ByteArray.empty, .int .i64 0, .int .i64 0, .slice none 0 0, .int .i64 0, .int .i64 0, .int .i64 0, .int .i64 0, .slice none 0 0, .string ByteArray.empty, .slice none 0 0, .bool false]) 14 176 Try.underlying38 HI0.out HI1.out HI2.out HI3.out rfl (by decide) _ _ _ rfl (HOC5.out.own.alloc _) ⟨w5.heap.size, 0, none⟩ 1 1 (Dd.chCells (true, Dd.only y.id)) rfl (by decide) rfl (cell_ch_new _ _ _ _) (chCells_one _) (by unfold maxLen; omega) (by omega) (by simp; omega) ?_; intro g8 cap8 w8 hown8 hgrow8 hnew8))
          have HOC8 := Lib.hid (HOC.out.grow (below_allocs hB45 _) hown8 rfl hgrow8 hnew8 (Dd.only_in _ _) (fun b _ => Dd.only_off _ b))
          have HB8 := Lib.hid ((below_allocs hBt5 (.cells #[.bool true, .int .i64 y.id, .string ⟨#[]⟩, .int .i64 0, .int .i64 0, .slice none 0 0, .int .i64 0, .int .i64 0, .int .i64 0, .int .i64 0, .slice none 0 0, .string ⟨#[]⟩, .slice none 0 0, .bool false] 47)).grown hgrow8 (by simp; omega) (fun k e => (HOC5.out.own.lt k e).1))
          clear hown8 hgrow8 hnew8
          rw [← hab]
          go_roundg (n - (j + 1))
          case rel => exact ⟨j + 1, M ++ [(true, Dd.only y.id)], by omega, rfl, by go_num, by rw [HDN.out]; exact Dd.coreC_snoc HMC.out rfl, HOC8.out, fun c hc => by (rcases List.mem_append.1 hc with h | h); exact HMF.out c h; (obtain rfl : c = _ := by simpa using h); exact Dd.only_fits _, HB8.out⟩
          case measure => omega
        · have HH := Lib.hid hh
          have HDN := Lib.hid (HD.out.trans (by rw [hh, if_pos rfl, List.append_nil]))
          clear hh
          rw [hab]
          go_upto_region 12 with fail
          rw [HW4.out]
          clear q0 q1 q2 q3 q4 q5 q6 q7 q8 q9 q10 q11 q12
          go_wp2_with (go_at_call 41; (with_reducible refine HIX.out.mono ?_); rintro e w5 ⟨i, rfl, _, _, _, hB5⟩; rw [HH.out])
          rw [← hab]
          go_roundg (n - (j + 1))
          case rel => exact ⟨j + 1, M, by omega, rfl, by go_num, by rw [HDN.out]; exact HMC.out, HOC.out.keep (below_up hB4 hB5), HMF.out, below_up hBt4 hB5⟩
          case measure => omega
      · obtain rfl : j = n := by omega
        have HMA : Hid (Dd.coreC M = Dd.coreC (Dd.dropsL A B)) := Lib.hid (by rw [HMC.out, List.take_of_length_le (by rw [HN.out]; exact Nat.le_refl _)])
        have hmj : M.length ≤ 1000 := by omega
        go_wp2_with fail
        clear hst hBwt hml HL1 HD1 HXB HCA HCB
        go_loopg [9, 57] m (fun gk v i wt => ∃ (t : Nat) (N : List Chg), t ≤ m ∧ gk = m - t ∧ i = .int .i64 t ∧ Dd.coreC N = Dd.coreC (Dd.dropsL A B ++ Dd.putsL (B.take t) A) ∧ OwnCh wt W1.heap.size v N ∧ (∀ c, c ∈ N → c.2.Fits) ∧ Below W1.heap.size W1 wt)
        case atStart => exact ⟨0, M, by omega, rfl, rfl, by rw [HMA.out]; show _ = Dd.coreC (Dd.dropsL A B ++ []); rw [List.append_nil], HOC.out, HMF.out, hBt⟩
        case round =>
          clear hBt
          obtain ⟨t, N, ht, rfl, rfl, hNC, hOC2, hNF, hBt⟩ := hrel
          have HNC := Lib.hid hNC; have HOC2 := Lib.hid hOC2; have HNF := Lib.hid hNF
          have hBwt := below_up hB1 hBt
          have hst := hBt.size
          have hnl : N.length ≤ 1000 + t := by
            have h1 := HL2.out t
            rw [List.length_take, HM.out, Nat.min_eq_left ht] at h1
            rw [Dd.coreC_len HNC.out, List.length_append, ← Dd.coreC_len HMA.out]; omega
          clear hNC hOC2 hNF HOC HMF HMC
          by_cases hlt : t < m
          · have HYr := HY.out.keep hBwt
            obtain ⟨bb, off, hab, hbb, hcell⟩ := HYr.row (by rw [HM.out]; omega)
            obtain ⟨q0, q1, q2, q3, q4, q5, q6, q7, q8, q9, q10, q11, q12⟩ := hcell t (by rw [HM.out]; exact hlt)
            have hyid := Dd.right_id HBO.out.right (Dd.at_mem (L := B) (i := t) (by rw [HM.out]; exact hlt))
            have HD := Lib.hid (HD2.out t (by rw [HM.out]; exact hlt))
            have HYI := Lib.hid (HYr.each t (by rw [HM.out]; exact hlt))
            have HYF := Lib.hid (HBO.out.fits _ (Dd.at_mem (L := B) (i := t) (by rw [HM.out]; exact hlt)))
            have HYW := Lib.hid (Ph.few_of' (HBO.out.right _ (Dd.at_mem (L := B) (i := t) (by rw [HM.out]; exact hlt))))
            clear hcell HYr
            generalize Dd.at_ B t = y at *
            obtain ⟨W4, hW4, hP, hz4, hB4⟩ := box wr #[.int .i64 y.id, .string y.file, .int .i64 y.mom, .int .i64 y.zone, .slice y.wa y.wn y.wc, .int .i64 y.W, .int .i64 y.H, .int .i64 y.turn, .int .i64 y.stars, .slice y.ta y.tn y.tc, .string y.cap, .slice y.pa y.pn y.pc, .bool y.hid] 26
            have HW4 := Lib.hid hW4
            have hBt4 := below_up hBt hB4
            have hBw4 := below_up hBwt hB4
            obtain ⟨m0, m1, m2, m3, m4, m5, m6, m7, m8, m9, m10, m11, m12⟩ := hP.photo
            have HIX := Lib.hid (HXA.out W4 y.id hyid hBw4)
            have HCPY := Lib.hid (fun V (hb : Below wr.heap.size wr V) => copyPhoto_new y HYW.out V (HYI.out.keep hb))
            clear hW4 hz4 hyid
            cases hh : Dd.has A y.id
            · have HH := Lib.hid hh
              have HDN := Lib.hid (HD.out.trans (by rw [hh, Bool.false_and, if_neg (by decide)]))
              clear hh
              rw [hab]
              go_upto_region 19 with fail
              rw [HW4.out]
              clear q0 q1 q2 q3 q4 q5 q6 q7 q8 q9 q10 q11 q12
              go_wp2_with (go_at_call 41; (with_reducible refine HIX.out.mono ?_); rintro e w5 ⟨i, rfl, _, _, _, hB5⟩; rw [HH.out])
              refine wp_region_quiet_below (by kernel_rfl) (by kernel_rfl) ?_
              repeat (go_big_quiet_step (fail))
              refine wpQuiet_nil ?_
              intro _ hw'
              obtain ⟨⟨dq, osq⟩, hw''⟩ := hw'
              subst hw''
              have hBx6 := below_regrown w5 dq osq
              generalize grow (redrawn w5 dq) osq = x6 at *
              clear dq osq
              have hB46 := below_up hB4 (below_up hB5 hBx6)
              obtain ⟨m0, m1, m2, m3, m4, m5, m6, m7, m8, m9, m10, m11, m12⟩ := (hP.keep (below_up hB5 hBx6)).photo
              -- the photo is put; x6: the world, behind wr by hB46
              have hBt6 := below_up hBt hB46
              have hs6 := hBt6.size
              go_wp2_with (first
                | (go_at_call 43; (with_reducible refine (HCPY.out _ hB46).mono ?_); rintro e w7 ⟨r, rfl, hrc, hrI, hrN, hB7⟩; have HRC := Lib.hid hrc; have HRI := Lib.hid hrI; have HRN := Lib.hid hrN; clear hrc hrI hrN; have hB47 := below_up hB46 hB7; have hBt7 := below_up hBt hB47; have hs7 := hBt7.size; have HOC7 := Lib.hid (HOC2.out.keep hB47))
                | (at_builtin; refine wpList_append_own2 _ rfl _ _ 38 rfl W1.heap.size 47 i0 (.agg #[.bool false, .int .i64 0, .string ByteArray.empty, .int .i64 0, .int .i64 0, .slice none 0 0, .int .i64 0, .int .i64 0, .int .i64 0, .int .i64 0, .slice none 0 0, .string ByteArray.empty, .slice none 0 0, .bool false]) 14 176 Try.underlying38 HI0.out HI1.out HI2.out HI3.out rfl (by decide) _ _ _ rfl (HOC7.out.own.alloc _) ⟨w7.heap.size, 0, none⟩ 1 1 (Dd.chCells (false, r)) rfl (by decide) rfl (cell_ch_new _ _ _ _) (chCells_one _) (by unfold maxLen; omega) (by omega) (by simp; omega) ?_; intro g8 cap8 w8 hown8 hgrow8 hnew8))
              have HOC8 := Lib.hid (HOC2.out.grow (below_allocs hB47 _) hown8 rfl hgrow8 hnew8 (HRI.out.keep (below_allocs (Below.refl _ _) _)) (fun b hb => Ph.Off.of_new HRN.out (Nat.lt_of_lt_of_le (HOC2.out.own.lt b hb).2 hB46.size)))
              have HB8 := Lib.hid ((below_allocs hBt7 (.cells #[.bool false, .int .i64 r.id, .string r.file, .int .i64 r.mom, .int .i64 r.zone, .slice r.wa r.wn r.wc, .int .i64 r.W, .int .i64 r.H, .int .i64 r.turn, .int .i64 r.stars, .slice r.ta r.tn r.tc, .string r.cap, .slice r.pa r.pn r.pc, .bool r.hid] 47)).grown hgrow8 (by simp; omega) (fun k e => (HOC7.out.own.lt k e).1))
              clear hown8 hgrow8 hnew8
              rw [← hab]
              go_roundg (m - (t + 1))
              case rel => exact ⟨t + 1, N ++ [(false, r)], by omega, rfl, by go_num, by rw [HDN.out, ← List.append_assoc]; exact Dd.coreC_snoc HNC.out HRC.out, HOC8.out, fun c hc => by (rcases List.mem_append.1 hc with h | h); exact HNF.out c h; (obtain rfl : c = _ := by simpa using h); exact HYF.out.of_core HRC.out, HB8.out⟩
              case measure => omega
            · have HH := Lib.hid hh
              obtain ⟨s, hs⟩ : ∃ s, (Dd.at_ A (Dd.pos A y.id)).same y = s := ⟨_, rfl⟩
              have HS := Lib.hid hs
              have hpn : Dd.pos A y.id < j := by
                obtain ⟨A1, q, A2, h1, h2, _⟩ := Dd.there HAO.out.rise hh
                have := HN.out
                rw [h1, List.length_append, List.length_cons] at this
                omega
              have HSM := Lib.hid (fun V b2 (h2 : Blk V b2 #[.int .i64 y.id, .string y.file, .int .i64 y.mom, .int .i64 y.zone, .slice y.wa y.wn y.wc, .int .i64 y.W, .int .i64 y.H, .int .i64 y.turn, .int .i64 y.stars, .slice y.ta y.tn y.tc, .string y.cap, .slice y.pa y.pn y.pc, .bool y.hid] 26) (hb : Below w.heap.size w V) (g o : Nat) (hg : a = some ⟨g, o, none⟩) (hIy : y.In V) => show Calls Try.prog 42 #[.slice (some ⟨g, o + Dd.pos A y.id * 13, none⟩) 1 (ca - Dd.pos A y.id), .slice (some ⟨b2, 0, none⟩) 1 1] V fun e w' => e = .returned (.bool s) ∧ Below V.heap.size V w' by
                have hxv := HX.out.keep hb
                rw [hg] at hxv
                have hm := Dd.at_mem (L := A) (i := Dd.pos A y.id) (by rw [HN.out]; exact hpn)
                have := same_is _ 1 (ca - Dd.pos A y.id) _ _ 1 1 _ V (hxv.sub (by rw [HN.out]; exact hpn)) (Phs.one h2 hIy) (fun _ _ => HAO.out.fits _ hm) (fun _ _ => HYF.out) (by omega) (by omega)
                rw [eqRow_one, hs] at this
                exact this)
              have HDN : Hid (Dd.putsL (B.take (t + 1)) A = Dd.putsL (B.take t) A ++ if s = true then [] else [(false, y)]) := Lib.hid (HD.out.trans (by rw [hh, hs, Bool.true_and]))
              obtain ⟨k, hk⟩ : ∃ k, Dd.pos A y.id = k := ⟨_, rfl⟩
              have HK := Lib.hid hk
              rw [hk] at hpn HSM
              clear hh hs hk
              obtain ⟨ga, oa, rfl, _, _⟩ := (HX.out.keep hBwt).row (by rw [HN.out]; omega)
              have HSM2 := Lib.hid (fun V b2 h2 hb hIy => HSM.out V b2 h2 hb ga oa rfl hIy)
              have hck : ¬ ca = k := by omega
              have hkk1 : (k : Int) ≤ (k : Int) + 1 := by omega
              have hkk2 : (k : Int) + 1 ≤ (ca : Int) := by omega
              have hkk3 : (0 : Int) ≤ (k : Int) := by omega
              have hkw : IntKind.i64.wrap ((k : Int) + 1) = (k : Int) + 1 := by rw [IntKind.wrap_i64]; omega
              rw [hab]
              go_upto_region 19 with fail
              rw [HW4.out]
              clear q0 q1 q2 q3 q4 q5 q6 q7 q8 q9 q10 q11 q12
              cases s
              · go_wp2_with (go_at_call 41; (with_reducible refine HIX.out.mono ?_); rintro e w5 ⟨i, rfl, _, _, hg2, hB5⟩; obtain rfl : i = k := (hg2 HH.out).2.2.trans HK.out; rw [HH.out])
                have hPd := (hP.keep hB5).drew
                have hPe := ((hP.keep hB5).alloc (.cells #[.int .i64 y.id, .string y.file, .int .i64 y.mom, .int .i64 y.zone, .slice y.wa y.wn y.wc, .int .i64 y.W, .int .i64 y.H, .int .i64 y.turn, .int .i64 y.stars, .slice y.ta y.tn y.tc, .string y.cap, .slice y.pa y.pn y.pc, .bool y.hid] 26)).drew
                have hBw5 := below_up hBw4 hB5
                have hBr5 := below_up hB4 hB5
                clear m0 m1 m2 m3 m4 m5 m6 m7 m8 m9 m10 m11 m12
                obtain ⟨m0, m1, m2, m3, m4, m5, m6, m7, m8, m9, m10, m11, m12⟩ := hPd.photo
                obtain ⟨p0, p1, p2, p3, p4, p5, p6, p7, p8, p9, p10, p11, p12⟩ := hPe.photo
                go_region_held3 (fun w' => w'.cell? ⟨wr.heap.size, 0, none⟩ = some (.int .i64 y.id) ∧ w'.cell? ⟨wr.heap.size, 1, none⟩ = some (.string y.file) ∧ w'.cell? ⟨wr.heap.size, 2, none⟩ = some (.int .i64 y.mom) ∧ w'.cell? ⟨wr.heap.size, 3, none⟩ = some (.int .i64 y.zone) ∧ w'.cell? ⟨wr.heap.size, 4, none⟩ = some (.slice y.wa y.wn y.wc) ∧ w'.cell? ⟨wr.heap.size, 5, none⟩ = some (.int .i64 y.W) ∧ w'.cell? ⟨wr.heap.size, 6, none⟩ = some (.int .i64 y.H) ∧ w'.cell? ⟨wr.heap.size, 7, none⟩ = some (.int .i64 y.turn) ∧ w'.cell? ⟨wr.heap.size, 8, none⟩ = some (.int .i64 y.stars) ∧ w'.cell? ⟨wr.heap.size, 9, none⟩ = some (.slice y.ta y.tn y.tc) ∧ w'.cell? ⟨wr.heap.size, 10, none⟩ = some (.string y.cap) ∧ w'.cell? ⟨wr.heap.size, 11, none⟩ = some (.slice y.pa y.pn y.pc) ∧ w'.cell? ⟨wr.heap.size, 12, none⟩ = some (.bool y.hid))
                  (first
                    | with_reducible exact ⟨m0, m1, m2, m3, m4, m5, m6, m7, m8, m9, m10, m11, m12⟩
                    | with_reducible exact ⟨p0, p1, p2, p3, p4, p5, p6, p7, p8, p9, p10, p11, p12⟩)
                  (first
                    | (go_at_call 42; (with_reducible refine (HSM2.out _ w5.heap.size (Blk.new w5 _ _).drew (below_allocs hBw5 _).drew (HYI.out.keep (below_allocs hBr5 _).drew)).mono ?_); rintro e w7 ⟨rfl, hB7⟩; have hP7 := hPe.keep hB7; obtain ⟨m0, m1, m2, m3, m4, m5, m6, m7, m8, m9, m10, m11, m12⟩ := hP7.photo; have hB46 := below_up (below_allocs hBr5 (.cells #[.int .i64 y.id, .string y.file, .int .i64 y.mom, .int .i64 y.zone, .slice y.wa y.wn y.wc, .int .i64 y.W, .int .i64 y.H, .int .i64 y.turn, .int .i64 y.stars, .slice y.ta y.tn y.tc, .string y.cap, .slice y.pa y.pn y.pc, .bool y.hid] 26)).drew hB7))
                go_wp2_with fail
                obtain ⟨m0, m1, m2, m3, m4, m5, m6, m7, m8, m9, m10, m11, m12⟩ := hP7.photo
                have HDN := Lib.hid (HDN.out.trans (by rw [if_neg (by decide)]))
                -- the photo is put; w7: the world, behind wr by hB46
                have hBt6 := below_up hBt hB46
                have hs6 := hBt6.size
                go_wp2_with (first
                  | (go_at_call 43; (with_reducible refine (HCPY.out _ hB46).mono ?_); rintro e w7 ⟨r, rfl, hrc, hrI, hrN, hB7⟩; have HRC := Lib.hid hrc; have HRI := Lib.hid hrI; have HRN := Lib.hid hrN; clear hrc hrI hrN; have hB47 := below_up hB46 hB7; have hBt7 := below_up hBt hB47; have hs7 := hBt7.size; have HOC7 := Lib.hid (HOC2.out.keep hB47))
                  | (at_builtin; refine wpList_append_own2 _ rfl _ _ 38 rfl W1.heap.size 47 i0 (.agg #[.bool false, .int .i64 0, .string ByteArray.empty, .int .i64 0, .int .i64 0, .slice none 0 0, .int .i64 0, .int .i64 0, .int .i64 0, .int .i64 0, .slice none 0 0, .string ByteArray.empty, .slice none 0 0, .bool false]) 14 176 Try.underlying38 HI0.out HI1.out HI2.out HI3.out rfl (by decide) _ _ _ rfl (HOC7.out.own.alloc _) ⟨w7.heap.size, 0, none⟩ 1 1 (Dd.chCells (false, r)) rfl (by decide) rfl (cell_ch_new _ _ _ _) (chCells_one _) (by unfold maxLen; omega) (by omega) (by simp; omega) ?_; intro g8 cap8 w8 hown8 hgrow8 hnew8))
                have HOC8 := Lib.hid (HOC2.out.grow (below_allocs hB47 _) hown8 rfl hgrow8 hnew8 (HRI.out.keep (below_allocs (Below.refl _ _) _)) (fun b hb => Ph.Off.of_new HRN.out (Nat.lt_of_lt_of_le (HOC2.out.own.lt b hb).2 hB46.size)))
                have HB8 := Lib.hid ((below_allocs hBt7 (.cells #[.bool false, .int .i64 r.id, .string r.file, .int .i64 r.mom, .int .i64 r.zone, .slice r.wa r.wn r.wc, .int .i64 r.W, .int .i64 r.H, .int .i64 r.turn, .int .i64 r.stars, .slice r.ta r.tn r.tc, .string r.cap, .slice r.pa r.pn r.pc, .bool r.hid] 47)).grown hgrow8 (by simp; omega) (fun k e => (HOC7.out.own.lt k e).1))
                clear hown8 hgrow8 hnew8
                rw [← hab]
                go_roundg (m - (t + 1))
                case rel => exact ⟨t + 1, N ++ [(false, r)], by omega, rfl, by go_num, by rw [HDN.out, ← List.append_assoc]; exact Dd.coreC_snoc HNC.out HRC.out, HOC8.out, fun c hc => by (rcases List.mem_append.1 hc with h | h); exact HNF.out c h; (obtain rfl : c = _ := by simpa using h); exact HYF.out.of_core HRC.out, HB8.out⟩
                case measure => omega
              · go_wp2_with (go_at_call 41; (with_reducible refine HIX.out.mono ?_); rintro e w5 ⟨i, rfl, _, _, hg2, hB5⟩; obtain rfl : i = k := (hg2 HH.out).2.2.trans HK.out; rw [HH.out])
                have hPd := (hP.keep hB5).drew
                have hPe := ((hP.keep hB5).alloc (.cells #[.int .i64 y.id, .string y.file, .int .i64 y.mom, .int .i64 y.zone, .slice y.wa y.wn y.wc, .int .i64 y.W, .int .i64 y.H, .int .i64 y.turn, .int .i64 y.stars, .slice y.ta y.tn y.tc, .string y.cap, .slice y.pa y.pn y.pc, .bool y.hid] 26)).drew
                have hBw5 := below_up hBw4 hB5
                have hBr5 := below_up hB4 hB5
                clear m0 m1 m2 m3 m4 m5 m6 m7 m8 m9 m10 m11 m12
                obtain ⟨m0, m1, m2, m3, m4, m5, m6, m7, m8, m9, m10, m11, m12⟩ := hPd.photo
                obtain ⟨p0, p1, p2, p3, p4, p5, p6, p7, p8, p9, p10, p11, p12⟩ := hPe.photo
                go_region_held3 (fun w' => w'.cell? ⟨wr.heap.size, 0, none⟩ = some (.int .i64 y.id) ∧ w'.cell? ⟨wr.heap.size, 1, none⟩ = some (.string y.file) ∧ w'.cell? ⟨wr.heap.size, 2, none⟩ = some (.int .i64 y.mom) ∧ w'.cell? ⟨wr.heap.size, 3, none⟩ = some (.int .i64 y.zone) ∧ w'.cell? ⟨wr.heap.size, 4, none⟩ = some (.slice y.wa y.wn y.wc) ∧ w'.cell? ⟨wr.heap.size, 5, none⟩ = some (.int .i64 y.W) ∧ w'.cell? ⟨wr.heap.size, 6, none⟩ = some (.int .i64 y.H) ∧ w'.cell? ⟨wr.heap.size, 7, none⟩ = some (.int .i64 y.turn) ∧ w'.cell? ⟨wr.heap.size, 8, none⟩ = some (.int .i64 y.stars) ∧ w'.cell? ⟨wr.heap.size, 9, none⟩ = some (.slice y.ta y.tn y.tc) ∧ w'.cell? ⟨wr.heap.size, 10, none⟩ = some (.string y.cap) ∧ w'.cell? ⟨wr.heap.size, 11, none⟩ = some (.slice y.pa y.pn y.pc) ∧ w'.cell? ⟨wr.heap.size, 12, none⟩ = some (.bool y.hid))
                  (first
                    | with_reducible exact ⟨m0, m1, m2, m3, m4, m5, m6, m7, m8, m9, m10, m11, m12⟩
                    | with_reducible exact ⟨p0, p1, p2, p3, p4, p5, p6, p7, p8, p9, p10, p11, p12⟩)
                  (first
                    | (go_at_call 42; (with_reducible refine (HSM2.out _ w5.heap.size (Blk.new w5 _ _).drew (below_allocs hBw5 _).drew (HYI.out.keep (below_allocs hBr5 _).drew)).mono ?_); rintro e w7 ⟨rfl, hB7⟩; have hP7 := hPe.keep hB7; obtain ⟨m0, m1, m2, m3, m4, m5, m6, m7, m8, m9, m10, m11, m12⟩ := hP7.photo; have hB46 := below_up (below_allocs hBr5 (.cells #[.int .i64 y.id, .string y.file, .int .i64 y.mom, .int .i64 y.zone, .slice y.wa y.wn y.wc, .int .i64 y.W, .int .i64 y.H, .int .i64 y.turn, .int .i64 y.stars, .slice y.ta y.tn y.tc, .string y.cap, .slice y.pa y.pn y.pc, .bool y.hid] 26)).drew hB7))
                go_wp2_with fail
                have HDN : Hid (Dd.putsL (B.take (t + 1)) A = Dd.putsL (B.take t) A) := Lib.hid (by rw [HDN.out]; simp)
                rw [← hab]
                go_roundg (m - (t + 1))
                case rel => exact ⟨t + 1, N, by omega, rfl, by go_num, by rw [HDN.out]; exact HNC.out, HOC2.out.keep hB46, HNF.out, below_up hBt hB46⟩
                case measure => omega
          · obtain rfl : t = m := by omega
            have HNA : Hid (Dd.coreC N = Dd.coreC (Dd.diff A B)) := Lib.hid (by rw [Dd.diff_eq, HNC.out, List.take_of_length_le (by rw [HM.out]; exact Nat.le_refl _)])
            obtain ⟨a1, c1, rfl, hk1, hm1, _, hch⟩ := Chs.of_own HOC2.out.own HOC2.out.each
            have HCH := Lib.hid hch
            have HCL := Lib.hid (clipCh_is a1 N.length c1 wr hk1 hm1)
            clear hch
            go_wp2_with (go_at_call 44; (with_reducible refine HCL.out.mono ?_); rintro e w9 ⟨rfl, rfl⟩)
            go_ret2
            exact ⟨a1, N.length, N, rfl, HNA.out, HCH.out, HNF.out, hBwt⟩
end Go.Proofs.Ytipmegkmkbbklaa
namespace Go.Proofs.Ytipmegkmkbbklaa
open Go.RowKit Go.Sort Go.Shelf
set_option linter.unusedVariables false
set_option maxRecDepth 100000 in
set_option maxHeartbeats 4000000 in
theorem diff_errA (A B : Dd.Lib) (a : Option Addr) (ca : Nat) (b : Option Addr) (cb : Nat) (w : World) (hx : Phs w a A.length (Dd.at_ A)) (hF : ∀ p, p ∈ A → p.Fits) (hn : A.length ≤ 9223372036854775807) (q : Int) (hq : Fd.lerr (Dd.at_ A) A.length = q) (hne : q ≠ 0) :
    Calls Try.prog 10 #[.slice a A.length ca, .slice b B.length cb] w fun e w' => e = .returned (.tuple #[.slice none 0 0, .int .i64 q]) ∧ Below w.heap.size w w' := by
  have HCA := Lib.hid (fun V (hb : Below w.heap.size w V) => check_is a A.length ca (Dd.at_ A) V (hx.keep hb) (fun i hi => hF _ (Dd.at_mem hi)) hn)
  rw [hq] at HCA
  have h1 : (q != 0) = true := by simpa using hne
  clear hx hF hq
  obtain ⟨W1, hW1, hK, hz1, hB1⟩ := box w #[.slice a A.length ca, .slice b B.length cb] 37
  have HW1 := Lib.hid hW1
  clear hW1 hz1
  go_enter Try.func10, Try.ntmps10
  go_upto_region 2 with fail
  rw [HW1.out]
  go_loopg [22] 2 (fun gk i wr => ∃ j : Nat, j ≤ 2 ∧ gk = 2 - j ∧ i = .int .i64 j ∧ j ≤ 0 ∧ Below W1.heap.size W1 wr)
  case atStart => exact ⟨0, by omega, rfl, rfl, by omega, Below.refl _ _⟩
  case round =>
    obtain ⟨j, hj, rfl, rfl, hjj, hBr⟩ := hrel
    have hBw := below_up hB1 hBr
    obtain ⟨k0, k1⟩ := (hK.keep hBr).two
    obtain rfl : j = 0 := by omega
    go_wp2_with (go_at_call 40; (with_reducible refine (HCA.out _ hBw).mono ?_); rintro e w4 ⟨rfl, hB4⟩)
    go_ret2
    exact ⟨rfl, below_up hBw hB4⟩
set_option maxRecDepth 100000 in
set_option maxHeartbeats 4000000 in
theorem diff_errB (A B : Dd.Lib) (a : Option Addr) (ca : Nat) (b : Option Addr) (cb : Nat) (w : World) (hx : Phs w a A.length (Dd.at_ A)) (hy : Phs w b B.length (Dd.at_ B)) (hF : ∀ p, p ∈ A → p.Fits) (hG : ∀ p, p ∈ B → p.Fits) (hn : A.length ≤ 9223372036854775807) (hm : B.length ≤ 9223372036854775807) (hA : Fd.lerr (Dd.at_ A) A.length = 0) (q : Int) (hq : Fd.lerr (Dd.at_ B) B.length = q) (hne : q ≠ 0) :
    Calls Try.prog 10 #[.slice a A.length ca, .slice b B.length cb] w fun e w' => e = .returned (.tuple #[.slice none 0 0, .int .i64 q]) ∧ Below w.heap.size w w' := by
  have HCA := Lib.hid (fun V (hb : Below w.heap.size w V) => check_is a A.length ca (Dd.at_ A) V (hx.keep hb) (fun i hi => hF _ (Dd.at_mem hi)) hn)
  have HCB := Lib.hid (fun V (hb : Below w.heap.size w V) => check_is b B.length cb (Dd.at_ B) V (hy.keep hb) (fun i hi => hG _ (Dd.at_mem hi)) hm)
  rw [hA] at HCA
  rw [hq] at HCB
  have h1 : (q != 0) = true := by simpa using hne
  clear hx hF hy hG hq hA
  obtain ⟨W1, hW1, hK, hz1, hB1⟩ := box w #[.slice a A.length ca, .slice b B.length cb] 37
  have HW1 := Lib.hid hW1
  clear hW1 hz1
  go_enter Try.func10, Try.ntmps10
  go_upto_region 2 with fail
  rw [HW1.out]
  go_loopg [22] 2 (fun gk i wr => ∃ j : Nat, j ≤ 2 ∧ gk = 2 - j ∧ i = .int .i64 j ∧ j ≤ 1 ∧ Below W1.heap.size W1 wr)
  case atStart => exact ⟨0, by omega, rfl, rfl, by omega, Below.refl _ _⟩
  case round =>
    obtain ⟨j, hj, rfl, rfl, hjj, hBr⟩ := hrel
    have hBw := below_up hB1 hBr
    obtain ⟨k0, k1⟩ := (hK.keep hBr).two
    by_cases h0 : j = 0
    · subst h0
      go_wp2_with (go_at_call 40; (with_reducible refine (HCA.out _ hBw).mono ?_); rintro e w4 ⟨rfl, hB4⟩)
      go_roundg 1
      case rel => exact ⟨1, by omega, rfl, rfl, by omega, below_up hBr hB4⟩
      case measure => omega
    obtain rfl : j = 1 := by omega
    go_wp2_with (go_at_call 40; (with_reducible refine (HCB.out _ hBw).mono ?_); rintro e w4 ⟨rfl, hB4⟩)
    go_ret2
    exact ⟨rfl, below_up hBw hB4⟩
theorem Ph.In.off_lo {p : Ph} {w : World} {b : Nat} (h : p.In w) (hb : w.heap.size ≤ b) : p.Off b := Ph.Off.of_in h hb
def ChsPost (w : World) (D : List Chg) (e : Ending) (w' : World) : Prop :=
  ∃ a ca M, e = .returned (.slice a M.length ca) ∧ Dd.coreC M = Dd.coreC D ∧ Chs w' a M ∧ (∀ c, c ∈ M → c.2.Fits) ∧ Below w.heap.size w w'
set_option maxRecDepth 100000 in
set_option maxHeartbeats 8000000 in
theorem diffOf_is (A B : Dd.Lib) (a : Option Addr) (ca : Nat) (b : Option Addr) (cb : Nat) (w : World) (hx : Phs w a A.length (Dd.at_ A)) (hy : Phs w b B.length (Dd.at_ B)) (hA : DdOk A) (hB : DdOk B) :
    Calls Try.prog 16 #[.slice a A.length ca, .slice b B.length cb] w (ChsPost w (Dd.diff A B)) := by
  obtain ⟨i0, hi0, hy0, hy1, hy2⟩ := info_parts infoChange
  have HI0 := Lib.hid hi0; have HI1 := Lib.hid hy0; have HI2 := Lib.hid hy1; have HI3 := Lib.hid hy2
  clear hi0 hy0 hy1 hy2
  have hAf := hA.few; have hBf := hB.few
  have HX := Lib.hid hx; have HY := Lib.hid hy; have HAO := Lib.hid hA; have HBO := Lib.hid hB
  have HD1 := Lib.hid (fun j (h : j < A.length) => Dd.drops_next (B := B) h)
  have HD2 := Lib.hid (fun j (h : j < B.length) => Dd.puts_next (A := A) h)
  have HL1 := Lib.hid (fun j => Dd.drops_len (A.take j) B)
  have HL2 := Lib.hid (fun j => Dd.puts_len A (B.take j))
  have hlA := Fd.idsL_len (Dd.at_ A) A.length; have hlB := Fd.idsL_len (Dd.at_ B) B.length
  have HIA := Lib.hid (fun V (hb : Below w.heap.size w V) => idsR_is a A.length ca (Dd.at_ A) V (hx.keep hb) (by omega))
  have HIB := Lib.hid (fun V (hb : Below w.heap.size w V) => idsR_is b B.length cb (Dd.at_ B) V (hy.keep hb) (by omega))
  have HHB := Lib.hid (fun id => Dd.has_ids B id)
  have HCB := Lib.hid (fun V a' (hr : RowL V a' (Fd.idsL (Dd.at_ B) B.length)) ca' (id : Int) => show Calls Try.prog 54 #[.slice a' B.length ca', .int .i64 id] V fun e w' => e = .returned (.bool (Dd.has B id)) ∧ V = w' by
    have h := contains_is a' (Fd.idsL (Dd.at_ B) B.length).length ca' (fun i => (Fd.idsL (Dd.at_ B) B.length)[i]?.getD 0) id V hr (by rw [hlB]; omega)
    rw [hlB, Dd.has_ids] at h
    exact h)
  have hg : ∀ i, i < A.length → (Fd.idsL (Dd.at_ A) A.length)[i]?.getD 0 = (Dd.at_ A i).id := fun i hi => by unfold Fd.idsL; rw [List.getElem?_map, List.getElem?_range hi]; rfl
  have HCA := Lib.hid (fun V a' (hr : RowL V a' (Fd.idsL (Dd.at_ A) A.length)) ca' (id : Int) => show Calls Try.prog 55 #[.slice a' A.length ca', .int .i64 id] V fun e w' => (∃ r : Int, e = .returned (.int .i64 r) ∧ ((Dd.has A id = true ∧ r = (Dd.pos A id : Nat)) ∨ (Dd.has A id = false ∧ r = -1))) ∧ V = w' by
    have h := index_is a' (Fd.idsL (Dd.at_ A) A.length).length ca' (fun i => (Fd.idsL (Dd.at_ A) A.length)[i]?.getD 0) id V hr (by rw [hlA]; omega)
    rw [hlA, Dd.has_ids] at h
    refine h.mono ?_
    rintro e w' ⟨⟨r, rfl, h2⟩, rfl⟩
    refine ⟨⟨r, rfl, ?_⟩, rfl⟩
    rcases h2 with ⟨h3, _, j, rfl, hj, hv⟩ | ⟨h3, h4⟩
    · refine .inl ⟨h3, ?_⟩
      rw [hg j hj] at hv
      have := Dd.pos_of hA.rise (id := id) (i := j) (by omega) (fun k hk => by
        have h5 := List.pairwise_iff_getElem.1 hA.rise k j (by omega) hj hk
        unfold Dd.at_ at hv ⊢
        rw [List.getElem?_eq_getElem hj] at hv
        rw [List.getElem?_eq_getElem (by omega)]
        have hv : A[j].id = id := hv
        show A[k].id < id
        omega) (fun k hk hk2 => by
        have := Dd.rise_at hA.rise hk hk2
        omega)
      rw [this]
    · exact .inr ⟨h3, h4⟩)
  obtain ⟨idA, hidA⟩ : ∃ l, Fd.idsL (Dd.at_ A) A.length = l := ⟨_, rfl⟩
  obtain ⟨idB, hidB⟩ : ∃ l, Fd.idsL (Dd.at_ B) B.length = l := ⟨_, rfl⟩
  rw [hidA] at hlA HIA HCA
  rw [hidB] at hlB HIB HCB
  obtain ⟨n, hn⟩ : ∃ n, A.length = n := ⟨_, rfl⟩
  obtain ⟨m, hm⟩ : ∃ m, B.length = m := ⟨_, rfl⟩
  rw [hn] at hAf hlA HIA HCA ⊢
  rw [hm] at hBf hlB HIB HCB ⊢
  have HLA := Lib.hid hlA; have HLB := Lib.hid hlB
  have HN := Lib.hid hn; have HM := Lib.hid hm
  clear hx hy hA hB hn hm hlA hlB hg hidA hidB
  go_enter Try.func16, Try.ntmps16
  go_wp2_with fail
  go_loopg [5, 13] n (fun gk v i wt => ∃ (j : Nat) (M : List Chg), j ≤ n ∧ gk = n - j ∧ i = .int .i64 j ∧ Dd.coreC M = Dd.coreC (Dd.dropsL (A.take j) B) ∧ OwnCh wt w.heap.size v M ∧ (∀ c, c ∈ M → c.2.Fits) ∧ Below w.heap.size w wt)
  case atStart => exact ⟨0, [], by omega, rfl, rfl, rfl, OwnCh.nil _ _, fun c h => by simp at h, Below.refl _ _⟩
  case round =>
    obtain ⟨j, M, hj, rfl, rfl, hMC, hOC, hMF, hBt⟩ := hrel
    have HMC := Lib.hid hMC; have HOC := Lib.hid hOC; have HMF := Lib.hid hMF
    have hst := hBt.size
    have hml : M.length ≤ j := by
      have := HL1.out j
      rw [List.length_take, HN.out, Nat.min_eq_left hj] at this
      rw [Dd.coreC_len HMC.out]; exact this
    clear hMC hOC hMF
    by_cases hlt : j < n
    · have HXr := HX.out.keep hBt
      obtain ⟨bb, off, rfl, hbb, hcell⟩ := HXr.row (by rw [HN.out]; omega)
      obtain ⟨q0, q1, q2, q3, q4, q5, q6, q7, q8, q9, q10, q11, q12⟩ := hcell j (by rw [HN.out]; exact hlt)
      have HD := Lib.hid (HD1.out j (by rw [HN.out]; exact hlt))
      clear hcell HXr
      generalize Dd.at_ A j = y at *
      obtain ⟨W4, hW4, hP, hz4, hB4⟩ := box wr #[.int .i64 y.id, .string y.file, .int .i64 y.mom, .int .i64 y.zone, .slice y.wa y.wn y.wc, .int .i64 y.W, .int .i64 y.H, .int .i64 y.turn, .int .i64 y.stars, .slice y.ta y.tn y.tc, .string y.cap, .slice y.pa y.pn y.pc, .bool y.hid] 26
      have HW4 := Lib.hid hW4
      have hBt4 := below_up hBt hB4
      have hPd := hP.drew
      obtain ⟨hb, hhb⟩ : ∃ hb, Dd.has B y.id = hb := ⟨_, rfl⟩
      have HHb := Lib.hid hhb
      have HDN : Hid (Dd.dropsL (A.take (j + 1)) B = Dd.dropsL (A.take j) B ++ if hb = true then [] else [(true, Dd.only y.id)]) := Lib.hid (by rw [HD.out, hhb])
      clear hW4 hz4 hhb
      go_upto_region 5 with fail
      rw [HW4.out]
      clear q0 q1 q2 q3 q4 q5 q6 q7 q8 q9 q10 q11 q12
      obtain ⟨m0, m1, m2, m3, m4, m5, m6, m7, m8, m9, m10, m11, m12⟩ := hPd.photo
      go_region_held3 (fun w' => w'.cell? ⟨wr.heap.size, 0, none⟩ = some (.int .i64 y.id))
        (first | with_reducible exact m0)
        (first
          | (go_at_call 24; (with_reducible refine (HIB.out _ hBt4.drew).mono ?_); rintro e w5 ⟨a5, c5, rfl, hr5, hB5⟩; have m0 := (hPd.keep hB5).photo.1; rw [HLB.out])
          | (go_at_call 54; (with_reducible refine (HCB.out _ _ hr5 _ _).mono ?_); rintro e w6 ⟨rfl, rfl⟩; rw [HHb.out]))
      have hP5 := hPd.keep hB5
      have hB46 : Below wr.heap.size wr w5 := below_up hB4.drew hB5
      obtain ⟨m0, m1, m2, m3, m4, m5, m6, m7, m8, m9, m10, m11, m12⟩ := hP5.photo
      cases hb
      · -- the change (true, Dd.only y.id) is appended; Dd.only_in _ _: its In; Dd.only_off _ b: its core; x: its fits; x: rounds left; w5: the world behind wr by hB46
        have hBt6 := below_up hBt hB46
        have hs6 := hBt6.size
        have HOC6 := Lib.hid (HOC.out.keep hB46)
        go_wp2_with (at_builtin; refine wpList_append_own2 _ rfl _ _ 38 rfl w.heap.size 47 i0 (.agg #[.bool false, .int .i64 0, .string ByteArray.empty, .int .i64 0, .int .i64 0, .slice none 0 0, .int .i64 0, .int .i64 0, .int .i64 0, .int .i64 0, .slice none 0 0, .string ByteArray.empty, .slice none 0 0, .bool false]) 14 176 Try.underlying38 HI0.out HI1.out HI2.out HI3.out rfl (by decide) _ _ _ rfl (HOC6.out.own.alloc _) ⟨w5.heap.size, 0, none⟩ 1 1 (Dd.chCells (true, Dd.only y.id)) rfl (by decide) rfl (cell_ch_new _ _ _ _) (chCells_one _) (by unfold maxLen; omega) (by omega) (by simp; omega) ?_; intro g8 cap8 w8 hown8 hgrow8 hnew8)
        have HOC8 := Lib.hid (HOC.out.grow (below_allocs hB46 _) hown8 rfl hgrow8 hnew8 (Dd.only_in _ _) (fun b hb => Dd.only_off _ b))
        have HB8 := Lib.hid ((below_allocs hBt6 (.cells #[.bool true, .int .i64 (Dd.only y.id).id, .string (Dd.only y.id).file, .int .i64 (Dd.only y.id).mom, .int .i64 (Dd.only y.id).zone, .slice (Dd.only y.id).wa (Dd.only y.id).wn (Dd.only y.id).wc, .int .i64 (Dd.only y.id).W, .int .i64 (Dd.only y.id).H, .int .i64 (Dd.only y.id).turn, .int .i64 (Dd.only y.id).stars, .slice (Dd.only y.id).ta (Dd.only y.id).tn (Dd.only y.id).tc, .string (Dd.only y.id).cap, .slice (Dd.only y.id).pa (Dd.only y.id).pn (Dd.only y.id).pc, .bool (Dd.only y.id).hid] 47)).grown hgrow8 (by simp; omega) (fun k e => (HOC6.out.own.lt k e).1))
        clear hown8 hgrow8 hnew8
        go_roundg (n - (j + 1))
        case rel => exact ⟨j + 1, M ++ [(true, Dd.only y.id)], by omega, rfl, by go_num, by rw [HDN.out]; exact Dd.coreC_snoc HMC.out rfl, HOC8.out, fun c hc => by (rcases List.mem_append.1 hc with h | h); exact HMF.out c h; (obtain rfl : c = _ := by simpa using h); exact Dd.only_fits _, HB8.out⟩
        case measure => omega
      · go_wp2_with fail
        go_roundg (n - (j + 1))
        case rel => exact ⟨j + 1, M, by omega, rfl, by go_num, by rw [HDN.out]; simpa using HMC.out, HOC.out.keep hB46, HMF.out, below_up hBt hB46⟩
        case measure => omega
    · obtain rfl : j = n := by omega
      have HMA : Hid (Dd.coreC M = Dd.coreC (Dd.dropsL A B)) := Lib.hid (by rw [HMC.out, List.take_of_length_le (by rw [HN.out]; exact Nat.le_refl _)])
      have hmj : M.length ≤ 1000 := by omega
      clear hst hml HL1 HD1 HIB HCB
      go_wp2_with fail
      go_loopg [5, 33] m (fun gk v i wt => ∃ (t : Nat) (N : List Chg), t ≤ m ∧ gk = m - t ∧ i = .int .i64 t ∧ Dd.coreC N = Dd.coreC (Dd.dropsL A B ++ Dd.putsL (B.take t) A) ∧ OwnCh wt w.heap.size v N ∧ (∀ c, c ∈ N → c.2.Fits) ∧ Below w.heap.size w wt)
      case atStart => exact ⟨0, M, by omega, rfl, rfl, by rw [HMA.out]; show _ = Dd.coreC (Dd.dropsL A B ++ []); rw [List.append_nil], HOC.out, HMF.out, hBt⟩
      case round =>
        clear hBt
        obtain ⟨t, N, ht, rfl, rfl, hNC, hOC2, hNF, hBt⟩ := hrel
        have HNC := Lib.hid hNC; have HNF := Lib.hid hNF
        have hst := hBt.size
        have hnl : N.length ≤ 1000 + t := by
          have h1 := HL2.out t
          rw [List.length_take, HM.out, Nat.min_eq_left ht] at h1
          rw [Dd.coreC_len HNC.out, List.length_append, ← Dd.coreC_len HMA.out]; omega
        clear HOC
        have HOC := Lib.hid hOC2
        clear hNC hOC2 hNF HMF HMC
        by_cases hlt : t < m
        · have HYr := HY.out.keep hBt
          obtain ⟨bb, off, rfl, hbb, hcell⟩ := HYr.row (by rw [HM.out]; omega)
          obtain ⟨q0, q1, q2, q3, q4, q5, q6, q7, q8, q9, q10, q11, q12⟩ := hcell t (by rw [HM.out]; exact hlt)
          have HD := Lib.hid (HD2.out t (by rw [HM.out]; exact hlt))
          have HYI := Lib.hid (HYr.each t (by rw [HM.out]; exact hlt))
          have HYF := Lib.hid (HBO.out.fits _ (Dd.at_mem (L := B) (i := t) (by rw [HM.out]; exact hlt)))
          have HYO := Lib.hid (HY.out.each t (by rw [HM.out]; exact hlt))
          clear hcell HYr
          generalize Dd.at_ B t = y at *
          obtain ⟨W4, hW4, hP, hz4, hB4⟩ := box wr #[.int .i64 y.id, .string y.file, .int .i64 y.mom, .int .i64 y.zone, .slice y.wa y.wn y.wc, .int .i64 y.W, .int .i64 y.H, .int .i64 y.turn, .int .i64 y.stars, .slice y.ta y.tn y.tc, .string y.cap, .slice y.pa y.pn y.pc, .bool y.hid] 26
          have HW4 := Lib.hid hW4
          have hBt4 := below_up hBt hB4
          have hPd := hP.drew
          clear hW4 hz4
          go_upto_region 11 with fail
          rw [HW4.out]
          clear q0 q1 q2 q3 q4 q5 q6 q7 q8 q9 q10 q11 q12
          obtain ⟨m0, m1, m2, m3, m4, m5, m6, m7, m8, m9, m10, m11, m12⟩ := hPd.photo
          go_region_held3 (fun w' => w'.cell? ⟨wr.heap.size, 0, none⟩ = some (.int .i64 y.id))
            (first | with_reducible exact m0)
            (first
              | (go_at_call 24; (with_reducible refine (HIA.out _ hBt4.drew).mono ?_); rintro e w5 ⟨a5, c5, rfl, hr5, hB5⟩; have m0 := (hPd.keep hB5).photo.1; rw [HLA.out])
              | (go_at_call 55; (with_reducible refine (HCA.out _ _ hr5 _ _).mono ?_); rintro e w6 ⟨⟨r, rfl, hr6⟩, rfl⟩; have HR6 := Lib.hid hr6; clear hr6))
          have hP5 := hPd.keep hB5
          have hB45 : Below wr.heap.size wr w5 := below_up hB4.drew hB5
          obtain ⟨m0, m1, m2, m3, m4, m5, m6, m7, m8, m9, m10, m11, m12⟩ := hP5.photo
          have HDD : Hid (Dd.has A y.id = false ∧ r = -1 ∨ Dd.has A y.id = true ∧ r = (Dd.pos A y.id : Nat)) := Lib.hid (HR6.out.symm)
          rcases HDD.out with ⟨hh, rfl⟩ | ⟨hh, rfl⟩
          · have HDN : Hid (Dd.putsL (B.take (t + 1)) A = Dd.putsL (B.take t) A ++ [(false, y)]) := Lib.hid (by rw [HD.out, hh]; simp)
            clear hh
            go_wp2_with fail
            refine wp_region_quiet_below (by kernel_rfl) (by kernel_rfl) ?_
            repeat (go_big_quiet_step (fail))
            refine wpQuiet_nil ?_
            intro _ hw'
            obtain ⟨⟨dq, osq⟩, hw''⟩ := hw'
            subst hw''
            have hBx6 := below_regrown w5 dq osq
            generalize grow (redrawn w5 dq) osq = x6 at *
            clear dq osq
            have hB46 := below_up hB45 hBx6
            obtain ⟨m0, m1, m2, m3, m4, m5, m6, m7, m8, m9, m10, m11, m12⟩ := (hP5.keep hBx6).photo
            -- the change (false, y) is appended; HYI.out.keep (below_allocs hB46 _): its In; HYO.out.off_lo (HOC.out.own.lt b hb).1: its core; x: its fits; x: rounds left; x6: the world behind wr by hB46
            have hBt6 := below_up hBt hB46
            have hs6 := hBt6.size
            have HOC6 := Lib.hid (HOC.out.keep hB46)
            go_wp2_with (at_builtin; refine wpList_append_own2 _ rfl _ _ 38 rfl w.heap.size 47 i0 (.agg #[.bool false, .int .i64 0, .string ByteArray.empty, .int .i64 0, .int .i64 0, .slice none 0 0, .int .i64 0, .int .i64 0, .int .i64 0, .int .i64 0, .slice none 0 0, .string ByteArray.empty, .slice none 0 0, .bool false]) 14 176 Try.underlying38 HI0.out HI1.out HI2.out HI3.out rfl (by decide) _ _ _ rfl (HOC6.out.own.alloc _) ⟨x6.heap.size, 0, none⟩ 1 1 (Dd.chCells (false, y)) rfl (by decide) rfl (cell_ch_new _ _ _ _) (chCells_one _) (by unfold maxLen; omega) (by omega) (by simp; omega) ?_; intro g8 cap8 w8 hown8 hgrow8 hnew8)
            have HOC8 := Lib.hid (HOC.out.grow (below_allocs hB46 _) hown8 rfl hgrow8 hnew8 (HYI.out.keep (below_allocs hB46 _)) (fun b hb => HYO.out.off_lo (HOC.out.own.lt b hb).1))
            have HB8 := Lib.hid ((below_allocs hBt6 (.cells #[.bool false, .int .i64 (y).id, .string (y).file, .int .i64 (y).mom, .int .i64 (y).zone, .slice (y).wa (y).wn (y).wc, .int .i64 (y).W, .int .i64 (y).H, .int .i64 (y).turn, .int .i64 (y).stars, .slice (y).ta (y).tn (y).tc, .string (y).cap, .slice (y).pa (y).pn (y).pc, .bool (y).hid] 47)).grown hgrow8 (by simp; omega) (fun k e => (HOC6.out.own.lt k e).1))
            clear hown8 hgrow8 hnew8
            go_roundg (m - (t + 1))
            case rel => exact ⟨t + 1, N ++ [(false, y)], by omega, rfl, by go_num, by rw [HDN.out, ← List.append_assoc]; exact Dd.coreC_snoc HNC.out rfl, HOC8.out, fun c hc => by (rcases List.mem_append.1 hc with h | h); exact HNF.out c h; (obtain rfl : c = _ := by simpa using h); exact HYF.out, HB8.out⟩
            case measure => omega
          · have hpn : Dd.pos A y.id < j := by
              obtain ⟨A1, q, A2, h1, h2, _⟩ := Dd.there HAO.out.rise hh
              have := HN.out
              rw [h1, List.length_append, List.length_cons] at this
              omega
            obtain ⟨s, hs⟩ : ∃ s, (Dd.at_ A (Dd.pos A y.id)).same y = s := ⟨_, rfl⟩
            have HDN : Hid (Dd.putsL (B.take (t + 1)) A = Dd.putsL (B.take t) A ++ if s = true then [] else [(false, y)]) := Lib.hid (HD.out.trans (by rw [hh, hs, Bool.true_and]))
            have hBw5d := (below_up hBt hB45).drew
            have hxd := HX.out.keep hBw5d
            have hmem := Dd.at_mem (L := A) (i := Dd.pos A y.id) (by rw [HN.out]; exact hpn)
            have hIk := hxd.each (Dd.pos A y.id) (by rw [HN.out]; exact hpn)
            have hFk := HAO.out.fits _ hmem
            have HSM := Lib.hid (samePhotoR (Dd.at_ A (Dd.pos A y.id)) y w5.drew hIk (HYI.out.keep hB45.drew) hFk HYF.out)
            rw [hs] at HSM
            obtain ⟨ga, oa, rfl, hga, hac⟩ := hxd.row (by rw [HN.out]; omega)
            obtain ⟨e0, e1, e2, e3, e4, e5, e6, e7, e8, e9, e10, e11, e12⟩ := hac (Dd.pos A y.id) (by rw [HN.out]; exact hpn)
            clear hac hxd hmem hIk hFk hs hh
            generalize Dd.at_ A (Dd.pos A y.id) = p at *
            generalize Dd.pos A y.id = k at *
            have hP5d := hP5.drew
            have hk0 : (0 : Int) ≤ (k : Int) := by omega
            have hk1 : (k : Int) < (j : Int) := by omega
            have hk2 : ¬ ((k : Int) < 0) := by omega
            go_wp2_with fail
            clear m0 m1 m2 m3 m4 m5 m6 m7 m8 m9 m10 m11 m12
            obtain ⟨m0, m1, m2, m3, m4, m5, m6, m7, m8, m9, m10, m11, m12⟩ := hP5d.photo
            cases s
            · go_region_held3 (fun w' => w'.cell? ⟨wr.heap.size, 0, none⟩ = some (.int .i64 y.id) ∧ w'.cell? ⟨wr.heap.size, 1, none⟩ = some (.string y.file) ∧ w'.cell? ⟨wr.heap.size, 2, none⟩ = some (.int .i64 y.mom) ∧ w'.cell? ⟨wr.heap.size, 3, none⟩ = some (.int .i64 y.zone) ∧ w'.cell? ⟨wr.heap.size, 4, none⟩ = some (.slice y.wa y.wn y.wc) ∧ w'.cell? ⟨wr.heap.size, 5, none⟩ = some (.int .i64 y.W) ∧ w'.cell? ⟨wr.heap.size, 6, none⟩ = some (.int .i64 y.H) ∧ w'.cell? ⟨wr.heap.size, 7, none⟩ = some (.int .i64 y.turn) ∧ w'.cell? ⟨wr.heap.size, 8, none⟩ = some (.int .i64 y.stars) ∧ w'.cell? ⟨wr.heap.size, 9, none⟩ = some (.slice y.ta y.tn y.tc) ∧ w'.cell? ⟨wr.heap.size, 10, none⟩ = some (.string y.cap) ∧ w'.cell? ⟨wr.heap.size, 11, none⟩ = some (.slice y.pa y.pn y.pc) ∧ w'.cell? ⟨wr.heap.size, 12, none⟩ = some (.bool y.hid) ∧ w'.cell? ⟨ga, oa + k * 13, none⟩ = some (.int .i64 p.id) ∧ w'.cell? ⟨ga, oa + k * 13 + 1, none⟩ = some (.string p.file) ∧ w'.cell? ⟨ga, oa + k * 13 + 2, none⟩ = some (.int .i64 p.mom) ∧ w'.cell? ⟨ga, oa + k * 13 + 3, none⟩ = some (.int .i64 p.zone) ∧ w'.cell? ⟨ga, oa + k * 13 + 4, none⟩ = some (.slice p.wa p.wn p.wc) ∧ w'.cell? ⟨ga, oa + k * 13 + 5, none⟩ = some (.int .i64 p.W) ∧ w'.cell? ⟨ga, oa + k * 13 + 6, none⟩ = some (.int .i64 p.H) ∧ w'.cell? ⟨ga, oa + k * 13 + 7, none⟩ = some (.int .i64 p.turn) ∧ w'.cell? ⟨ga, oa + k * 13 + 8, none⟩ = some (.int .i64 p.stars) ∧ w'.cell? ⟨ga, oa + k * 13 + 9, none⟩ = some (.slice p.ta p.tn p.tc) ∧ w'.cell? ⟨ga, oa + k * 13 + 10, none⟩ = some (.string p.cap) ∧ w'.cell? ⟨ga, oa + k * 13 + 11, none⟩ = some (.slice p.pa p.pn p.pc) ∧ w'.cell? ⟨ga, oa + k * 13 + 12, none⟩ = some (.bool p.hid))
                (first | with_reducible exact ⟨m0, m1, m2, m3, m4, m5, m6, m7, m8, m9, m10, m11, m12, e0, e1, e2, e3, e4, e5, e6, e7, e8, e9, e10, e11, e12⟩)
                (first
                  | (go_at_call 8; (with_reducible refine HSM.out.mono ?_); rintro e w7 ⟨rfl, hB7⟩; obtain ⟨m0, m1, m2, m3, m4, m5, m6, m7, m8, m9, m10, m11, m12⟩ := (hP5d.keep hB7).photo; have hEE : PhAt w7 ga (oa + k * 13) p := PhAt.keep (w := w5.drew) ⟨e0, e1, e2, e3, e4, e5, e6, e7, e8, e9, e10, e11, e12⟩ hB7 hga; obtain ⟨e0, e1, e2, e3, e4, e5, e6, e7, e8, e9, e10, e11, e12⟩ := hEE; have hB46 : Below wr.heap.size wr w7 := below_up hB45.drew hB7))
              -- the change (false, y) is appended; HYI.out.keep (below_allocs hB46 _): its In; HYO.out.off_lo (HOC.out.own.lt b hb).1: its core; x: its fits; x: rounds left; w7: the world behind wr by hB46
              have hBt6 := below_up hBt hB46
              have hs6 := hBt6.size
              have HOC6 := Lib.hid (HOC.out.keep hB46)
              go_wp2_with (at_builtin; refine wpList_append_own2 _ rfl _ _ 38 rfl w.heap.size 47 i0 (.agg #[.bool false, .int .i64 0, .string ByteArray.empty, .int .i64 0, .int .i64 0, .slice none 0 0, .int .i64 0, .int .i64 0, .int .i64 0, .int .i64 0, .slice none 0 0, .string ByteArray.empty, .slice none 0 0, .bool false]) 14 176 Try.underlying38 HI0.out HI1.out HI2.out HI3.out rfl (by decide) _ _ _ rfl (HOC6.out.own.alloc _) ⟨w7.heap.size, 0, none⟩ 1 1 (Dd.chCells (false, y)) rfl (by decide) rfl (cell_ch_new _ _ _ _) (chCells_one _) (by unfold maxLen; omega) (by omega) (by simp; omega) ?_; intro g8 cap8 w8 hown8 hgrow8 hnew8)
              have HOC8 := Lib.hid (HOC.out.grow (below_allocs hB46 _) hown8 rfl hgrow8 hnew8 (HYI.out.keep (below_allocs hB46 _)) (fun b hb => HYO.out.off_lo (HOC.out.own.lt b hb).1))
              have HB8 := Lib.hid ((below_allocs hBt6 (.cells #[.bool false, .int .i64 (y).id, .string (y).file, .int .i64 (y).mom, .int .i64 (y).zone, .slice (y).wa (y).wn (y).wc, .int .i64 (y).W, .int .i64 (y).H, .int .i64 (y).turn, .int .i64 (y).stars, .slice (y).ta (y).tn (y).tc, .string (y).cap, .slice (y).pa (y).pn (y).pc, .bool (y).hid] 47)).grown hgrow8 (by simp; omega) (fun k e => (HOC6.out.own.lt k e).1))
              clear hown8 hgrow8 hnew8
              have HDN : Hid (Dd.putsL (B.take (t + 1)) A = Dd.putsL (B.take t) A ++ [(false, y)]) := Lib.hid (by rw [HDN.out]; simp)
              go_roundg (m - (t + 1))
              case rel => exact ⟨t + 1, N ++ [(false, y)], by omega, rfl, by go_num, by rw [HDN.out, ← List.append_assoc]; exact Dd.coreC_snoc HNC.out rfl, HOC8.out, fun c hc => by (rcases List.mem_append.1 hc with h | h); exact HNF.out c h; (obtain rfl : c = _ := by simpa using h); exact HYF.out, HB8.out⟩
              case measure => omega
            · go_region_held3 (fun w' => w'.cell? ⟨wr.heap.size, 0, none⟩ = some (.int .i64 y.id) ∧ w'.cell? ⟨wr.heap.size, 1, none⟩ = some (.string y.file) ∧ w'.cell? ⟨wr.heap.size, 2, none⟩ = some (.int .i64 y.mom) ∧ w'.cell? ⟨wr.heap.size, 3, none⟩ = some (.int .i64 y.zone) ∧ w'.cell? ⟨wr.heap.size, 4, none⟩ = some (.slice y.wa y.wn y.wc) ∧ w'.cell? ⟨wr.heap.size, 5, none⟩ = some (.int .i64 y.W) ∧ w'.cell? ⟨wr.heap.size, 6, none⟩ = some (.int .i64 y.H) ∧ w'.cell? ⟨wr.heap.size, 7, none⟩ = some (.int .i64 y.turn) ∧ w'.cell? ⟨wr.heap.size, 8, none⟩ = some (.int .i64 y.stars) ∧ w'.cell? ⟨wr.heap.size, 9, none⟩ = some (.slice y.ta y.tn y.tc) ∧ w'.cell? ⟨wr.heap.size, 10, none⟩ = some (.string y.cap) ∧ w'.cell? ⟨wr.heap.size, 11, none⟩ = some (.slice y.pa y.pn y.pc) ∧ w'.cell? ⟨wr.heap.size, 12, none⟩ = some (.bool y.hid) ∧ w'.cell? ⟨ga, oa + k * 13, none⟩ = some (.int .i64 p.id) ∧ w'.cell? ⟨ga, oa + k * 13 + 1, none⟩ = some (.string p.file) ∧ w'.cell? ⟨ga, oa + k * 13 + 2, none⟩ = some (.int .i64 p.mom) ∧ w'.cell? ⟨ga, oa + k * 13 + 3, none⟩ = some (.int .i64 p.zone) ∧ w'.cell? ⟨ga, oa + k * 13 + 4, none⟩ = some (.slice p.wa p.wn p.wc) ∧ w'.cell? ⟨ga, oa + k * 13 + 5, none⟩ = some (.int .i64 p.W) ∧ w'.cell? ⟨ga, oa + k * 13 + 6, none⟩ = some (.int .i64 p.H) ∧ w'.cell? ⟨ga, oa + k * 13 + 7, none⟩ = some (.int .i64 p.turn) ∧ w'.cell? ⟨ga, oa + k * 13 + 8, none⟩ = some (.int .i64 p.stars) ∧ w'.cell? ⟨ga, oa + k * 13 + 9, none⟩ = some (.slice p.ta p.tn p.tc) ∧ w'.cell? ⟨ga, oa + k * 13 + 10, none⟩ = some (.string p.cap) ∧ w'.cell? ⟨ga, oa + k * 13 + 11, none⟩ = some (.slice p.pa p.pn p.pc) ∧ w'.cell? ⟨ga, oa + k * 13 + 12, none⟩ = some (.bool p.hid))
                (first | with_reducible exact ⟨m0, m1, m2, m3, m4, m5, m6, m7, m8, m9, m10, m11, m12, e0, e1, e2, e3, e4, e5, e6, e7, e8, e9, e10, e11, e12⟩)
                (first
                  | (go_at_call 8; (with_reducible refine HSM.out.mono ?_); rintro e w7 ⟨rfl, hB7⟩; obtain ⟨m0, m1, m2, m3, m4, m5, m6, m7, m8, m9, m10, m11, m12⟩ := (hP5d.keep hB7).photo; have hEE : PhAt w7 ga (oa + k * 13) p := PhAt.keep (w := w5.drew) ⟨e0, e1, e2, e3, e4, e5, e6, e7, e8, e9, e10, e11, e12⟩ hB7 hga; obtain ⟨e0, e1, e2, e3, e4, e5, e6, e7, e8, e9, e10, e11, e12⟩ := hEE; have hB46 : Below wr.heap.size wr w7 := below_up hB45.drew hB7))
              have HDN : Hid (Dd.putsL (B.take (t + 1)) A = Dd.putsL (B.take t) A) := Lib.hid (by rw [HDN.out]; simp)
              go_wp2_with fail
              go_roundg (m - (t + 1))
              case rel => exact ⟨t + 1, N, by omega, rfl, by go_num, by rw [HDN.out]; exact HNC.out, HOC.out.keep hB46, HNF.out, below_up hBt hB46⟩
              case measure => omega
        · obtain rfl : t = m := by omega
          have HNA : Hid (Dd.coreC N = Dd.coreC (Dd.diff A B)) := Lib.hid (by rw [Dd.diff_eq, HNC.out, List.take_of_length_le (by rw [HM.out]; exact Nat.le_refl _)])
          obtain ⟨a1, c1, rfl, hk1, hm1, _, hch⟩ := Chs.of_own HOC.out.own HOC.out.each
          have HCH := Lib.hid hch
          clear hch
          go_wp2_with fail
          go_ret
          exact ⟨a1, c1, N, rfl, HNA.out, HCH.out, HNF.out, hBt⟩
end Go.Proofs.Ytipmegkmkbbklaa

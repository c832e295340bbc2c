/- The law DeskDiffs, walked. -/
import Derived.Test.YtipmegkmkbbklaaDdDiff
import Derived.Test.YtipmegkmkbbklaaDdPatch
import Derived.Test.YtipmegkmkbbklaaIdsOf
import Derived.Test.YtipmegkmkbbklaaFdSames
import Derived.Test.YtipmegkmkbbklaaOpenF
import Derived.Test.YtipmegkmkbbklaaDdChk
namespace Go.Proofs.Ytipmegkmkbbklaa
open Go.RowKit Go.Sort Go.Shelf
set_option linter.unusedVariables false
set_option linter.unusedSimpArgs false
theorem DdOk.of_lerr {A : Dd.Lib} (h : Fd.lerr (Dd.at_ A) A.length = 0) (hF : ∀ p, p ∈ A → p.Fits) : DdOk A := by
  have hrise : ∀ j i, i < j → j < A.length → (Dd.at_ A i).id < (Dd.at_ A j).id := by
    intro j
    induction j with
    | zero => intro i hi; omega
    | succ j ih =>
      intro i hi hj
      have h1 := Fd.lerr_rise h j hj
      by_cases e : i = j
      · subst e; exact h1
      · have := ih i (by omega) (by omega); omega
  refine ⟨List.pairwise_iff_getElem.2 fun i j hi hj hij => ?_, fun p hp => ?_, hF, Fd.lerr_few h⟩
  · have := hrise j i hij hj
    unfold Dd.at_ at this
    rwa [List.getElem?_eq_getElem hi, List.getElem?_eq_getElem hj] at this
  · obtain ⟨i, hi, rfl⟩ := Dd.mem_at hp
    exact Fd.lerr_each h i hi
set_option maxRecDepth 100000 in
set_option maxHeartbeats 4000000 in
theorem ddLaw_a (A B : Dd.Lib) (a : Option Addr) (ca : Nat) (b : Option Addr) (cb : Nat) (Z : List Chg) (xc : Option Addr) (cc : Nat) (w : World) (hx : Phs w a A.length (Dd.at_ A)) (hy : Phs w b B.length (Dd.at_ B)) (hF : ∀ p, p ∈ A → p.Fits) (hG : ∀ p, p ∈ B → p.Fits) (hca : A.length ≤ ca) (hcm : ca ≤ 9223372036854775807) (hcb : B.length ≤ 9223372036854775807) (hZ : Chs w xc Z) (hZF : ChFits Z) (hzn : Z.length ≤ 9223372036854775807) (q : Int) (hq : Fd.lerr (Dd.at_ A) A.length = q) (hne : q ≠ 0) : Calls Try.prog 4 #[.slice a A.length ca, .slice b B.length cb, .slice xc Z.length cc] w fun e w' => e = .returned (.bool true) ∧ Below w.heap.size w w' := by
  have HD := Lib.hid (diff_errA A B a ca b cb w hx hF (by omega) q hq hne)
  have HP := Lib.hid (fun V (hb : Below w.heap.size w V) => patch_err A a ca Z xc cc V (hx.keep hb) hF (by omega) q hq hne)
  have HL := Lib.hid (fun V (hb : Below w.heap.size w V) => libraryError_is a A.length ca (Dd.at_ A) V (hx.keep hb) (fun i hi => hF _ (Dd.at_mem hi)) (by omega))
  rw [hq] at HL
  have h1 : (q != 0) = true := by simpa using hne
  generalize A.length = n at *
  generalize B.length = m at *
  generalize Z.length = k at *
  clear hx hy hF hG hZ hZF hq
  go_enter Try.func4, Try.ntmps4
  go_wp2_with (first
    | (go_at_call 10; (with_reducible refine HD.out.mono ?_); rintro e w1 ⟨rfl, hB1⟩)
    | (go_at_call 11; (with_reducible refine (HP.out _ hB1).mono ?_); rintro e w2 ⟨rfl, hB2⟩; have hB12 := below_up hB1 hB2)
    | (go_at_call 12; (with_reducible refine (HL.out _ hB12).mono ?_); rintro e w3 ⟨rfl, hB3⟩))
  go_ret
  exact ⟨ret_bool (by simp), below_up hB12 hB3⟩
theorem samesOk (P Q : Dd.Lib) (a : Option Addr) (ca : Nat) (b : Option Addr) (cb : Nat) (V : World) (hp : Phs V a P.length (Dd.at_ P)) (hq : Phs V b Q.length (Dd.at_ Q)) (hF : ∀ p, p ∈ P → p.Fits) (hG : ∀ p, p ∈ Q → p.Fits) (hc : Dd.cores P = Dd.cores Q) (hn : P.length ≤ 1000) :
    Calls Try.prog 14 #[.slice a P.length ca, .slice b Q.length cb] V fun e w' => e = .returned (.bool true) ∧ Below V.heap.size V w' := by
  have hl : P.length = Q.length := by have := congrArg List.length hc; simpa [Dd.cores] using this
  have := samePhotos_is a P.length ca (Dd.at_ P) b Q.length cb (Dd.at_ Q) V hp hq (fun i hi => hF _ (Dd.at_mem hi)) (fun i hi => hG _ (Dd.at_mem hi)) (by omega) (by omega)
  rw [show (Fd.eqRow P.length Q.length fun i => (Dd.at_ P i).same (Dd.at_ Q i)) = true from Dd.same_lists hc] at this
  exact this
set_option maxRecDepth 100000 in
set_option maxHeartbeats 4000000 in
theorem ddLaw_b (A B : Dd.Lib) (a : Option Addr) (ca : Nat) (b : Option Addr) (cb : Nat) (Z : List Chg) (xc : Option Addr) (cc : Nat) (w : World) (hx : Phs w a A.length (Dd.at_ A)) (hy : Phs w b B.length (Dd.at_ B)) (hF : ∀ p, p ∈ A → p.Fits) (hG : ∀ p, p ∈ B → p.Fits) (hca : A.length ≤ ca) (hcm : ca ≤ 9223372036854775807) (hcb : B.length ≤ 9223372036854775807) (hZ : Chs w xc Z) (hZF : ChFits Z) (hzn : Z.length ≤ 9223372036854775807) (hlA : Fd.lerr (Dd.at_ A) A.length = 0) (q : Int) (hq : Fd.lerr (Dd.at_ B) B.length = q) (hne : q ≠ 0) : Calls Try.prog 4 #[.slice a A.length ca, .slice b B.length cb, .slice xc Z.length cc] w fun e w' => e = .returned (.bool true) ∧ Below w.heap.size w w' := by
  have HD := Lib.hid (diff_errB A B a ca b cb w hx hy hF hG (by omega) hcb hlA q hq hne)
  have hok := DdOk.of_lerr hlA hF
  have HP := Lib.hid (fun V (hb : Below w.heap.size w V) => patch_ok A a ca Z xc cc V (hx.keep hb) hF hok hlA (hZ.keep hb) hZF hzn)
  have HPO := Lib.hid (fun V (hb : Below w.heap.size w V) => patchOf_is A a ca Z xc cc V (hx.keep hb) hok (hZ.keep hb) hZF hzn)
  have HL := Lib.hid (fun V (hb : Below w.heap.size w V) => libraryError_is a A.length ca (Dd.at_ A) V (hx.keep hb) (fun i hi => hF _ (Dd.at_mem hi)) (by omega))
  have HLB := Lib.hid (fun V (hb : Below w.heap.size w V) => libraryError_is b B.length cb (Dd.at_ B) V (hy.keep hb) (fun i hi => hG _ (Dd.at_mem hi)) hcb)
  rw [hlA] at HL
  generalize (Dd.run (Dd.cores A) (Dd.coreC Z)) = R at *
  obtain ⟨rq, rl⟩ := R
  rw [hq] at HLB
  have h1 : (q != 0) = true := by simpa using hne
  generalize A.length = n at *
  generalize B.length = m at *
  generalize Z.length = k at *
  clear hx hy hF hG hZ hZF hq hok hlA
  go_enter Try.func4, Try.ntmps4
  go_wp2_with (go_at_call 10; (with_reducible refine HD.out.mono ?_); rintro e w1 ⟨rfl, hB1⟩)
  -- behind Diff (world w1, hB1): the patches; : more arms
  go_wp2_with (first
    | (go_at_call 11; (with_reducible refine (HP.out _ hB1).mono ?_); rintro e w2 ⟨a2, c2, P2, rfl, hp2, hr2, hf2, hn2, hB2⟩; have HN2 := Lib.hid hn2; clear hn2; have HP2 := Lib.hid hp2; have HR2 := Lib.hid hr2; have HF2 := Lib.hid hf2; clear hp2 hr2 hf2; have hB12 := below_up hB1 hB2)
    | (go_at_call 12; (with_reducible refine (HL.out _ hB12).mono ?_); rintro e w3 ⟨rfl, hB3⟩; have hB13 := below_up hB12 hB3)
    | (go_at_call 13; (with_reducible refine (HPO.out _ hB13).mono ?_); rintro e w4 ⟨a4, c4, P4, rfl, hp4, hr4, hf4, _, hB4⟩; have HP4 := Lib.hid hp4; have HR4 := Lib.hid hr4; have HF4 := Lib.hid hf4; clear hp4 hr4 hf4; have hB14 := below_up hB13 hB4; have hB24 := below_up hB3 hB4; have HSP := Lib.hid (samesOk P2 P4 a2 c2 a4 c4 w4 (HR2.out.keep hB24) HR4.out HF2.out HF4.out (HP2.out.trans HP4.out.symm) HN2.out))
    | (go_at_call 14; (with_reducible refine HSP.out.mono ?_); rintro e w5 ⟨rfl, hB5⟩; have hB15 := below_up hB14 hB5)
    | (go_at_call 12; (with_reducible refine (HLB.out _ hB15).mono ?_); rintro e w6 ⟨rfl, hB6⟩; have hB16 := below_up hB15 hB6))
  go_ret
  exact ⟨ret_bool (by simp), hB16⟩
set_option maxRecDepth 100000 in
set_option maxHeartbeats 4000000 in
theorem ddLaw_c (A B : Dd.Lib) (a : Option Addr) (ca : Nat) (b : Option Addr) (cb : Nat) (Z : List Chg) (xc : Option Addr) (cc : Nat) (w : World) (hx : Phs w a A.length (Dd.at_ A)) (hy : Phs w b B.length (Dd.at_ B)) (hF : ∀ p, p ∈ A → p.Fits) (hG : ∀ p, p ∈ B → p.Fits) (hca : A.length ≤ ca) (hcm : ca ≤ 9223372036854775807) (hcb : B.length ≤ 9223372036854775807) (hZ : Chs w xc Z) (hZF : ChFits Z) (hzn : Z.length ≤ 9223372036854775807) (hlA : Fd.lerr (Dd.at_ A) A.length = 0) (hlB : Fd.lerr (Dd.at_ B) B.length = 0) : Calls Try.prog 4 #[.slice a A.length ca, .slice b B.length cb, .slice xc Z.length cc] w fun e w' => e = .returned (.bool true) ∧ Below w.heap.size w w' := by
  have hokB := DdOk.of_lerr hlB hG
  have hokA := DdOk.of_lerr hlA hF
  have HD := Lib.hid (diff_ok A B a ca b cb w hx hy hokA hokB hlA hlB hca hcm)
  have HDO := Lib.hid (fun V (hb : Below w.heap.size w V) => diffOf_is A B a ca b cb V (hx.keep hb) (hy.keep hb) hokA hokB)
  have hdl : (Dd.diff A B).length ≤ 2000 := by
    have h1 := hokA.few; have h2 := hokB.few
    have h3 := Dd.drops_len A B; have h4 := Dd.puts_len A B
    rw [Dd.diff_eq, List.length_append]; omega
  have HDL := Lib.hid (fun (M : List Chg) (h : Dd.coreC M = Dd.coreC (Dd.diff A B)) => show M.length ≤ 2000 by rw [Dd.coreC_len h]; exact hdl)
  have hok := DdOk.of_lerr hlA hF
  have HP := Lib.hid (fun V (hb : Below w.heap.size w V) => patch_ok A a ca Z xc cc V (hx.keep hb) hF hok hlA (hZ.keep hb) hZF hzn)
  have HPO := Lib.hid (fun V (hb : Below w.heap.size w V) => patchOf_is A a ca Z xc cc V (hx.keep hb) hok (hZ.keep hb) hZF hzn)
  have HL := Lib.hid (fun V (hb : Below w.heap.size w V) => libraryError_is a A.length ca (Dd.at_ A) V (hx.keep hb) (fun i hi => hF _ (Dd.at_mem hi)) (by omega))
  have HLB := Lib.hid (fun V (hb : Below w.heap.size w V) => libraryError_is b B.length cb (Dd.at_ B) V (hy.keep hb) (fun i hi => hG _ (Dd.at_mem hi)) hcb)
  rw [hlA] at HL
  generalize (Dd.run (Dd.cores A) (Dd.coreC Z)) = R at *
  obtain ⟨rq, rl⟩ := R
  rw [hlB] at HLB
  generalize Dd.diff A B = D at *
  generalize A.length = n at *
  generalize B.length = m at *
  generalize Z.length = k at *
  clear hx hy hF hG hZ hZF hok hlA hlB hokA hokB hdl
  go_enter Try.func4, Try.ntmps4
  go_wp2_with (go_at_call 10; (with_reducible refine HD.out.mono ?_); rintro e w1 ⟨a1, c1, M1, rfl, hc1, hr1, hf1, hB1⟩; have HC1 := Lib.hid hc1; have HR1 := Lib.hid hr1; have HF1 := Lib.hid hf1; clear hc1 hr1 hf1)
  -- behind Diff (world w1, hB1): the patches; : more arms
  go_wp2_with (first
    | (go_at_call 11; (with_reducible refine (HP.out _ hB1).mono ?_); rintro e w2 ⟨a2, c2, P2, rfl, hp2, hr2, hf2, hn2, hB2⟩; have HN2 := Lib.hid hn2; clear hn2; have HP2 := Lib.hid hp2; have HR2 := Lib.hid hr2; have HF2 := Lib.hid hf2; clear hp2 hr2 hf2; have hB12 := below_up hB1 hB2)
    | (go_at_call 12; (with_reducible refine (HL.out _ hB12).mono ?_); rintro e w3 ⟨rfl, hB3⟩; have hB13 := below_up hB12 hB3)
    | (go_at_call 13; (with_reducible refine (HPO.out _ hB13).mono ?_); rintro e w4 ⟨a4, c4, P4, rfl, hp4, hr4, hf4, _, hB4⟩; have HP4 := Lib.hid hp4; have HR4 := Lib.hid hr4; have HF4 := Lib.hid hf4; clear hp4 hr4 hf4; have hB14 := below_up hB13 hB4; have hB24 := below_up hB3 hB4; have HSP := Lib.hid (samesOk P2 P4 a2 c2 a4 c4 w4 (HR2.out.keep hB24) HR4.out HF2.out HF4.out (HP2.out.trans HP4.out.symm) HN2.out))
    | (go_at_call 14; (with_reducible refine HSP.out.mono ?_); rintro e w5 ⟨rfl, hB5⟩; have hB15 := below_up hB14 hB5)
    | (go_at_call 12; (with_reducible refine (HLB.out _ hB15).mono ?_); rintro e w6 ⟨rfl, hB6⟩; have hB16 := below_up hB15 hB6))
  go_wp2_with (first
    | (go_at_call 16; (with_reducible refine (HDO.out _ hB16).mono ?_); rintro e w7 ⟨a7, c7, M7, rfl, hc7, hr7, hf7, hB7⟩; have HEQ := Lib.hid (equalCh_is M1 M7 (HC1.out.trans hc7.symm) a1 c1 a7 c7 w7 (HR1.out.keep (below_up hB2 (below_up hB3 (below_up hB4 (below_up hB5 (below_up hB6 hB7)))))) hr7 HF1.out hf7 (by have := HDL.out M1 HC1.out; omega)); clear hc7 hr7 hf7)
    | (go_at_call 15; (with_reducible refine HEQ.out.mono ?_); rintro e w8 ⟨rfl, hB8⟩))
  go_ret
  exact ⟨ret_bool (by simp), below_up hB16 (below_up hB7 hB8)⟩
theorem deskDiffs_walk (A B : Dd.Lib) (a : Option Addr) (ca : Nat) (b : Option Addr) (cb : Nat) (Z : List Chg) (xc : Option Addr) (cc : Nat) (w : World) (hx : Phs w a A.length (Dd.at_ A)) (hy : Phs w b B.length (Dd.at_ B)) (hF : ∀ p, p ∈ A → p.Fits) (hG : ∀ p, p ∈ B → p.Fits) (hca : A.length ≤ ca) (hcm : ca ≤ 9223372036854775807) (hcb : B.length ≤ 9223372036854775807) (hZ : Chs w xc Z) (hZF : ChFits Z) (hzn : Z.length ≤ 9223372036854775807) : Calls Try.prog 4 #[.slice a A.length ca, .slice b B.length cb, .slice xc Z.length cc] w fun e w' => e = .returned (.bool true) ∧ Below w.heap.size w w' := by
  by_cases h1 : Fd.lerr (Dd.at_ A) A.length = 0
  · by_cases h2 : Fd.lerr (Dd.at_ B) B.length = 0
    · exact ddLaw_c A B a ca b cb Z xc cc w hx hy hF hG hca hcm hcb hZ hZF hzn h1 h2
    · exact ddLaw_b A B a ca b cb Z xc cc w hx hy hF hG hca hcm hcb hZ hZF hzn h1 _ rfl h2
  · exact ddLaw_a A B a ca b cb Z xc cc w hx hy hF hG hca hcm hcb hZ hZF hzn _ rfl h1
end Go.Proofs.Ytipmegkmkbbklaa
namespace Go.Proofs.Ytipmegkmkbbklaa
open Go.ChangeShapes Go.WideShapes Go.ChangeAt Go.RowKit Go.Joins Go.Deep
set_option linter.unusedVariables false
section
variable {H : Type} {enc : TypeId × Value → H} {w : World} {base : Nat} {spare : Nat → Bool} {held : Bool}
theorem int_range {n : Int} (h : (Lit.int .i64 n).wf = true) : -9223372036854775808 ≤ n ∧ n ≤ 9223372036854775807 := by
  simp [Lit.wf, IntKind.min, IntKind.max, IntKind.bits, IntKind.signed] at h
  omega
theorem cellsChange : Try.prog.cellsOf 47 = 14 := by kernel_rfl
theorem list14 {α : Type} {cs : List α} (h : cs.length = 14) : ∃ c0 c1 c2 c3 c4 c5 c6 c7 c8 c9 c10 c11 c12 c13, cs = [c0, c1, c2, c3, c4, c5, c6, c7, c8, c9, c10, c11, c12, c13] := by
  match cs, h with
  | [c0, c1, c2, c3, c4, c5, c6, c7, c8, c9, c10, c11, c12, c13], _ => exact ⟨c0, c1, c2, c3, c4, c5, c6, c7, c8, c9, c10, c11, c12, c13, rfl⟩
set_option maxRecDepth 100000 in
theorem photo_id {cs : List Value} {fuel : Nat} {y : DataW H × List MemPlace} (hf : DataW.trod enc Try.prog w base spare held fuel 26 cs = some y) : ∀ n, cs[0]? = some (.int .i64 n) → -9223372036854775808 ≤ n ∧ n ≤ 9223372036854775807 := by
  obtain ⟨xs, n, _, _, hl, hlen, hg⟩ := DataW.trod_struct Try.underlying26 hf
  have hlen : xs.length = 13 := hlen
  rw [cellsPhoto] at hl
  obtain ⟨c0, c1, c2, c3, c4, c5, c6, c7, c8, c9, c10, c11, c12, rfl⟩ := list13 hl
  obtain ⟨y0, e0⟩ := some_at hlen (show 0 < 13 by omega)
  have g0 : DataW.trod enc Try.prog w base spare held n 3 [c0] = some y0 := (hg 0 _ rfl).trans e0
  obtain ⟨id, q0, _, wf⟩ := DataW.trod_int Try.underlying3 g0
  simp only [List.cons.injEq, and_true] at q0
  subst q0
  intro m hm
  simp at hm
  subst hm
  exact int_range wf
set_option maxRecDepth 100000 in
set_option maxHeartbeats 4000000 in
theorem open_change_cells {cs : List Value} {fuel : Nat} {y : DataW H × List MemPlace} (hf : DataW.trod enc Try.prog w base spare held fuel 47 cs = some y) :
    ∃ (d : Bool) (p : Ph), cs = [.bool d, .int .i64 p.id, .string p.file, .int .i64 p.mom, .int .i64 p.zone, .slice p.wa p.wn p.wc, .int .i64 p.W, .int .i64 p.H, .int .i64 p.turn, .int .i64 p.stars, .slice p.ta p.tn p.tc, .string p.cap, .slice p.pa p.pn p.pc, .bool p.hid] ∧ p.In w ∧ p.Fits ∧ -9223372036854775808 ≤ p.id ∧ p.id ≤ 9223372036854775807 := by
  obtain ⟨xs, n, _, _, hl, hlen, hg⟩ := DataW.trod_struct Try.underlying47 hf
  have hlen : xs.length = 2 := hlen
  rw [cellsChange] at hl
  obtain ⟨c0, c1, c2, c3, c4, c5, c6, c7, c8, c9, c10, c11, c12, c13, rfl⟩ := list14 hl
  obtain ⟨y0, e0⟩ := some_at hlen (show 0 < 2 by omega)
  obtain ⟨y1, e1⟩ := some_at hlen (show 1 < 2 by omega)
  have g0 : DataW.trod enc Try.prog w base spare held n 4 [c0] = some y0 := (hg 0 _ rfl).trans e0
  have g1 : DataW.trod enc Try.prog w base spare held n 26 [c1, c2, c3, c4, c5, c6, c7, c8, c9, c10, c11, c12, c13] = some y1 := (hg 1 _ rfl).trans e1
  clear hg hf
  obtain ⟨d, q0, _⟩ := DataW.trod_bool Try.underlying4 g0
  obtain ⟨p, hp, hI, hF⟩ := open_photo_cells g1
  have hid := photo_id g1 p.id (by rw [hp]; rfl)
  simp only [List.cons.injEq, and_true] at q0
  subst q0
  exact ⟨d, p, by rw [hp], hI, hF, hid⟩
theorem slice_cap {r : Reach} {b0 : Nat} {e t : TypeId} {a : Option Addr} {len cap : Nat} {d : DataW H} {p : List MemPlace} (ht : Try.prog.underlying t = some (.slice e)) (h : DataW.Trod enc Try.prog w base spare held t (.slice a len cap) d p) : len ≤ cap ∧ cap ≤ 9223372036854775807 := by
  obtain ⟨fuel, hf⟩ := h
  rcases open_slice ht hf with ⟨hcs, _⟩ | ⟨x, l, c, m, n, D, Pl, hcs, _, hl, hm, _⟩
  · simp [Value.cells] at hcs
    obtain ⟨rfl, rfl, rfl⟩ := hcs
    exact ⟨by omega, by omega⟩
  · simp [Value.cells] at hcs
    obtain ⟨rfl, rfl, rfl⟩ := hcs
    exact ⟨hl, hm⟩
theorem Phs.congr {w : World} {a : Option Addr} {n : Nat} {x y : Nat → Ph} (h : Phs w a n x) (e : ∀ i, i < n → y i = x i) : Phs w a n y := by
  refine ⟨fun hn => ?_, fun i hi => by rw [e i hi]; exact h.each i hi⟩
  obtain ⟨b, off, rfl, hb, hc⟩ := h.row hn
  exact ⟨b, off, rfl, hb, fun i hi => by rw [e i hi]; exact hc i hi⟩
set_option maxRecDepth 100000 in
/-- A library among the arguments, as a list. -/
theorem open_lib {r : Reach} {b0 : Nat} {v : Value} {d : DataW H} {p : List MemPlace} (hv : Value.okWide Try.prog w r b0 37 v) (h : DataW.Trod enc Try.prog w base spare held 37 v d p) :
    ∃ (a : Option Addr) (cap : Nat) (L : Dd.Lib), v = .slice a L.length cap ∧ L.length ≤ cap ∧ cap ≤ 9223372036854775807 ∧ Phs w a L.length (Dd.at_ L) ∧ ∀ q, q ∈ L → q.Fits := by
  obtain ⟨a, len, cap, z, rfl, hl, hp, hF⟩ := open_photos hv h
  obtain ⟨h1, h2⟩ := slice_cap (r := r) (b0 := b0) Try.underlying37 h
  have hlen : ((List.range len).map z).length = len := by simp
  refine ⟨a, cap, (List.range len).map z, by rw [hlen], by rw [hlen]; exact h1, h2, ?_, fun q hq => ?_⟩
  · rw [hlen]
    refine hp.congr fun i hi => ?_
    unfold Dd.at_
    rw [List.getElem?_map, List.getElem?_range hi]; rfl
  · obtain ⟨i, hi, rfl⟩ := List.mem_map.1 hq
    exact hF i (List.mem_range.1 hi)
def ChAtP (w : World) (x : Addr) (i : Nat) (c : Chg) : Prop := (∀ k v, [.bool c.1, .int .i64 c.2.id, .string c.2.file, .int .i64 c.2.mom, .int .i64 c.2.zone, .slice c.2.wa c.2.wn c.2.wc, .int .i64 c.2.W, .int .i64 c.2.H, .int .i64 c.2.turn, .int .i64 c.2.stars, .slice c.2.ta c.2.tn c.2.tc, .string c.2.cap, .slice c.2.pa c.2.pn c.2.pc, .bool c.2.hid][k]? = some v → w.cell? (x.add (i * 14 + k)) = some v) ∧ c.2.In w ∧ c.2.Fits ∧ -9223372036854775808 ≤ c.2.id ∧ c.2.id ≤ 9223372036854775807
set_option maxRecDepth 100000 in
set_option maxHeartbeats 4000000 in
theorem open_changes {r : Reach} {b0 : Nat} {v : Value} {d : DataW H} {p : List MemPlace} (hv : Value.okWide Try.prog w r b0 38 v) (h : DataW.Trod enc Try.prog w base spare held 38 v d p) :
    ∃ (a : Option Addr) (cap : Nat) (Z : List Chg), v = .slice a Z.length cap ∧ Z.length ≤ 9223372036854775807 ∧ Chs w a Z ∧ ChFits Z := by
  obtain ⟨a, len, cap, rfl⟩ := okWide_slice Try.underlying38 hv
  obtain ⟨fuel, hf⟩ := h
  rcases open_slice Try.underlying38 hf with ⟨hcs, _⟩ | ⟨x, l, c, m, n, D, Pl, hcs, _, hl, hm, hmm, _, hx⟩
  · simp [Value.cells] at hcs
    obtain ⟨rfl, rfl, rfl⟩ := hcs
    exact ⟨none, 0, [], rfl, by simp, ⟨fun h => by simp at h, fun i h => by simp at h⟩, fun i h => by simp at h⟩
  · simp [Value.cells] at hcs
    obtain ⟨rfl, rfl, rfl⟩ := hcs
    have hlm : len ≤ m := by rw [hmm]; split <;> omega
    have each : ∀ i, i < m → ∃ q, ChAtP w x i q := by
      intro i hi
      obtain ⟨cs', h1, h2⟩ := hx i hi
      rw [cellsChange] at h1
      obtain ⟨_, hlen, hcell⟩ := World.cells?_some h1
      obtain ⟨dd, q, hq, hI, hF, hid⟩ := open_change_cells h2
      refine ⟨(dd, q), fun k v hk => ?_, hI, hF, hid⟩
      have hk : cs'[k]? = some v := by rw [hq]; exact hk
      have hk14 : k < 14 := by have := (List.getElem?_eq_some_iff.1 hk).1; omega
      have := hcell k (by omega)
      rw [Addr.add_add] at this
      rw [this, hk]
    obtain ⟨Q, hQ⟩ : ∃ Q : Nat → Chg, ∀ i, i < m → ChAtP w x i (Q i) :=
      ⟨fun i => if h : i < m then Classical.choose (each i h) else (false, noPhoto), fun i hi => by simp only [dif_pos hi]; exact Classical.choose_spec (each i hi)⟩
    have hlen : ((List.range len).map Q).length = len := by simp
    have hat : ∀ i, i < len → Dd.atC ((List.range len).map Q) i = Q i := fun i hi => by unfold Dd.atC; rw [List.getElem?_map, List.getElem?_range hi]; rfl
    refine ⟨some x, cap, (List.range len).map Q, by rw [hlen], by rw [hlen]; unfold maxLen at hm; omega, ⟨fun h0 => ?_, fun i hi => ?_⟩, fun i hi => ?_⟩
    · rw [hlen] at h0 ⊢
      obtain ⟨b, off, spot⟩ := x
      have hc := (hQ 0 (by omega)).1 0 _ rfl
      have hspot : spot = none := by simpa [Addr.add] using World.cell?_spot hc
      subst hspot
      refine ⟨b, off, rfl, by simpa [Addr.add] using World.block_lt_of_cell? w _ hc, fun i hi => ?_⟩
      rw [hat i hi]
      have hh := (hQ i (by omega)).1
      have key : ∀ k v, [.bool (Q i).1, .int .i64 (Q i).2.id, .string (Q i).2.file, .int .i64 (Q i).2.mom, .int .i64 (Q i).2.zone, .slice (Q i).2.wa (Q i).2.wn (Q i).2.wc, .int .i64 (Q i).2.W, .int .i64 (Q i).2.H, .int .i64 (Q i).2.turn, .int .i64 (Q i).2.stars, .slice (Q i).2.ta (Q i).2.tn (Q i).2.tc, .string (Q i).2.cap, .slice (Q i).2.pa (Q i).2.pn (Q i).2.pc, .bool (Q i).2.hid][k]? = some v → w.cell? ⟨b, off + i * 14 + k, none⟩ = some v := fun k v hk => by
        have := hh k v hk
        rwa [addr_add, ← Nat.add_assoc] at this
      exact ⟨key 0 _ rfl, key 1 _ rfl, key 2 _ rfl, key 3 _ rfl, key 4 _ rfl, key 5 _ rfl, key 6 _ rfl, key 7 _ rfl, key 8 _ rfl, key 9 _ rfl, key 10 _ rfl, key 11 _ rfl, key 12 _ rfl, key 13 _ rfl⟩
    · rw [hlen] at hi
      rw [hat i hi]; exact (hQ i (by omega)).2.1
    · rw [hlen] at hi
      rw [hat i hi]; exact ⟨(hQ i (by omega)).2.2.1, (hQ i (by omega)).2.2.2⟩
end
end Go.Proofs.Ytipmegkmkbbklaa

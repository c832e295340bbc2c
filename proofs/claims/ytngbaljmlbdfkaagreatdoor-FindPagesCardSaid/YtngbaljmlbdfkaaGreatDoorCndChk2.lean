/- The program's check of a condition. -/
import Derived.Test.YtngbaljmlbdfkaaGreatDoorCndChk
namespace Go.Proofs.YtngbaljmlbdfkaaGreatDoor
open Go.RowKit Go.Sort Go.Shelf
set_option linter.unusedVariables false
set_option maxRecDepth 100000 in
set_option maxHeartbeats 8000000 in
theorem chk_is (w0 : World) : ∀ (c : Cnd) (d : Nat) (l : List (Cnd × Nat)) (w : World) (p : Nat), c.In w0 → c.Fits → Below w0.heap.size w0 w → w0.heap.size ≤ p → d ≤ 13 → Cnd.errL 0 l = 0 → Ctr w p l.length →
    Calls Tryz.prog 51 #[.pointer (some ⟨p, 0, none⟩), .agg #[.int .i64 c.op, .slice c.ka c.kn c.kc, .string c.text, .int .i64 c.low, .int .i64 c.high, .slice c.aa c.an c.ac], .int .i64 d] w (ChkPost w p (Cnd.ahead c d l)) := by
  refine Cnd.ind (fun d l w p h => absurd rfl h.ne) fun c hne ih d l w p hI hF hB hp hd hl hC => ?_
  by_cases hbig : l.length = 100 ∨ 12 < d
  · exact check_large w0 c hne d l w p hI hF hB hp hd hl hC hbig
  have hle := Cnd.errL_le hl
  have hs : l.length < 100 := by omega
  have hd2 : d ≤ 12 := by omega
  cases hk : decide (1 ≤ c.op ∧ c.op ≤ 16)
  · exact check_kind w0 c hne d l w p hI hF hB hp hd hl hC hs hd2 hk
  have hop := of_decide_eq_true hk
  have hbare := Cnd.bare_eq hne
  have HAE := Lib.hid (Cnd.ahead_eq hne (d := d) (l := l) (by omega) hd2)
  have HEB := Lib.hid (fun h0 : c.bare ≠ 0 => Cnd.ahead_bad hne hl hs hd2 h0)
  have HE1 := Lib.hid (Cnd.err_snoc (c := c) (d := d) hl hs hd2)
  have hlen := Cnd.errL_le hl
  have hpl : p < w.heap.size := Blk.lt hC
  have hpf := Blk.frozen hC 0
  have c0 := Blk.one hC
  have hpne : p ≠ w.heap.size := by omega
  have hK := chk1 (c := c) hB hp hC
  have k0 := hK.box.six.1
  have p0 := Blk.one hK.ctr
  rw [show ((l.length + 1 : Nat) : Int) = (l.length : Int) + 1 by omega] at p0
  have hsz := hB.size
  obtain ⟨hkn, han, hts⟩ := hF.size
  have h1 : ¬ (100 : Int) < (l.length : Int) + 1 := by omega
  have h2 : ¬ (12 : Int) < (d : Int) := by omega
  obtain ⟨W2, hW2⟩ : ∃ W2, (w.setCell ⟨p, 0, none⟩ (.int .i64 ((l.length : Int) + 1))).alloc (.cells #[.int .i64 c.op, .slice c.ka c.kn c.kc, .string c.text, .int .i64 c.low, .int .i64 c.high, .slice c.aa c.an c.ac] 26) = W2 := ⟨_, rfl⟩
  have HW2 := Lib.hid hW2
  have hK2 : Chk1 w0 w W2 p c (l.length + 1) := by rw [← hW2]; exact hK
  obtain ⟨W3, hW3, hF3, hz3, hB3⟩ := box W2 #[.func (.func 83) #[] #[], .func (.func 84) #[] #[], .func (.func 85) #[] #[]] 39
  have HW3 := Lib.hid hW3
  have hK3 := hK2.keep hB3
  obtain ⟨fb, hfb⟩ : ∃ fb, Cnd.formB c.op c.kn c.an c.text c.low c.high = fb := ⟨_, rfl⟩
  obtain ⟨te, hte⟩ : ∃ te, Cnd.textE c.op c.text = te := ⟨_, rfl⟩
  obtain ⟨ne, hnE⟩ : ∃ ne, Cnd.numE c.op c.low c.high c.an c.lat c.lon = ne := ⟨_, rfl⟩
  have HCF := Lib.hid (fun W => checkForm_is c.op c.ka c.kn c.kc c.text c.low c.high c.aa c.an c.ac W hkn han fb hfb hop)
  have HCT := Lib.hid (fun W => checkText_is c.op c.ka c.kn c.kc c.text c.low c.high c.aa c.an c.ac W hkn han hts te hte hop)
  have HCN := Lib.hid (fun (h : fb = true) W (hb : Below w0.heap.size w0 W) => checkNums_is c.op c.ka c.kn c.kc c.text c.low c.high c.aa c.an c.ac c.lat c.lon W hkn han hts (Cnd.In.keep hb hI).row (hfb.trans h) ne hnE hop)
  have HB1 : Hid (fb = false → c.bare = 1) := Lib.hid fun h => by rw [hbare]; exact Cnd.bareE_form hop (hfb.trans h)
  have HB2 : Hid (fb = true → te ≠ 0 → c.bare = te) := Lib.hid fun h h0 => by rw [hbare]; exact Cnd.bareE_text hop (hfb.trans h) hte h0
  have HB3 : Hid (fb = true → te = 0 → c.bare = ne) := Lib.hid fun h h0 => by rw [hbare]; exact Cnd.bareE_num hop (hfb.trans h) (hte.trans h0) hnE
  have HBW := Lib.hid hB
  rw [show W2.heap.size = w.heap.size + 1 by rw [← hW2]; simp] at hF3
  have HK3 := Lib.hid hK3; have HF3 := Lib.hid hF3; have HK := Lib.hid hk; have HI := Lib.hid hI; have HFI := Lib.hid hF; have HIH := Lib.hid ih
  clear hK hK2 hK3 hF3 hW2 hW3 hB3 hz3 hop hbare hI hF ih hfb hte hnE hC hB hl hk hne
  have eg1 := eg_form; have eg2 := eg_text; have eg3 := eg_nums
  go_enter Tryz.func51, Tryz.ntmps51
  go_wp2_with (go_at_call 21; (with_reducible refine (outsideF_is c.op 1 16 true HK.out _).mono ?_); rintro e w5 ⟨rfl, rfl⟩)
  rw [HW2.out, HW3.out]
  go_loopg [34] 3 (fun gk i wr => ∃ j : Nat, j ≤ 3 ∧ gk = 3 - j ∧ i = .int .i64 j ∧ (1 ≤ j → fb = true) ∧ (2 ≤ j → te = 0) ∧ (3 ≤ j → ne = 0) ∧ Below W3.heap.size W3 wr)
  case atStart => exact ⟨0, by omega, rfl, rfl, fun h => by omega, fun h => by omega, fun h => by omega, Below.refl _ _⟩
  case round =>
    obtain ⟨j, hj, rfl, rfl, r1, r2, r3, hB⟩ := hrel
    have R1 := Lib.hid r1; have R2 := Lib.hid r2; have R3 := Lib.hid r3
    clear r1 r2 r3 c0 k0 p0
    have hKr := HK3.out.keep hB
    obtain ⟨t0, t1, t2, t3, t4, t5⟩ := hKr.box.six
    obtain ⟨f0, f1, f2⟩ := (HF3.out.keep hB).three
    have HKR := Lib.hid hKr; clear hKr
    have hj4 : j = 0 ∨ j = 1 ∨ j = 2 ∨ j = 3 := by omega
    rcases hj4 with rfl | rfl | rfl | rfl
    · cases fb
      · have HQ := Lib.hid (HB1.out rfl)
        rw [if_neg (by simp)] at HCF
        go_wp2_with (go_at_fn 83; refine (HCF.out _).mono ?_; rintro e w5 ⟨rfl, hB5⟩)
        go_ret
        exact ChkPost.bad ((HEB.out (by rw [HQ.out]; decide)).trans HQ.out) (by decide) (HKR.out.keep hB5).grown
      · rw [if_pos rfl] at HCF
        go_wp2_with (go_at_fn 83; refine (HCF.out _).mono ?_; rintro e w5 ⟨rfl, hB5⟩)
        go_roundg 2
        case rel => exact ⟨1, by omega, rfl, by go_num, fun _ => (by first | rfl | trivial), fun h => by omega, fun h => by omega, below_up hB hB5⟩
        case measure => omega
    · by_cases ht0 : te = 0
      · subst ht0
        have HB2 := True.intro
        go_wp2_with (go_at_fn 84; refine (HCT.out _).mono ?_; rintro e w5 ⟨rfl, hB5⟩)
        go_roundg 1
        case rel => exact ⟨2, by omega, rfl, by go_num, fun _ => R1.out (by omega), fun _ => (by first | rfl | trivial), fun h => by omega, below_up hB hB5⟩
        case measure => omega
      · have HQ := Lib.hid (HB2.out (R1.out (by omega)) ht0)
        have ht1 : (te != 0) = true := by simpa using ht0
        have HT0 := Lib.hid ht0; clear ht0
        go_wp2_with (go_at_fn 84; refine (HCT.out _).mono ?_; rintro e w5 ⟨rfl, hB5⟩)
        go_ret
        exact ChkPost.bad ((HEB.out (by rw [HQ.out]; exact HT0.out)).trans HQ.out) HT0.out (HKR.out.keep hB5).grown
    · have HQ := Lib.hid (HB3.out (R1.out (by omega)) (R2.out (by omega)))
      have HCN2 := Lib.hid (fun W hb => HCN.out (R1.out (by omega)) W hb)
      have HBR := Lib.hid HKR.out.bel
      by_cases hn0 : ne = 0
      · subst hn0
        go_wp2_with (go_at_fn 85; refine (HCN2.out _ HBR.out).mono ?_; rintro e w5 ⟨rfl, hB5⟩)
        go_roundg 0
        case rel => exact ⟨3, by omega, rfl, by go_num, fun _ => R1.out (by omega), fun _ => R2.out (by omega), fun _ => (by first | rfl | trivial), below_up hB hB5⟩
        case measure => omega
      · have hn1 : (ne != 0) = true := by simpa using hn0
        have HN0 := Lib.hid hn0; clear hn0
        go_wp2_with (go_at_fn 85; refine (HCN2.out _ HBR.out).mono ?_; rintro e w5 ⟨rfl, hB5⟩)
        go_ret
        exact ChkPost.bad ((HEB.out (by rw [HQ.out]; exact HN0.out)).trans HQ.out) HN0.out (HKR.out.keep hB5).grown
    · have hbare0 : c.bare = 0 := by rw [HB3.out (R1.out (by omega)) (R2.out (by omega))]; exact R3.out (by omega)
      have HE0 := Lib.hid (HE1.out.trans hbare0)
      clear f0 f1 f2 hbare0
      obtain ⟨f, hf⟩ : ∃ f, (fun i => Cnd.ahead (c.kids i) (d + 1)) = f := ⟨_, rfl⟩
      have HFF := Lib.hid hf
      rw [hf] at HAE
      clear hf
      go_wp2_with fail
      go_loopg [48] c.kn (fun gk i wr => ∃ j : Nat, j ≤ c.kn ∧ gk = c.kn - j ∧ i = .int .i64 j ∧ Cnd.errL 0 (Cnd.aheadK f j (l ++ [(c, d)])) = 0 ∧ Ctr wr p (Cnd.aheadK f j (l ++ [(c, d)])).length ∧ w.grownBy wr (some p))
      case atStart => exact ⟨0, by omega, rfl, rfl, HE0.out, by have := HKR.out.ctr; rw [Cnd.aheadK, List.length_append]; exact this, HKR.out.grown⟩
      case round =>
        obtain ⟨j, hj, rfl, rfl, hej, hCj, hGj⟩ := hrel
        have HEJ := Lib.hid hej; have HGJ := Lib.hid hGj
        have hb0 : Below w0.heap.size w0 wr := HBW.out.trans (below_of_grown hGj hsz hp)
        by_cases hlt : j < c.kn
        · obtain ⟨b, off, hka, hbl, hcell⟩ := (Cnd.In.keep hb0 HI.out).kid (by omega)
          rw [hka]
          obtain ⟨s0, s1, s2, s3, s4, s5⟩ := hcell j hlt
          clear hcell
          obtain ⟨x, hx⟩ : ∃ x, c.kids j = x := ⟨_, rfl⟩
          have hCALL := HIH.out j (d + 1) (Cnd.aheadK f j (l ++ [(c, d)])) (wr.alloc (.cells #[.int .i64 x.op, .slice x.ka x.kn x.kc, .string x.text, .int .i64 x.low, .int .i64 x.high, .slice x.aa x.an x.ac] 26)) p (HI.out.each j hlt) (HFI.out.each j hlt) (hb0.trans ((below_allocs (Below.refl _ _) _).mono hb0.size)) hp (by omega) hej (Blk.alloc hCj _)
          rw [hx] at hCALL s0 s1 s2 s3 s4 s5
          rw [show ((d + 1 : Nat) : Int) = (d : Int) + 1 by omega] at hCALL
          have hnext : Cnd.aheadK f (j + 1) (l ++ [(c, d)]) = Cnd.ahead x (d + 1) (Cnd.aheadK f j (l ++ [(c, d)])) := by
            rw [Cnd.aheadK, ← HFF.out]; simp only [hx]
          rw [← hnext] at hCALL
          have HCALL := Lib.hid hCALL
          have HGA := Lib.hid (hGj.trans (World.grownBy_alloc wr (.cells #[.int .i64 x.op, .slice x.ka x.kn x.kc, .string x.text, .int .i64 x.low, .int .i64 x.high, .slice x.aa x.an x.ac] 26) (some p)))
          clear hCALL hnext hx hCj hGj hej
          obtain ⟨q, hq⟩ : ∃ q, Cnd.errL 0 (Cnd.aheadK f (j + 1) (l ++ [(c, d)])) = q := ⟨_, rfl⟩
          have HQ := Lib.hid hq
          by_cases hq0 : q = 0
          · have HQ0 := Lib.hid (hq.trans hq0)
            subst hq0
            clear hq
            go_wp2_with (go_at_call 51; refine HCALL.out.mono ?_; rintro e w7 ⟨rfl, hok, hG⟩; rw [HQ.out]; have HOK := Lib.hid (hok HQ0.out); have HG7 := Lib.hid (HGA.out.trans hG); clear hok hG)
            rw [← hka]
            go_roundg (c.kn - (j + 1))
            case rel => exact ⟨j + 1, by omega, rfl, by go_num, HQ0.out, HOK.out, HG7.out⟩
            case measure => omega
          · have hq1 : (q != 0) = true := by simpa using hq0
            have HN0 := Lib.hid hq0; clear hq0 hq
            go_wp2_with (go_at_call 51; refine HCALL.out.mono ?_; rintro e w7 ⟨rfl, -, hG⟩; rw [HQ.out]; have HG7 := Lib.hid (HGA.out.trans hG); clear hG)
            go_ret
            refine ChkPost.bad ?_ HN0.out HG7.out
            rw [HAE.out, Cnd.aheadK_more (fun i l => by rw [← HFF.out]; exact Cnd.ahead_pre _ _ _) _ (j + 1) c.kn (by omega) (by rw [HQ.out]; exact HN0.out), HQ.out]
        · obtain rfl : j = c.kn := by omega
          have HCJ := Lib.hid hCj
          go_wp2_with fail
          go_ret
          exact ⟨by rw [HAE.out, HEJ.out]; rfl, fun _ => by rw [HAE.out]; exact HCJ.out, HGJ.out⟩
end Go.Proofs.YtngbaljmlbdfkaaGreatDoor

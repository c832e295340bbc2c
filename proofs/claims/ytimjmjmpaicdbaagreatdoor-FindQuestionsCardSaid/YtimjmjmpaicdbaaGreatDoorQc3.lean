/- Parts of the proof, no condition: QnText, QnStr, QnLaw. -/
import Derived.Test.YtimjmjmpaicdbaaGreatDoorPc20
import Derived.Test.YtimjmjmpaicdbaaGreatDoorQc2
set_option maxRecDepth 100000
set_option maxHeartbeats 8000000
set_option linter.unusedSimpArgs false
set_option linter.unusedVariables false
namespace Go.Proofs.YtimjmjmpaicdbaaGreatDoor
open Go.RowKit Go.Sort Go.Shelf
noncomputable def Qx.top (c : Cnd) (l : List Ak.Srt) (f m : Int) : ByteArray × Int := if Ak.qErr c.err l f m = 0 then (if (Cx.txt c).2 = 0 then (Tx.mk (Qx.text c l f m), 0) else (⟨#[]⟩, 1)) else (⟨#[]⟩, Ak.qErr c.err l f m)
theorem Qx.top_err {c : Cnd} {l : List Ak.Srt} {f m : Int} (h : Ak.qErr c.err l f m ≠ 0) : Qx.top c l f m = (⟨#[]⟩, Ak.qErr c.err l f m) := if_neg h
theorem Qx.top_ok {c : Cnd} {l : List Ak.Srt} {f m : Int} (h : Ak.qErr c.err l f m = 0) (h2 : (Cx.txt c).2 = 0) : Qx.top c l f m = (Tx.mk (Qx.text c l f m), 0) := by unfold Qx.top; rw [if_pos h, if_pos h2]
theorem Qx.top_form {c : Cnd} {l : List Ak.Srt} {f m : Int} (h : Ak.qErr c.err l f m = 0) (h2 : (Cx.txt c).2 ≠ 0) : Qx.top c l f m = (⟨#[]⟩, 1) := by unfold Qx.top; rw [if_pos h, if_neg h2]
theorem Qx.ok_parts {ce : Int} {l : List Ak.Srt} {f m : Int} (h : Ak.qErr ce l f m = 0) : ce = 0 ∧ l.length ≤ 5 ∧ (∀ s, s ∈ l → 1 ≤ s.by_ ∧ s.by_ ≤ 5) ∧ (0 ≤ f ∧ f ≤ 1000) ∧ (0 ≤ m ∧ m ≤ 1000) := by
 unfold Ak.qErr at h
 by_cases h0 : ce = 0
 ·rw [if_pos h0] at h
  by_cases h5 : 5 < l.length
  ·rw [if_pos h5] at h; cases h
  ·rw [if_neg h5] at h
   by_cases hs : Ak.srtE [] l = 0
   ·rw [if_pos hs] at h
    by_cases hr : Ak.rngB f = true ∧ Ak.rngB m = true
    ·have h1 := of_decide_eq_true hr.1
     have h2 := of_decide_eq_true hr.2
     exact ⟨h0, by omega, Ak.srtE_by hs, h1, h2⟩
    ·rw [if_neg hr] at h; cases h
   ·rw [if_neg hs] at h; exact absurd h hs
 ·rw [if_neg h0] at h; exact absurd h h0
theorem questionText_is (c : Cnd) (l : List Ak.Srt) (sa : Option Addr) (sc : Nat) (f m : Int) (w : World) (hc : c.In w) (hG : c.Fits) (hr : RowE Ak.eS w sa l) (hsc : l.length ≤ sc) (hsm : sc ≤ 9223372036854775807) (ht : Tx.Tab w) (hmx : Mx w) :
  Calls Tryz.prog 10 #[.agg #[.int .i64 c.op, .slice c.ka c.kn c.kc, .string c.text, .int .i64 c.low, .int .i64 c.high, .slice c.aa c.an c.ac, .slice sa l.length sc, .int .i64 f, .int .i64 m]] w fun e w' => e = .returned (.tuple #[.string (Qx.top c l f m).1, .int .i64 (Qx.top c l f m).2]) ∧ Below w.heap.size w w' := by
 obtain ⟨W1, hW1, hQ, hz1, hB1⟩ := box w #[.int .i64 c.op, .slice c.ka c.kn c.kc, .string c.text, .int .i64 c.low, .int .i64 c.high, .slice c.aa c.an c.ac, .slice sa l.length sc, .int .i64 f, .int .i64 m] 33
 have HW1 := Lib.hid hW1
 obtain ⟨q0, q1, q2, q3, q4, q5, q6, q7, q8⟩ := hQ.nine
 have HQ := Lib.hid hQ; have HB1 := Lib.hid hB1
 have HCC := Lib.hid (checkQ_is c l sa sc f m W1 (Cnd.In.keep hB1 hc) hG (hr.keep hB1) hsc hsm)
 have HTX := Lib.hid (fun W2 (hb : Below W1.heap.size W1 W2) => condTextTop_is c W2 (Cnd.In.keep hb (Cnd.In.keep hB1 hc)) hG (Tx.tab_below (Tx.tab_below ht hB1) hb) ((hmx.below hB1).below hb))
 have HRR := Lib.hid (hr.keep hB1)
 have HT1 := Lib.hid (Tx.tab_below ht hB1)
 by_cases h0 : Ak.qErr c.err l f m = 0
 ·obtain ⟨hce, hl5, hby, hf, hm⟩ := Qx.ok_parts h0
  have hg := Cnd.good_of hc hce
  have hcn := Cx.cnt_le hc hce
  have hor := Cx.txt_err hg
  have hln := Cx.txt_len c hg
  have hln2 : (Cx.txt c).1.length ≤ 51200 := by omega
  have hsz : (Tx.mk (Cx.txt c).1).size ≤ 51200 := by rw [Tx.mk_size]; omega
  have HTOP := Lib.hid (Qx.top_ok h0)
  have HTOPF := Lib.hid (Qx.top_form h0)
  have HCT := Lib.hid (Cx.top_ok hce)
  have HCTF := Lib.hid (Cx.top_form hce)
  rw [h0] at HCC
  have HLB := Lib.hid (Qx.lines_len l)
  have HLP : Hid (∀ j, (Qx.lines (l.take j)).length ≤ 90) := Lib.hid fun j => by
   have h1 := Qx.lines_len (l.take j)
   rw [List.length_take] at h1; omega
  have HFL := Lib.hid (Qx.fromT_len hf)
  have HML := Lib.hid (Qx.mostT_len hm)
  clear ht hmx h0 hg hcn hce hW1 hQ hB1 hc hG hr
  rcases hor with he | he
  ·have HT := Lib.hid (HTOP.out he)
   have hct := HCT.out he
   rw [hct] at HTX
   have HHD : Hid (Qx.head c = (⟨#[119, 104, 101, 114, 101, 32]⟩ ++ Tx.mk (Cx.txt c).1 ++ ⟨#[10]⟩ : ByteArray).data.toList) := Lib.hid (by rw [Qx.ba_app, Qx.ba_app]; rfl)
   have hhl : (Qx.head c).length ≤ 51300 := by unfold Qx.head; simp only [List.length_append, List.length_cons, List.length_nil]; omega
   have HTXT : Hid (Qx.text c l f m = Qx.head c ++ Qx.lines l ++ Qx.fromT f ++ Qx.mostT m) := Lib.hid rfl
   generalize Qx.top c l f m = tp at *
   generalize Tx.mk (Cx.txt c).1 = S at *
   generalize Qx.text c l f m = TT at *
   generalize Qx.head c = H0 at *
   clear HTOP HTOPF HCT HCTF hct he hln hln2
   obtain ⟨n, hn⟩ : ∃ n, l.length = n := ⟨_, rfl⟩
   have HN := Lib.hid hn
   rw [hn] at hl5 hsc HQ HCC HW1 HLB q6 ⊢
   clear hn
   go_enter Tryz.func10, Tryz.ntmps10
   go_wp2_with fail
   rw [HW1.out]
   go_wp2_with (first
    | (go_at_call 12; refine HCC.out.mono ?_; rintro e w2 ⟨rfl, hB2⟩; obtain ⟨r0, r1, r2, r3, r4, r5, r6, r7, r8⟩ := (HQ.out.keep hB2).nine)
    | (go_at_call 6; refine (HTX.out _ hB2).mono ?_; rintro e w3 ⟨rfl, hB3⟩; have HB3 := Lib.hid (below_up hB2 hB3); have HBD := Lib.hid (writeStringB_is w3.heap.size [] (⟨#[119, 104, 101, 114, 101, 32]⟩ ++ S ++ ⟨#[10]⟩) _ (Bld.new w3) (by simp only [ByteArray.size_append', ByteArray.size_mk', List.length_nil]; simp; omega)); have hB4 := below_allocs (Below.refl w3.heap.size w3) (.cells #[.pointer none, .slice none 0 0] 64))
    | (go_at_call 26; refine HBD.out.mono ?_; rintro e w5 ⟨rfl, hbl, hB5⟩; obtain ⟨v0, v1, v2, v3, v4, v5, v6, v7, v8⟩ := ((HQ.out.keep HB3.out).keep (hB4.trans (hB5.mono (Nat.le_refl _)))).nine))
   rw [List.nil_append, ← HHD.out] at hbl
   have hB5 := hB4.trans (hB5.mono (Nat.le_refl _))
   have HQ3 := Lib.hid (HQ.out.keep HB3.out)
   have HR3 := Lib.hid (HRR.out.keep HB3.out)
   have HT3 := Lib.hid (Tx.tab_below HT1.out HB3.out)
   have HW3 := Lib.hid (below_up HB1.out HB3.out)
   clear hB4 q0 q1 q2 q3 q4 q5 q6 q7 q8 r0 r1 r2 r3 r4 r5 r6 r7 r8 v0 v1 v2 v3 v4 v5 v6 v7 v8
   have HB5 := Lib.hid hB5
   have HBL := Lib.hid hbl
   clear hB2 hB3 hB5 hbl HCC HTX HBD HT1 HRR HQ HB3 HB1
   go_loopg [31] n (fun gk i wr => ∃ j : Nat, j ≤ n ∧ gk = n - j ∧ i = .int .i64 j ∧ Bld wr w3.heap.size (H0 ++ Qx.lines (l.take j)) ∧ Below w3.heap.size w3 wr)
   case atStart => exact ⟨0, by omega, rfl, rfl, by rw [List.take_zero]; show Bld w5 _ (H0 ++ []); rw [List.append_nil]; exact HBL.out, HB5.out⟩
   case round =>
    obtain ⟨j, hj, rfl, rfl, hbl, hB⟩ := hrel
    have hlp := HLP.out j
    by_cases hlt : j < n
    ·obtain ⟨s, hs⟩ : ∃ s, l[j]? = some s := ⟨_, List.getElem?_eq_getElem (by rw [HN.out]; exact hlt)⟩
     have HST := Lib.hid (fun W => sortText_is s (hby s (List.mem_of_getElem? hs)) W)
     have hssz := Qx.srt_size s
     obtain ⟨b1, o1, ha1, hb1, hc1⟩ := (HR3.out.keep hB) (by rw [HN.out]; omega)
     have c0 : wr.cell? ⟨b1, o1 + j * 2, none⟩ = some (.int .i64 s.by_) := hc1 j s hs 0 (.int .i64 s.by_) rfl
     have c1 : wr.cell? ⟨b1, o1 + j * 2 + 1, none⟩ = some (.bool s.down) := hc1 j s hs 1 (.bool s.down) rfl
     have HNX : Hid (H0 ++ Qx.lines (l.take (j + 1)) = (H0 ++ Qx.lines (l.take j)) ++ (Qx.srt s ++ ⟨#[10]⟩ : ByteArray).data.toList) := Lib.hid (by
      rw [List.take_add_one, hs, Qx.ba_app]
      show H0 ++ Qx.lines (l.take j ++ [s]) = _
      rw [Qx.lines_snoc, List.append_assoc]; rfl)
     have hAl := below_allocs (Below.refl wr.heap.size wr) (.cells #[.int .i64 s.by_, .bool s.down] 70)
     have hj0 : (0 : Int) ≤ (j : Int) := by omega
     have hj1 : (j : Int) < (n : Int) := by omega
     have HBR := Lib.hid hB; have HBLR := Lib.hid hbl
     generalize Qx.srt s = G at *
     clear hc1 hs hB hbl
     rw [ha1]
     go_wp2_with (first
      | (go_at_call 27; (with_reducible refine (HST.out _).mono ?_); rintro e w6 ⟨rfl, hB6⟩; have hBL6 := HBLR.out.keep (hAl.trans (hB6.mono (by simp))); have HWS := Lib.hid (writeStringB_is w3.heap.size (H0 ++ Qx.lines (l.take j)) (G ++ ⟨#[10]⟩) w6 hBL6 (by rw [List.length_append]; simp only [ByteArray.size_append', ByteArray.size_mk']; simp; omega)))
      | (go_at_call 26; refine HWS.out.mono ?_; rintro e w7 ⟨rfl, hbl7, hB7⟩))
     rw [← ha1]
     go_roundg (n - (j + 1))
     case rel => exact ⟨j + 1, by omega, rfl, by go_num, by rw [HNX.out]; exact hbl7, HBR.out.trans (((hAl.trans (hB6.mono (by simp))).mono HBR.out.size).trans hB7)⟩
     case measure => omega
    ·obtain rfl : j = n := by omega
     rw [← HN.out, List.take_length] at hbl hlp
     obtain ⟨t0, t1, t2, t3, t4, t5, t6, t7, t8⟩ := (HQ3.out.keep hB).nine
     have hT := Tx.tab_below HT3.out hB
     clear t0 t1 t2 t3 t4 t5
     by_cases hf0 : f = 0
     ·have hLL : Qx.fromT f = [] := if_pos hf0
      rw [hLL] at HTXT HFL
      rw [List.append_nil] at HTXT
      clear hLL HFL
      subst hf0
      go_upto_region 16 with fail
      have hlq : (H0 ++ Qx.lines l).length ≤ 51500 := by first | exact hlp7 | (rw [List.length_append]; omega)
      by_cases hm0 : m = 0
      ·have hLM : Qx.mostT m = [] := if_pos hm0
       rw [hLM] at HTXT
       rw [List.append_nil] at HTXT
       clear hLM
       subst hm0
       have HLEN := Lib.hid (bldLen_is w3.heap.size (H0 ++ Qx.lines l) wr hbl)
       have HSTR := Lib.hid (bldString_is w3.heap.size (H0 ++ Qx.lines l) wr hbl)
       rw [← HTXT.out] at HSTR
       have hql : (((H0 ++ Qx.lines l).length : Nat) : Int) ≤ 1000000 := by omega
       have hql2 : ¬ ((1000000 : Int) < (((H0 ++ Qx.lines l).length : Nat) : Int)) := by omega
       generalize (H0 ++ Qx.lines l).length = QL at *
       go_wp2_with (first
        | (go_at_call 29; refine HLEN.out.mono ?_; rintro e w8 ⟨rfl, hw8⟩; subst w8)
        | (go_at_call 30; refine HSTR.out.mono ?_; rintro e w9 ⟨rfl, hB9⟩))
       go_ret2
       exact ⟨by rw [HT.out]; rfl, below_up HW3.out ((hB).trans hB9)⟩
      ·have hLM : Qx.mostT m = (⟨#[109, 111, 115, 116, 32]⟩ ++ Cx.num m ++ ⟨#[10]⟩ : ByteArray).data.toList := by
        rw [Qx.ba_app, Qx.ba_app]; exact if_neg hm0
       have hmm : (m != 0) = true := by simpa using hm0
       have HIM := Lib.hid (itoaC m (by omega) wr hT)
       have hms := Cx.num_size (n := m) (by omega)
       generalize Cx.num m = NM at *
       rw [hLM] at HTXT
       have hsm9 : (⟨#[109, 111, 115, 116, 32]⟩ ++ NM ++ ⟨#[10]⟩ : ByteArray).size ≤ 30 := by simp only [ByteArray.size_append', ByteArray.size_mk']; simp; omega
       have HBLM := Lib.hid hbl
       have hBM := hB
       have hql : ((H0 ++ Qx.lines l) ++ (⟨#[109, 111, 115, 116, 32]⟩ ++ NM ++ ⟨#[10]⟩ : ByteArray).data.toList).length ≤ 52000 := by
        rw [List.length_append, ← hLM]; have := HML.out; omega
       clear hLM
       go_wp2_with (first
        | (go_at_call 28; refine HIM.out.mono ?_; rintro e w10 ⟨rfl, hB10⟩; have hBL10 := HBLM.out.keep hB10; have HWT := Lib.hid (writeStringB_is w3.heap.size (H0 ++ Qx.lines l) (⟨#[109, 111, 115, 116, 32]⟩ ++ NM ++ ⟨#[10]⟩) w10 hBL10 (by omega)))
        | (go_at_call 26; refine HWT.out.mono ?_; rintro e w11 ⟨rfl, hbl11, hB11⟩; have HLEN := Lib.hid (bldLen_is w3.heap.size _ w11 hbl11); have HSTR := Lib.hid (bldString_is w3.heap.size _ w11 hbl11); rw [← HTXT.out] at HSTR; have hB011 := hBM.trans ((hB10.mono hBM.size).trans hB11); (obtain ⟨QL, hQL⟩ : ∃ QL : Nat, ((H0 ++ Qx.lines l) ++ (⟨#[109, 111, 115, 116, 32]⟩ ++ NM ++ ⟨#[10]⟩ : ByteArray).data.toList).length = QL := ⟨_, rfl⟩); rw [hQL] at HLEN hql; (have hql1 : ¬ ((1000000 : Int) < (QL : Int)) := (by omega)); clear hbl11)
        | (go_at_call 29; refine HLEN.out.mono ?_; rintro e w12 ⟨rfl, hw12⟩; subst w12)
        | (go_at_call 30; refine HSTR.out.mono ?_; rintro e w13 ⟨rfl, hB13⟩))
       go_ret2
       exact ⟨by rw [HT.out]; rfl, below_up HW3.out (hB011.trans hB13)⟩
     ·have hLL : Qx.fromT f = (⟨#[102, 114, 111, 109, 32]⟩ ++ Cx.num f ++ ⟨#[10]⟩ : ByteArray).data.toList := by
       rw [Qx.ba_app, Qx.ba_app]; exact if_neg hf0
      have hff : (f != 0) = true := by simpa using hf0
      have HIF := Lib.hid (itoaC f (by omega) wr hT)
      have hfs := Cx.num_size (n := f) (by omega)
      generalize Cx.num f = NF at *
      rw [hLL] at HTXT
      have HBLR := Lib.hid hbl
      have hBr := hB
      clear hbl
      go_upto_region 16 with (first
       | (go_at_call 28; refine HIF.out.mono ?_; rintro e w6 ⟨rfl, hB6⟩; have hBL6 := HBLR.out.keep hB6; have HWS := Lib.hid (writeStringB_is w3.heap.size (H0 ++ Qx.lines l) (⟨#[102, 114, 111, 109, 32]⟩ ++ NF ++ ⟨#[10]⟩) w6 hBL6 (by rw [List.length_append]; simp only [ByteArray.size_append', ByteArray.size_mk']; simp; omega)))
       | (go_at_call 26; refine HWS.out.mono ?_; rintro e w7 ⟨rfl, hbl7, hB7⟩; have hB07 := hBr.trans ((hB6.mono hBr.size).trans hB7); obtain ⟨v0, v1, v2, v3, v4, v5, v6, v7, v8⟩ := (HQ3.out.keep hB07).nine; have hT7 := Tx.tab_below HT3.out hB07))
      have hlp7 : (H0 ++ Qx.lines l ++ (⟨#[102, 114, 111, 109, 32]⟩ ++ NF ++ ⟨#[10]⟩ : ByteArray).data.toList).length ≤ 51500 := by
       rw [List.length_append, ← hLL, List.length_append]; have := HFL.out; omega
      clear hLL HFL v0 v1 v2 v3 v4 v5 v6 v7
      generalize (⟨#[102, 114, 111, 109, 32]⟩ ++ NF ++ ⟨#[10]⟩ : ByteArray).data.toList = LF at *
      have hlq : (H0 ++ Qx.lines l ++ LF).length ≤ 51500 := by first | exact hlp7 | (rw [List.length_append]; omega)
      by_cases hm0 : m = 0
      ·have hLM : Qx.mostT m = [] := if_pos hm0
       rw [hLM] at HTXT
       rw [List.append_nil] at HTXT
       clear hLM
       subst hm0
       have HLEN := Lib.hid (bldLen_is w3.heap.size (H0 ++ Qx.lines l ++ LF) w7 hbl7)
       have HSTR := Lib.hid (bldString_is w3.heap.size (H0 ++ Qx.lines l ++ LF) w7 hbl7)
       rw [← HTXT.out] at HSTR
       have hql : (((H0 ++ Qx.lines l ++ LF).length : Nat) : Int) ≤ 1000000 := by omega
       have hql2 : ¬ ((1000000 : Int) < (((H0 ++ Qx.lines l ++ LF).length : Nat) : Int)) := by omega
       generalize (H0 ++ Qx.lines l ++ LF).length = QL at *
       go_wp2_with (first
        | (go_at_call 29; refine HLEN.out.mono ?_; rintro e w8 ⟨rfl, hw8⟩; subst w8)
        | (go_at_call 30; refine HSTR.out.mono ?_; rintro e w9 ⟨rfl, hB9⟩))
       go_ret2
       exact ⟨by rw [HT.out]; rfl, below_up HW3.out ((hB07).trans hB9)⟩
      ·have hLM : Qx.mostT m = (⟨#[109, 111, 115, 116, 32]⟩ ++ Cx.num m ++ ⟨#[10]⟩ : ByteArray).data.toList := by
        rw [Qx.ba_app, Qx.ba_app]; exact if_neg hm0
       have hmm : (m != 0) = true := by simpa using hm0
       have HIM := Lib.hid (itoaC m (by omega) w7 hT7)
       have hms := Cx.num_size (n := m) (by omega)
       generalize Cx.num m = NM at *
       rw [hLM] at HTXT
       have hsm9 : (⟨#[109, 111, 115, 116, 32]⟩ ++ NM ++ ⟨#[10]⟩ : ByteArray).size ≤ 30 := by simp only [ByteArray.size_append', ByteArray.size_mk']; simp; omega
       have HBLM := Lib.hid hbl7
       have hBM := hB07
       have hql : ((H0 ++ Qx.lines l ++ LF) ++ (⟨#[109, 111, 115, 116, 32]⟩ ++ NM ++ ⟨#[10]⟩ : ByteArray).data.toList).length ≤ 52000 := by
        rw [List.length_append, ← hLM]; have := HML.out; omega
       clear hLM
       go_wp2_with (first
        | (go_at_call 28; refine HIM.out.mono ?_; rintro e w10 ⟨rfl, hB10⟩; have hBL10 := HBLM.out.keep hB10; have HWT := Lib.hid (writeStringB_is w3.heap.size (H0 ++ Qx.lines l ++ LF) (⟨#[109, 111, 115, 116, 32]⟩ ++ NM ++ ⟨#[10]⟩) w10 hBL10 (by omega)))
        | (go_at_call 26; refine HWT.out.mono ?_; rintro e w11 ⟨rfl, hbl11, hB11⟩; have HLEN := Lib.hid (bldLen_is w3.heap.size _ w11 hbl11); have HSTR := Lib.hid (bldString_is w3.heap.size _ w11 hbl11); rw [← HTXT.out] at HSTR; have hB011 := hBM.trans ((hB10.mono hBM.size).trans hB11); (obtain ⟨QL, hQL⟩ : ∃ QL : Nat, ((H0 ++ Qx.lines l ++ LF) ++ (⟨#[109, 111, 115, 116, 32]⟩ ++ NM ++ ⟨#[10]⟩ : ByteArray).data.toList).length = QL := ⟨_, rfl⟩); rw [hQL] at HLEN hql; (have hql1 : ¬ ((1000000 : Int) < (QL : Int)) := (by omega)); clear hbl11)
        | (go_at_call 29; refine HLEN.out.mono ?_; rintro e w12 ⟨rfl, hw12⟩; subst w12)
        | (go_at_call 30; refine HSTR.out.mono ?_; rintro e w13 ⟨rfl, hB13⟩))
       go_ret2
       exact ⟨by rw [HT.out]; rfl, below_up HW3.out (hB011.trans hB13)⟩
  ·have HT := Lib.hid (HTOPF.out (by omega))
   have hct := HCTF.out (by omega)
   rw [hct] at HTX
   generalize Qx.top c l f m = tp at *
   clear HTOP HTOPF HCT HCTF hct he hln hln2
   go_enter Tryz.func10, Tryz.ntmps10
   go_wp2_with fail
   rw [HW1.out]
   go_wp2_with (first
    | (go_at_call 12; refine HCC.out.mono ?_; rintro e w2 ⟨rfl, hB2⟩; obtain ⟨r0, r1, r2, r3, r4, r5, r6, r7, r8⟩ := (HQ.out.keep hB2).nine)
    | (go_at_call 6; refine (HTX.out _ hB2).mono ?_; rintro e w3 ⟨rfl, hB3⟩))
   go_ret2
   exact ⟨by rw [HT.out]; rfl, below_up (below_up HB1.out hB2) hB3⟩
 ·have HT := Lib.hid (Qx.top_err h0)
  have h1 : (Ak.qErr c.err l f m != 0) = true := by simpa using h0
  generalize Qx.top c l f m = tp at *
  generalize Ak.qErr c.err l f m = q at *
  clear h0 hW1 hQ hB1 hc hG hr ht hmx
  go_enter Tryz.func10, Tryz.ntmps10
  go_wp2_with fail
  rw [HW1.out]
  go_wp2_with (go_at_call 12; refine HCC.out.mono ?_; rintro e w2 ⟨rfl, hB2⟩)
  go_ret2
  exact ⟨by rw [HT.out]; rfl, below_up HB1.out hB2⟩
theorem Qx.mk_data (s : ByteArray) : Tx.mk s.data.toList = s := rfl
theorem Qx.line_down (s : Ak.Srt) (L : List UInt8) (h : s.down = true) : Tx.mk (L ++ Qx.line s) = Tx.mk L ++ (⟨#[115, 111, 114, 116, 32]⟩ ++ Qx.word s.by_) ++ ⟨#[32, 100, 111, 119, 110, 10]⟩ := by
 unfold Qx.line Qx.srt
 rw [if_pos h, ← Tx.mk_append, ← Tx.mk_append, Qx.mk_data, ByteArray.append_assoc, ByteArray.append_assoc, ByteArray.append_assoc, ByteArray.append_assoc]
 rfl
theorem Qx.line_up (s : Ak.Srt) (L : List UInt8) (h : s.down = false) : Tx.mk (L ++ Qx.line s) = Tx.mk L ++ (⟨#[115, 111, 114, 116, 32]⟩ ++ Qx.word s.by_) ++ ⟨#[32, 117, 112, 10]⟩ := by
 unfold Qx.line Qx.srt
 rw [if_neg (by rw [h]; decide), ← Tx.mk_append, ← Tx.mk_append, Qx.mk_data, ByteArray.append_assoc, ByteArray.append_assoc, ByteArray.append_assoc, ByteArray.append_assoc]
 rfl
theorem Qx.from_app (L : List UInt8) {f : Int} (h : f ≠ 0) : Tx.mk (L ++ Qx.fromT f) = Tx.mk L ++ (⟨#[102, 114, 111, 109, 32]⟩ ++ Cx.num f ++ ⟨#[10]⟩) := by
 unfold Qx.fromT
 rw [if_neg h, ← Tx.mk_append, ← Tx.mk_append, ← Tx.mk_append]; rfl
theorem Qx.most_app (L : List UInt8) {f : Int} (h : f ≠ 0) : Tx.mk (L ++ Qx.mostT f) = Tx.mk L ++ (⟨#[109, 111, 115, 116, 32]⟩ ++ Cx.num f ++ ⟨#[10]⟩) := by
 unfold Qx.mostT
 rw [if_neg h, ← Tx.mk_append, ← Tx.mk_append, ← Tx.mk_append]; rfl
theorem questionStr_is (c : Cnd) (l : List Ak.Srt) (sa : Option Addr) (sc : Nat) (f m : Int) (w : World) (hc : c.In w) (hr : RowE Ak.eS w sa l) (hg : c.Good) (hcn : Cx.cnt c ≤ 100) (hl5 : l.length ≤ 5) (hby : ∀ s, s ∈ l → 1 ≤ s.by_ ∧ s.by_ ≤ 5) (hf : 0 ≤ f ∧ f ≤ 1000) (hm : 0 ≤ m ∧ m ≤ 1000) (hmx : Mx w) :
  Calls Tryz.prog 13 #[.agg #[.int .i64 c.op, .slice c.ka c.kn c.kc, .string c.text, .int .i64 c.low, .int .i64 c.high, .slice c.aa c.an c.ac, .slice sa l.length sc, .int .i64 f, .int .i64 m]] w fun e w' => e = .returned (.tuple #[.string (Tx.mk (Qx.text c l f m)), .bool ((Cx.txt c).2 == 0)]) ∧ Below w.heap.size w w' := by
 obtain ⟨W1, hW1, hQ, hz1, hB1⟩ := box w #[.int .i64 c.op, .slice c.ka c.kn c.kc, .string c.text, .int .i64 c.low, .int .i64 c.high, .slice c.aa c.an c.ac, .slice sa l.length sc, .int .i64 f, .int .i64 m] 33
 have HW1 := Lib.hid hW1
 obtain ⟨q0, q1, q2, q3, q4, q5, q6, q7, q8⟩ := hQ.nine
 have HQ := Lib.hid hQ; have HB1 := Lib.hid hB1
 have HTX := Lib.hid (condStr_is c hg hcn W1 (Cnd.In.keep hB1 hc) (hmx.below hB1))
 have HRR := Lib.hid (hr.keep hB1)
 have hln := Cx.txt_len c hg
 have hsz : (Tx.mk (Cx.txt c).1).size ≤ 51200 := by rw [Tx.mk_size]; omega
 have HLP : Hid (∀ j, (Qx.lines (l.take j)).length ≤ 90) := Lib.hid fun j => by
  have h1 := Qx.lines_len (l.take j)
  rw [List.length_take] at h1; omega
 have HHD : Hid (Tx.mk (Qx.head c) = (⟨#[119, 104, 101, 114, 101, 32]⟩ ++ Tx.mk (Cx.txt c).1 ++ ⟨#[10]⟩ : ByteArray)) := Lib.hid (by unfold Qx.head; rw [← Tx.mk_append, ← Tx.mk_append])
 have hhl : (Qx.head c).length ≤ 51300 := by unfold Qx.head; simp only [List.length_append, List.length_cons, List.length_nil]; omega
 have HTXT : Hid (Qx.text c l f m = Qx.head c ++ Qx.lines l ++ Qx.fromT f ++ Qx.mostT m) := Lib.hid rfl
 have HFZ : Hid (∀ L, f = 0 → Tx.mk (L ++ Qx.fromT f) = Tx.mk L) := Lib.hid fun L h => by rw [show Qx.fromT f = [] from if_pos h, List.append_nil]
 have HMZ0 : Hid (∀ L, m = 0 → Tx.mk (L ++ Qx.mostT m) = Tx.mk L) := Lib.hid fun L h => by rw [show Qx.mostT m = [] from if_pos h, List.append_nil]
 have HFN : Hid (∀ L, f ≠ 0 → Tx.mk (L ++ Qx.fromT f) = Tx.mk L ++ (⟨#[102, 114, 111, 109, 32]⟩ ++ Cx.num f ++ ⟨#[10]⟩)) := Lib.hid fun L h => Qx.from_app L h
 have HMN0 : Hid (∀ L, m ≠ 0 → Tx.mk (L ++ Qx.mostT m) = Tx.mk L ++ (⟨#[109, 111, 115, 116, 32]⟩ ++ Cx.num m ++ ⟨#[10]⟩)) := Lib.hid fun L h => Qx.most_app L h
 have HFS : Hid ((Qx.fromT f).length ≤ 27) := Lib.hid (Qx.fromT_len hf)
 clear hW1 hQ hB1 hc hr hg hcn hmx hln
 generalize Qx.text c l f m = TT at *
 generalize Tx.mk (Cx.txt c).1 = S at *
 generalize ((Cx.txt c).2 == 0) = okb at *
 generalize Qx.head c = H0 at *
 generalize Qx.fromT f = FT at *
 generalize Qx.mostT m = MT at *
 obtain ⟨n, hn⟩ : ∃ n, l.length = n := ⟨_, rfl⟩
 have HN := Lib.hid hn
 rw [hn] at hl5 HQ HW1 q6 ⊢
 clear hn
 go_enter Tryz.func13, Tryz.ntmps13
 go_wp2_with fail
 rw [HW1.out]
 go_wp2_with (go_at_call 22; refine HTX.out.mono ?_; rintro e w3 ⟨rfl, hB3⟩; have HB3 := Lib.hid hB3; have HQ3 := Lib.hid (HQ.out.keep hB3); obtain ⟨r0, r1, r2, r3, r4, r5, r6, r7, r8⟩ := HQ3.out.nine)
 have HR3 := Lib.hid (HRR.out.keep HB3.out)
 clear HRR HTX q0 q1 q2 q3 q4 q5 q6 q7 q8 hB3 r0 r1 r2 r3 r4 r5 r6 r7 r8
 go_loopg [6, 21] n (fun gk v i wr => ∃ j : Nat, j ≤ n ∧ gk = n - j ∧ i = .int .i64 j ∧ v = .string (Tx.mk (H0 ++ Qx.lines (l.take j))) ∧ Below w3.heap.size w3 wr)
 case atStart => exact ⟨0, by omega, rfl, rfl, by rw [List.take_zero]; show _ = Value.string (Tx.mk (H0 ++ [])); rw [List.append_nil, HHD.out], Below.refl _ _⟩
 case round =>
  obtain ⟨j, hj, rfl, rfl, rfl, hB⟩ := hrel
  have hlp := HLP.out j
  have hms0 : (Tx.mk (H0 ++ Qx.lines (l.take j))).size ≤ 51500 := by rw [Tx.mk_size, List.length_append]; omega
  by_cases hlt : j < n
  ·obtain ⟨s, hs⟩ : ∃ s, l[j]? = some s := ⟨_, List.getElem?_eq_getElem (by rw [HN.out]; exact hlt)⟩
   have HSW := Lib.hid (fun W => sortWordR_is s.by_ (hby s (List.mem_of_getElem? hs)) W)
   have hssz := Qx.word_size s.by_
   obtain ⟨b1, o1, ha1, hb1, hc1⟩ := (HR3.out.keep hB) (by rw [HN.out]; omega)
   have c0 : wr.cell? ⟨b1, o1 + j * 2, none⟩ = some (.int .i64 s.by_) := hc1 j s hs 0 (.int .i64 s.by_) rfl
   have c1 : wr.cell? ⟨b1, o1 + j * 2 + 1, none⟩ = some (.bool s.down) := hc1 j s hs 1 (.bool s.down) rfl
   have htk : H0 ++ Qx.lines (l.take (j + 1)) = (H0 ++ Qx.lines (l.take j)) ++ Qx.line s := by
    rw [List.take_add_one, hs]
    show H0 ++ Qx.lines (l.take j ++ [s]) = _
    rw [Qx.lines_snoc, List.append_assoc]
   have HDN := Lib.hid (fun h => (congrArg Tx.mk htk).trans (Qx.line_down s (H0 ++ Qx.lines (l.take j)) h))
   have HUP := Lib.hid (fun h => (congrArg Tx.mk htk).trans (Qx.line_up s (H0 ++ Qx.lines (l.take j)) h))
   have HAL := Lib.hid (below_allocs hB (.cells #[.int .i64 s.by_, .bool s.down] 70))
   have hj0 : (0 : Int) ≤ (j : Int) := by omega
   have hj1 : (j : Int) < (n : Int) := by omega
   generalize Tx.mk (H0 ++ Qx.lines (l.take j)) = M at *
   generalize Qx.word s.by_ = X at *
   generalize s.by_ = sb at *
   generalize s.down = sd at *
   clear hc1 hs hB htk
   rw [ha1]
   cases sd
   ·have HNX := Lib.hid (HUP.out rfl)
    go_wp2_with (go_at_call 35; (with_reducible refine (HSW.out _).mono ?_); rintro e w6 ⟨rfl, hw6⟩; subst w6)
    rw [← ha1]
    go_roundg (n - (j + 1))
    case rel => exact ⟨j + 1, by omega, rfl, by go_num, by rw [HNX.out], HAL.out⟩
    case measure => omega
   ·have HNX := Lib.hid (HDN.out rfl)
    go_wp2_with (go_at_call 35; (with_reducible refine (HSW.out _).mono ?_); rintro e w6 ⟨rfl, hw6⟩; subst w6)
    rw [← ha1]
    go_roundg (n - (j + 1))
    case rel => exact ⟨j + 1, by omega, rfl, by go_num, by rw [HNX.out], HAL.out⟩
    case measure => omega
  ·obtain rfl : j = n := by omega
   rw [← HN.out, List.take_length] at hlp hms0 ⊢
   obtain ⟨t0, t1, t2, t3, t4, t5, t6, t7, t8⟩ := (HQ3.out.keep hB).nine
   clear t0 t1 t2 t3 t4 t5 t6
   have HMZ := Lib.hid (HMZ0.out (H0 ++ Qx.lines l ++ FT))
   have HMN := Lib.hid (HMN0.out (H0 ++ Qx.lines l ++ FT))
   by_cases hf0 : f = 0
   ·have hLF := Lib.hid (HFZ.out (H0 ++ Qx.lines l) hf0)
    rw [hLF.out] at HMZ HMN
    subst hf0
    generalize Tx.mk (H0 ++ Qx.lines l) = M at *
    by_cases hm0 : m = 0
    ·have hLM := Lib.hid (HMZ.out hm0)
     subst hm0
     go_wp2_with fail
     go_ret2
     exact ⟨by rw [HTXT.out, hLM.out]; rfl, below_up HB1.out (below_up HB3.out hB)⟩
    ·have hLM := Lib.hid (HMN.out hm0)
     have hmp : (0 : Int) < m := by omega
     have HIM := Lib.hid (fun V => toldC m (by omega) V)
     have hms := Cx.num_size (n := m) (by omega)
     generalize Cx.num m = NM at *
     go_wp2_with (go_at_call 36; (with_reducible refine (HIM.out _).mono ?_); rintro e w10 ⟨rfl, hB10⟩)
     go_ret2
     exact ⟨by rw [HTXT.out, hLM.out]; rfl, below_up HB1.out (below_up HB3.out (below_up hB hB10))⟩
   ·have hLF := Lib.hid (HFN.out (H0 ++ Qx.lines l) hf0)
    rw [hLF.out] at HMZ HMN
    have hfp : (0 : Int) < f := by omega
    have HIF := Lib.hid (fun V => toldC f (by omega) V)
    have hfs := Cx.num_size (n := f) (by omega)
    generalize Cx.num f = NF at *
    generalize Tx.mk (H0 ++ Qx.lines l) = M at *
    go_upto_region 13 with (go_at_call 36; (with_reducible refine (HIF.out _).mono ?_); rintro e w7 ⟨rfl, hB7⟩; have hB := below_up hB hB7; obtain ⟨t0, t1, t2, t3, t4, t5, t6, t7, t8⟩ := (HQ3.out.keep hB).nine)
    clear t0 t1 t2 t3 t4 t5 t6
    by_cases hm0 : m = 0
    ·have hLM := Lib.hid (HMZ.out hm0)
     subst hm0
     go_wp2_with fail
     go_ret2
     exact ⟨by rw [HTXT.out, hLM.out]; rfl, below_up HB1.out (below_up HB3.out hB)⟩
    ·have hLM := Lib.hid (HMN.out hm0)
     have hmp : (0 : Int) < m := by omega
     have HIM := Lib.hid (fun V => toldC m (by omega) V)
     have hms := Cx.num_size (n := m) (by omega)
     generalize Cx.num m = NM at *
     go_wp2_with (go_at_call 36; (with_reducible refine (HIM.out _).mono ?_); rintro e w10 ⟨rfl, hB10⟩)
     go_ret2
     exact ⟨by rw [HTXT.out, hLM.out]; rfl, below_up HB1.out (below_up HB3.out (below_up hB hB10))⟩
theorem findQuestions_walk (c : Cnd) (l : List Ak.Srt) (sa : Option Addr) (sc : Nat) (f m : Int) (w : World) (hc : c.In w) (hG : c.Fits) (hr : RowE Ak.eS w sa l) (hsc : l.length ≤ sc) (hsm : sc ≤ 9223372036854775807) (ht : Tx.Tab w) (hmx : Mx w) :
  Calls Tryz.prog 4 #[.agg #[.int .i64 c.op, .slice c.ka c.kn c.kc, .string c.text, .int .i64 c.low, .int .i64 c.high, .slice c.aa c.an c.ac, .slice sa l.length sc, .int .i64 f, .int .i64 m]] w fun e w' => e = .returned (.bool true) ∧ Below w.heap.size w w' := by
 obtain ⟨W1, hW1, hQ, hz1, hB1⟩ := box w #[.int .i64 c.op, .slice c.ka c.kn c.kc, .string c.text, .int .i64 c.low, .int .i64 c.high, .slice c.aa c.an c.ac, .slice sa l.length sc, .int .i64 f, .int .i64 m] 33
 have HW1 := Lib.hid hW1
 obtain ⟨q0, q1, q2, q3, q4, q5, q6, q7, q8⟩ := hQ.nine
 have HQ := Lib.hid hQ; have HB1 := Lib.hid hB1
 have HT1 := Lib.hid (questionText_is c l sa sc f m W1 (Cnd.In.keep hB1 hc) hG (hr.keep hB1) hsc hsm (Tx.tab_below ht hB1) (hmx.below hB1))
 have HQE := Lib.hid (fun W2 (hb : Below W1.heap.size W1 W2) => questionError_is c l sa sc f m W2 (Cnd.In.keep hb (Cnd.In.keep hB1 hc)) hG ((hr.keep hB1).keep hb) hsc hsm)
 have HCQ := Lib.hid (fun W2 (hb : Below W1.heap.size W1 W2) => checkQ_is c l sa sc f m W2 (Cnd.In.keep hb (Cnd.In.keep hB1 hc)) hG ((hr.keep hB1).keep hb) hsc hsm)
 have HCT := Lib.hid (fun W2 (hb : Below W1.heap.size W1 W2) => condTextLaw_is c W2 (Cnd.In.keep hb (Cnd.In.keep hB1 hc)) hG ((hmx.below hB1).below hb))
 by_cases h0 : Ak.qErr c.err l f m = 0
 ·obtain ⟨hce, hl5, hby, hf, hm⟩ := Qx.ok_parts h0
  have hg := Cnd.good_of hc hce
  have hcn := Cx.cnt_le hc hce
  have HQS := Lib.hid (fun W2 (hb : Below W1.heap.size W1 W2) => questionStr_is c l sa sc f m W2 (Cnd.In.keep hb (Cnd.In.keep hB1 hc)) ((hr.keep hB1).keep hb) hg hcn hl5 hby hf hm ((hmx.below hB1).below hb))
  have hor := Cx.txt_err hg
  have hts : (Tx.mk (Qx.text c l f m)).size ≤ 60000 := by
   have h1 := Cx.txt_len c hg
   have h2 := Qx.lines_len l
   have h3 := Qx.fromT_len hf
   have h4 := Qx.mostT_len hm
   rw [Tx.mk_size]; unfold Qx.text Qx.head
   simp only [List.length_append, List.length_cons, List.length_nil]; omega
  rw [h0] at HQE HCQ
  have HTA := Lib.hid (Qx.top_ok h0)
  have HTF := Lib.hid (Qx.top_form h0)
  have HCA := Lib.hid (Cx.top_ok hce)
  have HCF := Lib.hid (Cx.top_form hce)
  clear hW1 hQ hB1 hc hG hr ht hmx hg hcn hce h0 hby hl5 hf hm
  rcases hor with he | he
  ·rw [HTA.out he] at HT1
   rw [HCA.out he] at HCT
   rw [he] at HQS
   rw [show ((0 : Int) == 0) = true from rfl] at HQS
   generalize Tx.mk (Qx.text c l f m) = TT at *
   generalize Tx.mk (Cx.txt c).1 = CT at *
   clear HTA HTF HCA HCF he
   go_enter Tryz.func4, Tryz.ntmps4
   go_wp2_with fail
   rw [HW1.out]
   go_wp2_with (first | (go_at_call 10; refine HT1.out.mono ?_; rintro e w2 ⟨rfl, hB2⟩; have HB2 := Lib.hid hB2; obtain ⟨r0, r1, r2, r3, r4, r5, r6, r7, r8⟩ := (HQ.out.keep hB2).nine) | (go_at_call 11; refine (HQE.out _ HB2.out).mono ?_; rintro e w3 ⟨rfl, hB3⟩; have HB3 := Lib.hid (below_up HB2.out hB3); obtain ⟨s0, s1, s2, s3, s4, s5, s6, s7, s8⟩ := (HQ.out.keep HB3.out).nine) | (go_at_call 12; refine (HCQ.out _ HB3.out).mono ?_; rintro e w4 ⟨rfl, hB4⟩; have HB4 := Lib.hid (below_up HB3.out hB4); obtain ⟨t0, t1, t2, t3, t4, t5, t6, t7, t8⟩ := (HQ.out.keep HB4.out).nine) | (go_at_call 7; refine (HCT.out _ HB4.out).mono ?_; rintro e w5 ⟨rfl, hB5⟩; have HB5 := Lib.hid (below_up HB4.out hB5); obtain ⟨v0, v1, v2, v3, v4, v5, v6, v7, v8⟩ := (HQ.out.keep HB5.out).nine) | (go_at_call 13; refine (HQS.out _ HB5.out).mono ?_; rintro e w6 ⟨rfl, hB6⟩))
   go_ret
   exact ⟨rfl, below_up HB1.out (below_up HB5.out hB6)⟩
  ·rw [HTF.out (by rw [he]; decide)] at HT1
   rw [HCF.out (by rw [he]; decide)] at HCT
   clear HTA HTF HCA HCF he HQS
   go_enter Tryz.func4, Tryz.ntmps4
   go_wp2_with fail
   rw [HW1.out]
   go_wp2_with (first | (go_at_call 10; refine HT1.out.mono ?_; rintro e w2 ⟨rfl, hB2⟩; have HB2 := Lib.hid hB2; obtain ⟨r0, r1, r2, r3, r4, r5, r6, r7, r8⟩ := (HQ.out.keep hB2).nine) | (go_at_call 11; refine (HQE.out _ HB2.out).mono ?_; rintro e w3 ⟨rfl, hB3⟩; have HB3 := Lib.hid (below_up HB2.out hB3); obtain ⟨s0, s1, s2, s3, s4, s5, s6, s7, s8⟩ := (HQ.out.keep HB3.out).nine) | (go_at_call 12; refine (HCQ.out _ HB3.out).mono ?_; rintro e w4 ⟨rfl, hB4⟩; have HB4 := Lib.hid (below_up HB3.out hB4); obtain ⟨t0, t1, t2, t3, t4, t5, t6, t7, t8⟩ := (HQ.out.keep HB4.out).nine) | (go_at_call 7; refine (HCT.out _ HB4.out).mono ?_; rintro e w5 ⟨rfl, hB5⟩; have HB5 := Lib.hid (below_up HB4.out hB5); obtain ⟨v0, v1, v2, v3, v4, v5, v6, v7, v8⟩ := (HQ.out.keep HB5.out).nine))
   go_ret
   exact ⟨rfl, below_up HB1.out HB5.out⟩
 ·rw [Qx.top_err h0] at HT1
  generalize Ak.qErr c.err l f m = q at *
  have hq1 : (q == 0) = false := by simpa using h0
  have hq2 : (q == q) = true := by simp
  have hq3 : (q != q) = false := by simp
  clear hW1 hQ hB1 hc hG hr ht hmx HCT h0
  go_enter Tryz.func4, Tryz.ntmps4
  go_wp2_with fail
  rw [HW1.out]
  go_wp2_with (first | (go_at_call 10; refine HT1.out.mono ?_; rintro e w2 ⟨rfl, hB2⟩; have HB2 := Lib.hid hB2; obtain ⟨r0, r1, r2, r3, r4, r5, r6, r7, r8⟩ := (HQ.out.keep hB2).nine) | (go_at_call 11; refine (HQE.out _ HB2.out).mono ?_; rintro e w3 ⟨rfl, hB3⟩; have HB3 := Lib.hid (below_up HB2.out hB3); obtain ⟨s0, s1, s2, s3, s4, s5, s6, s7, s8⟩ := (HQ.out.keep HB3.out).nine) | (go_at_call 12; refine (HCQ.out _ HB3.out).mono ?_; rintro e w4 ⟨rfl, hB4⟩; have HB4 := Lib.hid (below_up HB3.out hB4); obtain ⟨t0, t1, t2, t3, t4, t5, t6, t7, t8⟩ := (HQ.out.keep HB4.out).nine))
  go_ret
  exact ⟨rfl, below_up HB1.out HB4.out⟩
end Go.Proofs.YtimjmjmpaicdbaaGreatDoor

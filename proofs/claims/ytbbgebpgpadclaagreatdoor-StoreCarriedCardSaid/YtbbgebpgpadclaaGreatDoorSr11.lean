/- Parts of the proof, no condition: StRpV. -/
import Derived.Test.YtbbgebpgpadclaaGreatDoorSr9
import Derived.Test.YtbbgebpgpadclaaGreatDoorSr10
set_option maxRecDepth 100000
set_option maxHeartbeats 16000000
set_option linter.unusedSimpArgs false
set_option linter.unusedVariables false
namespace Go.Proofs.YtbbgebpgpadclaaGreatDoor
open Go.RowKit Go.Sort Go.Shelf Go.Maps
def ReadPost (w : World) (q : Int) (t : Sto) (e : Ending) (w' : World) : Prop := ∃ a' : StA, e = .returned (.tuple #[.agg #[.int .i64 t.least, .int .i64 t.wait, .slice a'.ta t.tiers.length a'.tc, .slice a'.fa t.files.length a'.fc, .slice a'.ca t.copies.length a'.cc, .slice a'.ha t.held.length a'.hc, .slice a'.ba t.bin.length a'.bc], .int .i64 q]) ∧ StIn w' t a' ∧ Below w.heap.size w w'
theorem readS_long (x : List UInt8) (w : World) (hx : 1000000 < x.length) (hs : x.length ≤ 9223372036854775807) : Calls Tryz.prog 5 #[.string (Tx.mk x)] w (ReadPost w 4 ⟨0, 0, [], [], [], [], []⟩) := by
 obtain ⟨W1, hW1, hX1, hz1, hB1⟩ := box w #[.int .i64 0, .int .i64 0, .slice none 0 0, .slice none 0 0, .slice none 0 0, .slice none 0 0, .slice none 0 0] 28
 have HX1 := Lib.hid hX1; have HB1 := Lib.hid hB1; have HW1 := Lib.hid hW1
 go_enter Tryz.func5, Tryz.ntmps5
 go_upto_region 1 with fail
 go_wp2_with (refine wpList_store_row rfl 28 _ _ rfl w.heap.size #[.int .i64 0, .int .i64 0, .slice none 0 0, .slice none 0 0, .slice none 0 0, .slice none 0 0, .slice none 0 0] rfl rfl 28 _ (HX1.out) infoSto rfl (by simp [Value.oneCell']) ?_)
 obtain ⟨g0, g1, g2, g3, g4, g5, g6⟩ := (Blk.setRowAt (HX1.out) #[.int .i64 0, .int .i64 0, .slice none 0 0, .slice none 0 0, .slice none 0 0, .slice none 0 0, .slice none 0 0]).seven
 refine bodyPost_ret (v := .tuple #[.agg #[.int .i64 0, .int .i64 0, .slice none 0 0, .slice none 0 0, .slice none 0 0, .slice none 0 0, .slice none 0 0], .int .i64 (4)]) (by simp [results, Tryz.results5, go_sem, g0, g1, g2, g3, g4, g5, g6]) rfl ⟨StA.zero, rfl, StIn.zero _, below_setRow (HB1.out) (by omega) _⟩
structure RdSt (w W : World) (t : List UInt8) (s : Sto) (b : StA) : Prop where
 res : Blk W w.heap.size #[.int .i64 0, .int .i64 0, .slice none 0 0, .slice none 0 0, .slice none 0 0, .slice none 0 0, .slice none 0 0] 28
 io : StIO W (w.heap.size + 1) s b
 ct : 2 * s.tiers.length + t.length ≤ 1000000 ∧ 2 * s.files.length + t.length ≤ 1000000 ∧ 2 * s.copies.length + t.length ≤ 1000000 ∧ 2 * s.held.length + t.length ≤ 1000000 ∧ 2 * s.bin.length + t.length ≤ 1000000
 sz : StSz s
 bw : Below w.heap.size w W
theorem RdSt.bw' {w W : World} {t : List UInt8} {s : Sto} {b : StA} (h : RdSt w W t s b) : Below w.heap.size w W := h.bw
theorem St.ent_ne {l : List UInt8} {e : St.Ent} (h : St.ent (Pr.spl 32 l) = some e) : l ≠ [] := by
 rintro rfl
 have h0 : St.ent (Pr.spl 32 []) = none := by decide
 rw [h0] at h; cases h
theorem StIO.own {W : World} {sb : Nat} {s : Sto} {b : StA} (h : StIO W sb s b) : StOwn W (sb + 1) s b := ⟨.of_own h.ti, .of_own h.fi, .of_own h.co, .of_own h.he, .of_own h.bi⟩
theorem StrRow.rowE {w : World} {g : Nat} {R : List (List UInt8)} (h : StrRow w g R) : RowE St.eS w (some ⟨g, 0, none⟩) (R.map Tx.mk) := by
 intro _
 refine ⟨g, 0, rfl, h.1, fun i x hi j v hv => ?_⟩
 rcases j with _ | j
 ·rw [List.getElem?_map] at hi
  cases hx : R[i]? with
  | none => rw [hx] at hi; cases hi
  | some y =>
    rw [hx] at hi
    cases hi
    have := h.2 i (List.getElem?_eq_some_iff.1 hx).1
    rw [List.getD_eq_getElem?_getD, hx] at this
    simp [St.eS] at hv
    subst hv
    simpa [St.eS] using this
 ·simp [St.eS] at hv
theorem wordOk_first {k x : List UInt8} {R R' : List (List UInt8)} {bad' : Bool} (h : WordOk (k :: R) false x R' bad') : x = k ∧ ((bad' = false ∧ R' = R) ∨ (bad' = true ∧ k = [])) := by
 rcases h with ⟨_, h2, h3⟩ | ⟨h1, h2, h3⟩
 ·cases h2; exact ⟨rfl, .inl ⟨h3, rfl⟩⟩
 ·have := h3 k R rfl; subst this; exact ⟨h2, .inr ⟨h1, rfl⟩⟩
theorem St.rdX_bad {last n : Nat} {s : Sto} {t l r k : List UInt8} {R : List (List UInt8)} (h : Pr.cut1 10 t = some (l, r)) (hk : Pr.spl 32 l = k :: R) (hn : St.secW k = n) (hb : n + 1 < last ∨ ¬ (n = 0 ↔ last = 0) ∨ St.entK n R = none) : St.rdX last s t = none := by
 rw [St.rdX_next h, hk]
 show (match St.entK (St.secW k) R with | none => none | some e => _) = _
 rw [hn]
 cases he : St.entK n R with
 | none => rfl
 | some e =>
   have hs := St.ent_sec he
   simp only
   rw [if_pos]
   rw [hs]
   rcases hb with hb | hb | hb
   ·exact .inl hb
   ·right; intro h2; apply hb; constructor
    ·intro h3; exact h2.1 (by omega)
    ·intro h3; have := h2.2 h3; omega
   ·rw [he] at hb; cases hb
theorem St.rdX_good {last n : Nat} {s : Sto} {t l r k : List UInt8} {R : List (List UInt8)} {E : St.Ent} (h : Pr.cut1 10 t = some (l, r)) (hk : Pr.spl 32 l = k :: R) (hn : St.secW k = n) (h1 : ¬ n + 1 < last) (h2 : n = 0 ↔ last = 0) (he : St.entK n R = some E) : St.rdX last s t = St.rdX (n + 1) (E.put s) r := by
 have hs := St.ent_sec he
 rw [St.rdX_next h, hk]
 show (match St.entK (St.secW k) R with | none => none | some e => _) = _
 rw [hn, he]
 simp only
 rw [if_neg, hs]
 rw [hs]
 rintro (h3 | h3)
 ·exact h1 h3
 ·apply h3; constructor
  ·intro h4; exact h2.1 (by omega)
  ·intro h4; have := h2.2 h4; omega
theorem St.entK_six (R : List (List UInt8)) : St.entK 6 R = none := rfl
theorem St.secW_le (k : List UInt8) : St.secW k ≤ 6 := by
 unfold St.secW
 repeat' split
 all_goals decide
def St.outE (Z : Option Sto) : Int × Sto := match Z with
 | none => (8, Sto.zero)
 | some s => if St.err s = 0 then (0, s) else (St.err s, Sto.zero)
theorem readS_short (x : List UInt8) (w : World) (hm : Mx w) (hx : x.length ≤ 1000000) : Calls Tryz.prog 5 #[.string (Tx.mk x)] w (ReadPost w (St.readE x).1 (St.readE x).2) := by
 obtain ⟨W1, hW1, hX1, hz1, hB1⟩ := box w #[.int .i64 0, .int .i64 0, .slice none 0 0, .slice none 0 0, .slice none 0 0, .slice none 0 0, .slice none 0 0] 28
 obtain ⟨W2, hW2, hX2, hz2, hB2⟩ := box W1 #[.int .i64 0, .int .i64 0, .slice none 0 0, .slice none 0 0, .slice none 0 0, .slice none 0 0, .slice none 0 0] 28
 have HW1 := Lib.hid hW1; have HW2 := Lib.hid hW2; have HZ1 := Lib.hid hz1
 rw [hz1] at hX2
 have hI0 : StIO W2 (w.heap.size + 1) Sto.zero StA.zero := ⟨hX2, ⟨by simp [St.eT, Enc.flat, Sto.zero], .inl ⟨rfl, rfl⟩⟩, ⟨by simp [Enc.flat, Sto.zero], .inl ⟨rfl, rfl⟩⟩, ⟨by simp [Enc.flat, Sto.zero], .inl ⟨rfl, rfl⟩⟩, ⟨by simp [Enc.flat, Sto.zero], .inl ⟨rfl, rfl⟩⟩, ⟨by simp [Enc.flat, Sto.zero], .inl ⟨rfl, rfl⟩⟩⟩
 have HST : Hid (RdSt w W2 x Sto.zero StA.zero) := Lib.hid ⟨hX1.keep hB2, hI0, by simp [Sto.zero]; omega, StIn.sz (StIn.zero w), below_up hB1 hB2⟩
 have HMX := Lib.hid hm
 have HXL := Lib.hid hx
 obtain ⟨Z, hZ⟩ : ∃ Z, St.rdX 0 Sto.zero x = Z := ⟨_, rfl⟩
 have hRE : St.readE x = St.outE Z := by rw [← hZ]; unfold St.readE St.outE; rw [if_neg (by omega)]; rfl
 obtain ⟨eq, eT, hqt⟩ : ∃ q T, St.readE x = (q, T) := ⟨_, _, rfl⟩
 rw [hqt] at hRE ⊢
 simp only
 have HRE := Lib.hid hRE
 clear hRE hqt
 have HZ := Lib.hid hZ
 clear hX1 hX2 hI0 hz1 hz2 hB1 hB2 hW1 hW2 hm hZ
 have hx2 : ¬ 1000000 < x.length := by omega
 clear hx
 go_enter Tryz.func5, Tryz.ntmps5
 go_upto_region 4 with fail
 rw [HW1.out]
 go_wp2_with fail
 rw [HW2.out]
 go_wp2_with fail
 go_loopg [0, 5] x.length (fun gk s0 s5 wr => ∃ (t : List UInt8) (last : Nat) (s : Sto) (b : StA), gk = t.length ∧ s0 = .string (Tx.mk t) ∧ s5 = .int .i64 ((last : Int) - 1) ∧ last ≤ 6 ∧ RdSt w wr t s b ∧ St.rdX last s t = Z)
 case atStart => exact ⟨x, 0, Sto.zero, StA.zero, rfl, rfl, rfl, by omega, HST.out, HZ.out⟩
 case round =>
  obtain ⟨t, last, s, b, rfl, rfl, rfl, hl6, hS, hR⟩ := hrel
  have HS := Lib.hid hS; have HR := Lib.hid hR
  clear hS hR
  by_cases h0 : t = []
  ·subst h0
   have hend := HR.out
   rw [St.rdX_nil] at hend
   have HEND := Lib.hid hend
   have hres := HS.out.res
   have hbb := HS.out.bw
   clear hend
   by_cases h3 : last = 0
   ·subst h3
    have g1 : (((0 : Nat)) : Int) - 1 < 0 := by omega
    have hE : (eq, eT) = ((8 : Int), Sto.zero) := by rw [HRE.out, ← HEND.out, if_pos rfl]; rfl
    obtain ⟨rfl, rfl⟩ := Prod.mk.inj hE
    clear hE
    go_wp2_with (refine wpList_store_row rfl 28 _ _ rfl w.heap.size #[.int .i64 0, .int .i64 0, .slice none 0 0, .slice none 0 0, .slice none 0 0, .slice none 0 0, .slice none 0 0] rfl rfl 28 _ (hres) infoSto rfl (by simp [Value.oneCell']) ?_)
    obtain ⟨g0, g1, g2, g3, g4, g5, g6⟩ := (Blk.setRowAt (hres) #[.int .i64 0, .int .i64 0, .slice none 0 0, .slice none 0 0, .slice none 0 0, .slice none 0 0, .slice none 0 0]).seven
    refine bodyPost_ret (v := .tuple #[.agg #[.int .i64 0, .int .i64 0, .slice none 0 0, .slice none 0 0, .slice none 0 0, .slice none 0 0, .slice none 0 0], .int .i64 (8)]) (by simp [results, Tryz.results5, go_sem, g0, g1, g2, g3, g4, g5, g6]) rfl ⟨StA.zero, rfl, StIn.zero _, below_setRow (hbb) (by omega) _⟩
   ·have g1 : ¬ (last : Int) - 1 < 0 := by omega
    have hZs : Z = some s := by rw [← HEND.out, if_neg h3]
    have hI := HS.out.io.own.in_ HS.out.sz
    have HCK := Lib.hid (check_is s b wr hI)
    obtain ⟨q0, q1, q2, q3, q4, q5, q6⟩ := HS.out.io.blk.seven
    by_cases he : St.err s = 0
    ·have hE : (eq, eT) = ((0 : Int), s) := by rw [HRE.out, hZs]; unfold St.outE; simp only; rw [if_pos he]
     obtain ⟨rfl, rfl⟩ := Prod.mk.inj hE
     rw [he] at HCK
     obtain ⟨_, y1, y2, y3, y4, y5⟩ := St.sizes_iff.1 (St.err_iff.1 he).sizes
     have HCP := Lib.hid (fun V (hv : Below wr.heap.size wr V) => copyStore_is eT b V (hI.keep hv) ⟨y1, y2, y3, y4, y5⟩)
     unfold CpyPost at HCP
     have HI := Lib.hid hI
     clear hE he hI hZs y1 y2 y3 y4 y5 h3
     go_upto_region 20 with (go_at_call 17; (with_reducible refine HCK.out.mono ?_); rintro e w8 ⟨rfl, hB8⟩)
     obtain ⟨q0, q1, q2, q3, q4, q5, q6⟩ := (HS.out.io.blk.keep hB8).seven
     have hres8 := hres.keep hB8
     have hbb8 := below_up hbb hB8
     go_wp2_with (first
      | (go_at_call 18; (with_reducible refine (HCP.out _ hB8).mono ?_); rintro e w9 ⟨a', rfl, ho, hB9⟩)
      | (refine wpList_store_row rfl 28 _ _ rfl w.heap.size #[.int .i64 eT.least, .int .i64 eT.wait, .slice a'.ta eT.tiers.length a'.tc, .slice a'.fa eT.files.length a'.fc, .slice a'.ca eT.copies.length a'.cc, .slice a'.ha eT.held.length a'.hc, .slice a'.ba eT.bin.length a'.bc] rfl rfl 28 _ (hres8.keep hB9) infoSto rfl (by simp [Value.oneCell']) ?_))
     have hB89 := below_up hB8 hB9
     have hz9 : w.heap.size < w8.heap.size := by have := (Array.getElem?_eq_some_iff.1 hres8).1; omega
     have hoI := (ho.setRow (b := w.heap.size) hz9 #[.int .i64 eT.least, .int .i64 eT.wait, .slice a'.ta eT.tiers.length a'.tc, .slice a'.fa eT.files.length a'.fc, .slice a'.ca eT.copies.length a'.cc, .slice a'.ha eT.held.length a'.hc, .slice a'.ba eT.bin.length a'.bc]).in_ HS.out.sz
     have HRR := Lib.hid (below_setRow (below_up hbb8 hB9) (Nat.le_refl w.heap.size) #[.int .i64 eT.least, .int .i64 eT.wait, .slice a'.ta eT.tiers.length a'.tc, .slice a'.fa eT.files.length a'.fc, .slice a'.ca eT.copies.length a'.cc, .slice a'.ha eT.held.length a'.hc, .slice a'.ba eT.bin.length a'.bc])
     obtain ⟨g0, g1, g2, g3, g4, g5, g6⟩ := (Blk.setRowAt (hres8.keep hB9) #[.int .i64 eT.least, .int .i64 eT.wait, .slice a'.ta eT.tiers.length a'.tc, .slice a'.fa eT.files.length a'.fc, .slice a'.ca eT.copies.length a'.cc, .slice a'.ha eT.held.length a'.hc, .slice a'.ba eT.bin.length a'.bc]).seven
     refine bodyPost_ret (v := .tuple #[.agg #[.int .i64 eT.least, .int .i64 eT.wait, .slice a'.ta eT.tiers.length a'.tc, .slice a'.fa eT.files.length a'.fc, .slice a'.ca eT.copies.length a'.cc, .slice a'.ha eT.held.length a'.hc, .slice a'.ba eT.bin.length a'.bc], .int .i64 0]) (by simp [results, Tryz.results5, go_sem, g0, g1, g2, g3, g4, g5, g6]) rfl ⟨a', rfl, hoI, HRR.out⟩
    ·have hE : (eq, eT) = (St.err s, Sto.zero) := by rw [HRE.out, hZs]; unfold St.outE; simp only; rw [if_neg he]
     obtain ⟨rfl, rfl⟩ := Prod.mk.inj hE
     have hq1 : (St.err s != 0) = true := by simpa using he
     generalize St.err s = q at *
     have HI := Lib.hid hI
     clear hE hI hZs h3 he
     go_upto_region 19 with (go_at_call 17; (with_reducible refine HCK.out.mono ?_); rintro e w8 ⟨rfl, hB8⟩)
     go_wp2_with (refine wpList_store_row rfl 28 _ _ rfl w.heap.size #[.int .i64 0, .int .i64 0, .slice none 0 0, .slice none 0 0, .slice none 0 0, .slice none 0 0, .slice none 0 0] rfl rfl 28 _ ((hres.keep hB8)) infoSto rfl (by simp [Value.oneCell']) ?_)
     obtain ⟨g0, g1, g2, g3, g4, g5, g6⟩ := (Blk.setRowAt ((hres.keep hB8)) #[.int .i64 0, .int .i64 0, .slice none 0 0, .slice none 0 0, .slice none 0 0, .slice none 0 0, .slice none 0 0]).seven
     refine bodyPost_ret (v := .tuple #[.agg #[.int .i64 0, .int .i64 0, .slice none 0 0, .slice none 0 0, .slice none 0 0, .slice none 0 0, .slice none 0 0], .int .i64 (q)]) (by simp [results, Tryz.results5, go_sem, g0, g1, g2, g3, g4, g5, g6]) rfl ⟨StA.zero, rfl, StIn.zero _, below_setRow ((below_up hbb hB8)) (by omega) _⟩
  ·have ht0 := mkEmpty_no t h0
   have ht1 : t.isEmpty = false := by cases t with | nil => exact absurd rfl h0 | cons a r => rfl
   have htl : t.length ≤ 1000000 := by have := HS.out.ct; omega
   obtain ⟨l, r, ok, hc⟩ : ∃ l r ok, Lib.cut t [10] = (l, r, ok) := ⟨_, _, _, rfl⟩
   have hll := (cut_len t [10]).1
   rw [hc] at hll
   obtain ⟨k, R, hk⟩ : ∃ k R, Pr.spl 32 l = k :: R := by
    cases h : Pr.spl 32 l with
    | nil => exact absurd h (Pr.spl_ne 32 l)
    | cons k R => exact ⟨k, R, rfl⟩
   have hRl : ∀ y ∈ R, y.length ≤ 1000000000000 := fun y hy => by
    have := Pr.spl_mem_le 32 l y (by rw [hk]; exact List.mem_cons_of_mem _ hy)
    simp only at hll
    omega
   have HC := Lib.hid (cut_is t [10] (by omega) wr (HMX.out.below HS.out.bw'))
   rw [hc] at HC
   have HSP := Lib.hid (fun V (hv : Below wr.heap.size wr V) => split_is l 32 (by simp only at hll; omega) V ((HMX.out.below HS.out.bw').below hv))
   rw [hk] at HSP
   have HLL : Hid (l.length ≤ 1000000) := Lib.hid (by simp only at hll; omega)
   have HCU := Lib.hid hc; have HKK := Lib.hid hk; have HRL := Lib.hid hRl; have HT0 := Lib.hid h0
   clear hc hk hRl hll h0
   go_upto_region 8 with (first
    | (go_at_call 11; refine HC.out.mono ?_; rintro e w1 ⟨rfl, hB3⟩)
    | (go_at_call 12; refine (HSP.out w1 hB3).mono ?_; rintro e w2 ⟨rfl, hrow, hB4, hz4⟩))
   obtain ⟨W3, hW3, hX3, hz3, hB5⟩ := box w2 #[.slice (some ⟨w1.heap.size, 0, none⟩) (R.length + 1) (R.length + 1), .bool false] 44
   rw [hW3]
   have hRn : R.length + 1 ≤ 1000001 := by have := Pr.spl_len_le 32 l; rw [HKK.out] at this; simp only [List.length_cons] at this; have := HLL.out; omega
   have hz1 := hB3.size
   have hRd : RdIn W3 w1.heap.size (w1.heap.size + 2) (w1.heap.size + 1) (k :: R) false := by
    rw [hz4] at hX3
    exact ⟨_, _, hX3, (hrow.keep hB5).rowE, by simp only [List.length_cons]; omega, by omega, fun b o e => by cases e; omega⟩
   have HB5 := Lib.hid (below_up hB3 (below_up hB4 hB5))
   have HSI := Lib.hid hz1
   have HZ3 : Hid (W3.heap.size = w1.heap.size + 2) := Lib.hid (by omega)
   obtain ⟨K, hK⟩ : ∃ K, w1.heap.size = K := ⟨_, rfl⟩
   rw [hK] at HSI HZ3 hRd ⊢
   have HRD := Lib.hid hRd
   clear hB3 hB4 hB5 hz4 hz3 hX3 hrow hW3 hK hRd hz1 hRn HC HSP
   have HWO := Lib.hid (fun V (hv : Below W3.heap.size W3 V) => rdWord_is (k :: R) false K (K + 2) (K + 1) V (HRD.out.keep hv))
   unfold WordPost at HWO
   have HIX : Hid (∀ (y : List UInt8) (V : World) (sa : Option Addr), RowE St.eS V sa (St.six.map Tx.mk) → Calls Tryz.prog 13 #[.slice sa 6 6, .string (Tx.mk y)] V fun e w' => e = .returned (.int .i64 (St.ixW y St.six 0)) ∧ V = w') := Lib.hid (fun y V sa hr => indexStr_is y St.six sa 6 V hr (by decide))
   go_upto_region 9 with (first
    | (go_at_call 14; (with_reducible refine (sections_is _).mono ?_); rintro e w4 ⟨rfl, hsr, hB6⟩)
    | (go_at_call 15; (with_reducible refine (HWO.out _ hB6).mono ?_); rintro e w5 ⟨y, R', bad', hwo, hmem, rfl, hRd2, hG⟩)
    | (go_at_call 13; (with_reducible refine (HIX.out y w5 _ (hsr.offB hG (fun b o e e2 => by cases e; have := HZ3.out; have := Option.some.inj e2; omega))).mono ?_); rintro e w6 ⟨rfl, rfl⟩))
   have hBr : Below wr.heap.size wr w5 := (below_up HB5.out hB6).trans (below_rp hG (by have := HSI.out; omega) (by have := (below_up HB5.out hB6).size; omega))
   have HBR := Lib.hid hBr
   obtain ⟨hyk, hbad⟩ := wordOk_first hwo
   rw [hyk]
   have HK5 : Hid (K + 2 ≤ w5.heap.size) := Lib.hid (by have := HZ3.out; have := hB6.size; have := hG.size; omega)
   have HR5 := Lib.hid hRd2
   have HBAD := Lib.hid hbad
   clear hwo hmem hsr hBr hyk hbad hRd2 hG hB6
   obtain ⟨n, hn⟩ : ∃ n, St.secW k = n := ⟨_, rfl⟩
   have hn6 : n ≤ 6 := by have := St.secW_le k; omega
   have hix : St.ixW k St.six 0 = if n < 6 then ((n : Nat) : Int) else -1 := by rw [St.ix_six, hn]
   have HN := Lib.hid hn
   rw [hix]
   have hres := HS.out.res.keep HBR.out
   have hbb := below_up HS.out.bw HBR.out
   have hcc := HCU.out
   rw [Pr.cut_cut1] at hcc
   clear hix hn
   cases hcut : Pr.cut1 10 t with
   | none =>
     rw [hcut] at hcc
     cases hcc
     generalize (if n < 6 then ((n : Nat) : Int) else -1) = q
     have hE : (eq, eT) = ((8 : Int), Sto.zero) := by rw [HRE.out, ← HR.out, St.rdX_open HT0.out hcut]; rfl
     obtain ⟨rfl, rfl⟩ := Prod.mk.inj hE
     clear hE
     go_wp2_with (refine wpList_store_row rfl 28 _ _ rfl w.heap.size #[.int .i64 0, .int .i64 0, .slice none 0 0, .slice none 0 0, .slice none 0 0, .slice none 0 0, .slice none 0 0] rfl rfl 28 _ (hres) infoSto rfl (by simp [Value.oneCell']) ?_)
     obtain ⟨g0, g1, g2, g3, g4, g5, g6⟩ := (Blk.setRowAt (hres) #[.int .i64 0, .int .i64 0, .slice none 0 0, .slice none 0 0, .slice none 0 0, .slice none 0 0, .slice none 0 0]).seven
     refine bodyPost_ret (v := .tuple #[.agg #[.int .i64 0, .int .i64 0, .slice none 0 0, .slice none 0 0, .slice none 0 0, .slice none 0 0, .slice none 0 0], .int .i64 (8)]) (by simp [results, Tryz.results5, go_sem, g0, g1, g2, g3, g4, g5, g6]) rfl ⟨StA.zero, rfl, StIn.zero _, below_setRow (hbb) (by omega) _⟩
   | some p =>
     rw [hcut] at hcc
     obtain ⟨l, r⟩ := p
     obtain ⟨rfl, h9⟩ := Prod.mk.inj hcc
     obtain ⟨rfl, rfl⟩ := Prod.mk.inj h9
     have HCT := Lib.hid hcut
     clear hcc h9
     clear hcut
     by_cases h6 : n < 6
     ·rw [if_pos h6]
      have g1 : ¬ ((n : Nat) : Int) < 0 := by omega
      have hlr := Pr.cut1_len HCT.out
      have HCL : Hid (St.entK n R ≠ none → r.length + 2 ≤ t.length) := Lib.hid (by
       intro he
       have hl0 : l ≠ [] := by
        rintro rfl
        have := HKK.out
        simp only [Pr.spl] at this
        cases this
        exact absurd (show n = 6 from HN.out.symm) (by omega)
       have := List.length_pos_iff.2 hl0
       rw [hlr]; simp; omega)
      have HPU : Hid (Calls Tryz.prog 16 #[.pointer (some ⟨K + 1, 0, none⟩), .pointer (some ⟨w.heap.size + 1, 0, none⟩), .int .i64 ((n : Nat) : Int)] w5 (PutPost w5 (w.heap.size + 1) (K + 1) s n R)) := by
       have hb5 : bad' = false ∧ R' = R := by
        rcases HBAD.out with h | ⟨_, h⟩
        ·exact h
        ·subst h; exact absurd (show n = 6 from HN.out.symm) (by omega)
       have h5 := HR5.out
       rw [hb5.1, hb5.2] at h5
       have hlt := (Array.getElem?_eq_some_iff.1 HS.out.io.blk).1
       have := HSI.out
       have hct := HS.out.ct
       exact Lib.hid (put_is n h6 s b (w.heap.size + 1) K (K + 2) (K + 1) R w5 h5 (HS.out.io.keep HBR.out) ⟨by omega, by omega⟩ HK5.out ⟨by omega, by omega, by omega, by omega, by omega⟩ HRL.out)
      unfold PutPost at HPU
      clear hlr
      by_cases h1 : n + 1 < last
      ·have g2 : ((n : Nat) : Int) < (last : Int) - 1 := by omega
       have hE : (eq, eT) = ((8 : Int), Sto.zero) := by rw [HRE.out, ← HR.out, St.rdX_bad HCT.out HKK.out HN.out (.inl h1)]; rfl
       obtain ⟨rfl, rfl⟩ := Prod.mk.inj hE
       clear hE
       go_wp2_with (refine wpList_store_row rfl 28 _ _ rfl w.heap.size #[.int .i64 0, .int .i64 0, .slice none 0 0, .slice none 0 0, .slice none 0 0, .slice none 0 0, .slice none 0 0] rfl rfl 28 _ (hres) infoSto rfl (by simp [Value.oneCell']) ?_)
       obtain ⟨g0, g1, g2, g3, g4, g5, g6⟩ := (Blk.setRowAt (hres) #[.int .i64 0, .int .i64 0, .slice none 0 0, .slice none 0 0, .slice none 0 0, .slice none 0 0, .slice none 0 0]).seven
       refine bodyPost_ret (v := .tuple #[.agg #[.int .i64 0, .int .i64 0, .slice none 0 0, .slice none 0 0, .slice none 0 0, .slice none 0 0, .slice none 0 0], .int .i64 (8)]) (by simp [results, Tryz.results5, go_sem, g0, g1, g2, g3, g4, g5, g6]) rfl ⟨StA.zero, rfl, StIn.zero _, below_setRow (hbb) (by omega) _⟩
      ·have g2 : ¬ ((n : Nat) : Int) < (last : Int) - 1 := by omega
       by_cases h2 : n = 0
       ·subst h2
        by_cases h3 : last = 0
        ·subst h3
         rw [show (((0 : Nat)) : Int) = 0 from rfl] at HPU
         go_upto_region 12 with (go_at_call 16; (with_reducible refine HPU.out.mono ?_); rintro e w7 ⟨rfl, hB7, pa, pm, pc, bad9, hb7, hcase⟩)
         obtain ⟨r0, r1⟩ := hb7.two
         have rf := hb7.free
         have hres7 := hres.of_block (hB7.block _ (by omega))
         have hbb7 := below_trS hbb ⟨hB7.os, hB7.tape, hB7.output, hB7.size, fun j hj => hB7.block j (by omega)⟩
         rcases hcase with ⟨rfl, E, b9, hEE, hio⟩ | ⟨rfl, hEE⟩
         ·have HIO := Lib.hid hio
          have HEE := Lib.hid hEE
          clear hres hbb hio hEE hB7
          go_wp2_with fail
          go_roundg r.length
          case rel =>
           have hct := HS.out.ct
           have hpc := St.put_ct s E
           have hle := HCL.out (by rw [HEE.out]; simp)
           refine ⟨r, 1, E.put s, b9, rfl, rfl, by go_num, by omega, ⟨hres7, HIO.out, by omega, St.put_sz HS.out.sz (St.ent_ok HEE.out HRL.out), hbb7⟩, ?_⟩
           rw [← HR.out]
           exact (St.rdX_good HCT.out HKK.out HN.out h1 (by omega) HEE.out).symm
          case measure => have := HCL.out (by rw [HEE.out]; simp); omega
         ·have HEE := Lib.hid hEE
          clear hres hbb hB7 hEE
          have hE : (eq, eT) = ((8 : Int), Sto.zero) := by rw [HRE.out, ← HR.out, St.rdX_bad HCT.out HKK.out HN.out (.inr (.inr HEE.out))]; rfl
          obtain ⟨rfl, rfl⟩ := Prod.mk.inj hE
          clear hE
          go_wp2_with (refine wpList_store_row rfl 28 _ _ rfl w.heap.size #[.int .i64 0, .int .i64 0, .slice none 0 0, .slice none 0 0, .slice none 0 0, .slice none 0 0, .slice none 0 0] rfl rfl 28 _ (hres7) infoSto rfl (by simp [Value.oneCell']) ?_)
          obtain ⟨g0, g1, g2, g3, g4, g5, g6⟩ := (Blk.setRowAt (hres7) #[.int .i64 0, .int .i64 0, .slice none 0 0, .slice none 0 0, .slice none 0 0, .slice none 0 0, .slice none 0 0]).seven
          refine bodyPost_ret (v := .tuple #[.agg #[.int .i64 0, .int .i64 0, .slice none 0 0, .slice none 0 0, .slice none 0 0, .slice none 0 0, .slice none 0 0], .int .i64 (8)]) (by simp [results, Tryz.results5, go_sem, g0, g1, g2, g3, g4, g5, g6]) rfl ⟨StA.zero, rfl, StIn.zero _, below_setRow (hbb7) (by omega) _⟩
        ·have g3 : ¬ (last : Int) - 1 < 0 := by omega
         have hE : (eq, eT) = ((8 : Int), Sto.zero) := by rw [HRE.out, ← HR.out, St.rdX_bad HCT.out HKK.out HN.out (.inr (.inl (fun h => h3 (h.1 rfl))))]; rfl
         obtain ⟨rfl, rfl⟩ := Prod.mk.inj hE
         clear hE
         go_wp2_with (refine wpList_store_row rfl 28 _ _ rfl w.heap.size #[.int .i64 0, .int .i64 0, .slice none 0 0, .slice none 0 0, .slice none 0 0, .slice none 0 0, .slice none 0 0] rfl rfl 28 _ (hres) infoSto rfl (by simp [Value.oneCell']) ?_)
         obtain ⟨g0, g1, g2, g3, g4, g5, g6⟩ := (Blk.setRowAt (hres) #[.int .i64 0, .int .i64 0, .slice none 0 0, .slice none 0 0, .slice none 0 0, .slice none 0 0, .slice none 0 0]).seven
         refine bodyPost_ret (v := .tuple #[.agg #[.int .i64 0, .int .i64 0, .slice none 0 0, .slice none 0 0, .slice none 0 0, .slice none 0 0, .slice none 0 0], .int .i64 (8)]) (by simp [results, Tryz.results5, go_sem, g0, g1, g2, g3, g4, g5, g6]) rfl ⟨StA.zero, rfl, StIn.zero _, below_setRow (hbb) (by omega) _⟩
       ·have g4 : (((n : Nat) : Int) == 0) = false := by simp; omega
        have g5 : ¬ ((n : Nat) : Int) = 0 := by omega
        by_cases h3 : last = 0
        ·subst h3
         have hE : (eq, eT) = ((8 : Int), Sto.zero) := by rw [HRE.out, ← HR.out, St.rdX_bad HCT.out HKK.out HN.out (.inr (.inl (fun h => h2 (h.2 rfl))))]; rfl
         obtain ⟨rfl, rfl⟩ := Prod.mk.inj hE
         clear hE
         go_wp2_with (refine wpList_store_row rfl 28 _ _ rfl w.heap.size #[.int .i64 0, .int .i64 0, .slice none 0 0, .slice none 0 0, .slice none 0 0, .slice none 0 0, .slice none 0 0] rfl rfl 28 _ (hres) infoSto rfl (by simp [Value.oneCell']) ?_)
         obtain ⟨g0, g1, g2, g3, g4, g5, g6⟩ := (Blk.setRowAt (hres) #[.int .i64 0, .int .i64 0, .slice none 0 0, .slice none 0 0, .slice none 0 0, .slice none 0 0, .slice none 0 0]).seven
         refine bodyPost_ret (v := .tuple #[.agg #[.int .i64 0, .int .i64 0, .slice none 0 0, .slice none 0 0, .slice none 0 0, .slice none 0 0, .slice none 0 0], .int .i64 (8)]) (by simp [results, Tryz.results5, go_sem, g0, g1, g2, g3, g4, g5, g6]) rfl ⟨StA.zero, rfl, StIn.zero _, below_setRow (hbb) (by omega) _⟩
        ·have g3 : ¬ (last : Int) - 1 < 0 := by omega
         go_upto_region 12 with (go_at_call 16; (with_reducible refine HPU.out.mono ?_); rintro e w7 ⟨rfl, hB7, pa, pm, pc, bad9, hb7, hcase⟩)
         obtain ⟨r0, r1⟩ := hb7.two
         have rf := hb7.free
         have hres7 := hres.of_block (hB7.block _ (by omega))
         have hbb7 := below_trS hbb ⟨hB7.os, hB7.tape, hB7.output, hB7.size, fun j hj => hB7.block j (by omega)⟩
         rcases hcase with ⟨rfl, E, b9, hEE, hio⟩ | ⟨rfl, hEE⟩
         ·have HIO := Lib.hid hio
          have HEE := Lib.hid hEE
          clear hres hbb hio hEE hB7
          go_wp2_with fail
          go_roundg r.length
          case rel =>
           have hct := HS.out.ct
           have hpc := St.put_ct s E
           have hle := HCL.out (by rw [HEE.out]; simp)
           refine ⟨r, n + 1, E.put s, b9, rfl, rfl, by go_num, by omega, ⟨hres7, HIO.out, by omega, St.put_sz HS.out.sz (St.ent_ok HEE.out HRL.out), hbb7⟩, ?_⟩
           rw [← HR.out]
           exact (St.rdX_good HCT.out HKK.out HN.out h1 (by omega) HEE.out).symm
          case measure => have := HCL.out (by rw [HEE.out]; simp); omega
         ·have HEE := Lib.hid hEE
          clear hres hbb hB7 hEE
          have hE : (eq, eT) = ((8 : Int), Sto.zero) := by rw [HRE.out, ← HR.out, St.rdX_bad HCT.out HKK.out HN.out (.inr (.inr HEE.out))]; rfl
          obtain ⟨rfl, rfl⟩ := Prod.mk.inj hE
          clear hE
          go_wp2_with (refine wpList_store_row rfl 28 _ _ rfl w.heap.size #[.int .i64 0, .int .i64 0, .slice none 0 0, .slice none 0 0, .slice none 0 0, .slice none 0 0, .slice none 0 0] rfl rfl 28 _ (hres7) infoSto rfl (by simp [Value.oneCell']) ?_)
          obtain ⟨g0, g1, g2, g3, g4, g5, g6⟩ := (Blk.setRowAt (hres7) #[.int .i64 0, .int .i64 0, .slice none 0 0, .slice none 0 0, .slice none 0 0, .slice none 0 0, .slice none 0 0]).seven
          refine bodyPost_ret (v := .tuple #[.agg #[.int .i64 0, .int .i64 0, .slice none 0 0, .slice none 0 0, .slice none 0 0, .slice none 0 0, .slice none 0 0], .int .i64 (8)]) (by simp [results, Tryz.results5, go_sem, g0, g1, g2, g3, g4, g5, g6]) rfl ⟨StA.zero, rfl, StIn.zero _, below_setRow (hbb7) (by omega) _⟩
     ·obtain rfl : n = 6 := by omega
      rw [if_neg (by omega)]
      by_cases h1 : (-1 : Int) < (last : Int) - 1
      ·-- St.rdX_bad HCT.out HKK.out HN.out (.inr (.inr (St.entK_six R))): why the lines are none
       have hE : (eq, eT) = ((8 : Int), Sto.zero) := by rw [HRE.out, ← HR.out, St.rdX_bad HCT.out HKK.out HN.out (.inr (.inr (St.entK_six R)))]; rfl
       obtain ⟨rfl, rfl⟩ := Prod.mk.inj hE
       clear hE
       go_wp2_with (refine wpList_store_row rfl 28 _ _ rfl w.heap.size #[.int .i64 0, .int .i64 0, .slice none 0 0, .slice none 0 0, .slice none 0 0, .slice none 0 0, .slice none 0 0] rfl rfl 28 _ (hres) infoSto rfl (by simp [Value.oneCell']) ?_)
       obtain ⟨g0, g1, g2, g3, g4, g5, g6⟩ := (Blk.setRowAt (hres) #[.int .i64 0, .int .i64 0, .slice none 0 0, .slice none 0 0, .slice none 0 0, .slice none 0 0, .slice none 0 0]).seven
       refine bodyPost_ret (v := .tuple #[.agg #[.int .i64 0, .int .i64 0, .slice none 0 0, .slice none 0 0, .slice none 0 0, .slice none 0 0, .slice none 0 0], .int .i64 (8)]) (by simp [results, Tryz.results5, go_sem, g0, g1, g2, g3, g4, g5, g6]) rfl ⟨StA.zero, rfl, StIn.zero _, below_setRow (hbb) (by omega) _⟩
      ·-- St.rdX_bad HCT.out HKK.out HN.out (.inr (.inr (St.entK_six R))): why the lines are none
       have hE : (eq, eT) = ((8 : Int), Sto.zero) := by rw [HRE.out, ← HR.out, St.rdX_bad HCT.out HKK.out HN.out (.inr (.inr (St.entK_six R)))]; rfl
       obtain ⟨rfl, rfl⟩ := Prod.mk.inj hE
       clear hE
       go_wp2_with (refine wpList_store_row rfl 28 _ _ rfl w.heap.size #[.int .i64 0, .int .i64 0, .slice none 0 0, .slice none 0 0, .slice none 0 0, .slice none 0 0, .slice none 0 0] rfl rfl 28 _ (hres) infoSto rfl (by simp [Value.oneCell']) ?_)
       obtain ⟨g0, g1, g2, g3, g4, g5, g6⟩ := (Blk.setRowAt (hres) #[.int .i64 0, .int .i64 0, .slice none 0 0, .slice none 0 0, .slice none 0 0, .slice none 0 0, .slice none 0 0]).seven
       refine bodyPost_ret (v := .tuple #[.agg #[.int .i64 0, .int .i64 0, .slice none 0 0, .slice none 0 0, .slice none 0 0, .slice none 0 0, .slice none 0 0], .int .i64 (8)]) (by simp [results, Tryz.results5, go_sem, g0, g1, g2, g3, g4, g5, g6]) rfl ⟨StA.zero, rfl, StIn.zero _, below_setRow (hbb) (by omega) _⟩
end Go.Proofs.YtbbgebpgpadclaaGreatDoor

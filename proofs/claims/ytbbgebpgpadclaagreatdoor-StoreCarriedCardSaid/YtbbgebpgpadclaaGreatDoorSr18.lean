/- Parts of the proof, no condition: StRrH. -/
import Derived.Test.YtbbgebpgpadclaaGreatDoorSr13
import Derived.Test.YtbbgebpgpadclaaGreatDoorSr14
import Derived.Test.YtbbgebpgpadclaaGreatDoorSr15
import Derived.Test.YtbbgebpgpadclaaGreatDoorSr16
import Derived.Test.YtbbgebpgpadclaaGreatDoorSr17
set_option maxRecDepth 100000
set_option maxHeartbeats 16000000
set_option linter.unusedSimpArgs false
set_option linter.unusedVariables false
namespace Go.Proofs.YtbbgebpgpadclaaGreatDoor
open Go.RowKit Go.Sort Go.Shelf Go.Maps
theorem storeLine_is (l : List UInt8) (s : Sto) (b : StA) (sb : Nat) (w : World) (hm : Mx w) (hS : StIO w sb s b) (hl : l.length ≤ 999999) (hct : s.tiers.length ≤ 900000 ∧ s.files.length ≤ 900000 ∧ s.copies.length ≤ 900000 ∧ s.held.length ≤ 900000 ∧ s.bin.length ≤ 900000) : Calls Tryz.prog 19 #[.pointer (some ⟨sb, 0, none⟩), .string (Tx.mk l)] w (LinePost w sb s b (Pr.spl 32 l)) := by
 obtain ⟨k, R, hk⟩ : ∃ k R, Pr.spl 32 l = k :: R := by
  cases h : Pr.spl 32 l with
  | nil => exact absurd h (Pr.spl_ne 32 l)
  | cons k R => exact ⟨k, R, rfl⟩
 rw [hk]
 by_cases he : [] ∈ k :: R
 ·exact line_empty l (k :: R) s b sb w hm hS hl hk he
 ·by_cases h0 : k = St.kS
  ·subst h0; exact line_store l R s b sb w hm hS hl hk he hct
  ·by_cases h1 : k = St.kT
   ·subst h1; exact line_tier l R s b sb w hm hS hl hk he hct
   ·by_cases h2 : k = St.kF
    ·subst h2; exact line_file l R s b sb w hm hS hl hk he hct
    ·by_cases h3 : k = St.kC
     ·subst h3; exact line_copy l R s b sb w hm hS hl hk he hct
     ·by_cases h4 : k = St.kH
      ·subst h4; exact line_held l R s b sb w hm hS hl hk he hct
      ·by_cases h5 : k = St.kB
       ·subst h5; exact line_bin l R s b sb w hm hS hl hk he hct
       ·exact line_other k (by unfold St.secW; simp [h0, h1, h2, h3, h4, h5]) l R s b sb w hm hS hl hk he hct
def Line2 (w : World) (sb : Nat) (s : Sto) (b : StA) (L : List (List UInt8)) (e : Ending) (w' : World) : Prop :=
 ∃ q : Nat, e = .returned (.int .i64 ((q : Nat) : Int)) ∧ Below sb w w' ∧ ((∃ E b', St.ent L = some E ∧ q = E.sec ∧ StIO w' sb (E.put s) b' ∧ LnFr w w' sb s (E.put s) b b') ∨ (St.ent L = none ∧ q = 0))
theorem LinePost.two {w w' : World} {sb : Nat} {s : Sto} {b : StA} {L : List (List UInt8)} {e : Ending} (h : LinePost w sb s b L e w') : Line2 w sb s b L e w' := by
 obtain ⟨h1, ⟨E, b', h2, rfl, h3, h4⟩ | ⟨h2, rfl⟩⟩ := h
 ·exact ⟨_, rfl, h1, .inl ⟨E, b', h2, rfl, h3, h4⟩⟩
 ·exact ⟨0, rfl, h1, .inr ⟨h2, rfl⟩⟩
theorem St.sec_le (E : St.Ent) : 1 ≤ E.sec ∧ E.sec ≤ 6 := by cases E <;> simp [St.Ent.sec]
theorem St.ent_ok2 {L : List (List UInt8)} {E : St.Ent} (h : St.ent L = some E) (hl : ∀ x ∈ L, x.length ≤ 1000000000000) : E.ok := by
 cases L with
 | nil => cases h
 | cons k R => exact St.ent_ok (n := St.secW k) (R := R) h (fun x hx => hl x (List.mem_cons_of_mem _ hx))
theorem StrRow.of_block {w w' : World} {g : Nat} {ss : List (List UInt8)} (h : StrRow w g ss) (hz : w.heap.size ≤ w'.heap.size) (e : w'.heap[g]? = w.heap[g]?) : StrRow w' g ss := by
 refine ⟨Nat.lt_of_lt_of_le h.1 hz, fun i hi => ?_⟩
 have := h.2 i hi
 unfold World.cell? at this ⊢
 rw [e]; exact this
theorem St.rdX_at {last : Nat} {s : Sto} {t l r : List UInt8} (h : Pr.cut1 10 t = some (l, r)) :
  (St.ent (Pr.spl 32 l) = none → St.rdX last s t = none) ∧ ∀ E, St.ent (Pr.spl 32 l) = some E → (E.sec < last → St.rdX last s t = none) ∧ (¬ (E.sec = 1 ↔ last = 0) → St.rdX last s t = none) ∧ (¬ E.sec < last → (E.sec = 1 ↔ last = 0) → St.rdX last s t = St.rdX E.sec (E.put s) r) := by
 rw [St.rdX_next h]
 refine ⟨fun e => by rw [e], fun E e => ?_⟩
 rw [e]
 simp only
 refine ⟨fun h => by rw [if_pos (.inl h)], fun h => by rw [if_pos (.inr h)], fun h1 h2 => by rw [if_neg (fun h3 => h3.elim h1 (fun h4 => h4 h2))]⟩
theorem readR_long (x : List UInt8) (w : World) (hx : 1000000 < x.length) (hs : x.length ≤ 9223372036854775807) : Calls Tryz.prog 6 #[.string (Tx.mk x)] w (ReadPost w 4 Sto.zero) := by
 obtain ⟨W1, hW1, hX1, hz1, hB1⟩ := box w #[.int .i64 0, .int .i64 0, .slice none 0 0, .slice none 0 0, .slice none 0 0, .slice none 0 0, .slice none 0 0] 28
 have HX1 := Lib.hid hX1; have HB1 := Lib.hid hB1; have HW1 := Lib.hid hW1
 go_enter Tryz.func6, Tryz.ntmps6
 go_upto_region 1 with fail
 go_wp2_with (refine wpList_store_row rfl 28 _ _ rfl w.heap.size #[.int .i64 0, .int .i64 0, .slice none 0 0, .slice none 0 0, .slice none 0 0, .slice none 0 0, .slice none 0 0] rfl rfl 28 _ (HX1.out) infoSto rfl (by simp [Value.oneCell']) ?_)
 obtain ⟨g0, g1, g2, g3, g4, g5, g6⟩ := (Blk.setRowAt (HX1.out) #[.int .i64 0, .int .i64 0, .slice none 0 0, .slice none 0 0, .slice none 0 0, .slice none 0 0, .slice none 0 0]).seven
 refine bodyPost_ret (v := .tuple #[.agg #[.int .i64 0, .int .i64 0, .slice none 0 0, .slice none 0 0, .slice none 0 0, .slice none 0 0, .slice none 0 0], .int .i64 (4)]) (by simp [results, Tryz.results6, go_sem, g0, g1, g2, g3, g4, g5, g6]) rfl ⟨StA.zero, rfl, StIn.zero _, below_setRow (HB1.out) (by omega) _⟩
theorem readR_short (x : List UInt8) (w : World) (hm : Mx w) (hx : x.length ≤ 1000000) : Calls Tryz.prog 6 #[.string (Tx.mk x)] w (ReadPost w (St.readE x).1 (St.readE x).2) := by
 obtain ⟨W1, hW1, hX1, hz1, hB1⟩ := box w #[.int .i64 0, .int .i64 0, .slice none 0 0, .slice none 0 0, .slice none 0 0, .slice none 0 0, .slice none 0 0] 28
 obtain ⟨W2, hW2, hX2, hz2, hB2⟩ := box W1 #[.int .i64 0, .int .i64 0, .slice none 0 0, .slice none 0 0, .slice none 0 0, .slice none 0 0, .slice none 0 0] 28
 have HW1 := Lib.hid hW1; have HW2 := Lib.hid hW2; have HZ1 := Lib.hid hz1
 rw [hz1] at hX2
 have hI0 : StIO W2 (w.heap.size + 1) Sto.zero StA.zero := ⟨hX2, ⟨by simp [St.eT, Enc.flat, Sto.zero], .inl ⟨rfl, rfl⟩⟩, ⟨by simp [Enc.flat, Sto.zero], .inl ⟨rfl, rfl⟩⟩, ⟨by simp [Enc.flat, Sto.zero], .inl ⟨rfl, rfl⟩⟩, ⟨by simp [Enc.flat, Sto.zero], .inl ⟨rfl, rfl⟩⟩, ⟨by simp [Enc.flat, Sto.zero], .inl ⟨rfl, rfl⟩⟩⟩
 have HST : Hid (RdSt w W2 x Sto.zero StA.zero) := Lib.hid ⟨hX1.keep hB2, hI0, by simp [Sto.zero]; omega, StIn.sz (StIn.zero w), below_up hB1 hB2⟩
 have HMX := Lib.hid hm
 obtain ⟨Z, hZ⟩ : ∃ Z, St.rdX 0 Sto.zero x = Z := ⟨_, rfl⟩
 have hRE : St.readE x = St.outE Z := by rw [← hZ]; unfold St.readE St.outE; rw [if_neg (by omega)]; rfl
 obtain ⟨eq, eT, hqt⟩ : ∃ q T, St.readE x = (q, T) := ⟨_, _, rfl⟩
 rw [hqt] at hRE ⊢
 simp only
 have HRE := Lib.hid hRE
 have HZ := Lib.hid hZ
 have HSP := Lib.hid (split_is x 10 (by omega) W2 (hm.below (below_up hB1 hB2)))
 have hTp : 0 < (Pr.spl 10 x).length := List.length_pos_iff.2 (Pr.spl_ne 10 x)
 have hTn := Pr.spl_len_le 10 x
 obtain ⟨T, hT⟩ : ∃ T, Pr.spl 10 x = T := ⟨_, rfl⟩
 have HT := Lib.hid hT
 rw [hT] at HSP hTp hTn
 obtain ⟨m, hTm⟩ : ∃ m, T.length = m + 1 := ⟨T.length - 1, by omega⟩
 have HTM := Lib.hid hTm
 rw [hTm] at HSP hTn
 have hx2 : ¬ 1000000 < x.length := by omega
 clear hX1 hX2 hI0 hz1 hz2 hB1 hB2 hW1 hW2 hm hZ hx hRE hqt hT hTp hTm
 go_enter Tryz.func6, Tryz.ntmps6
 go_upto_region 3 with fail
 rw [HW1.out]
 go_upto_region 4 with fail
 rw [HW2.out, HZ1.out]
 go_upto_region 5 with (go_at_call 12; (with_reducible refine HSP.out.mono ?_); rintro e w3 ⟨rfl, hrow, hB3, hz3⟩)
 obtain ⟨lb, hlb⟩ : ∃ lb, W2.heap.size = lb := ⟨_, rfl⟩
 rw [hlb] at hrow ⊢
 have hlb2 : w.heap.size + 2 ≤ lb := by have := (Array.getElem?_eq_some_iff.1 HST.out.io.blk).1; omega
 have HROW := Lib.hid hrow
 have HST3 : Hid (RdSt w w3 x Sto.zero StA.zero) := Lib.hid ⟨HST.out.res.keep hB3, HST.out.io.keep hB3, HST.out.ct, HST.out.sz, below_up HST.out.bw hB3⟩
 have HLB := Lib.hid hlb2
 have hm1 : (((m + 1 : Nat) : Int) - 1) = ((m : Nat) : Int) := by omega
 have hm2 : ((m : Nat) : Int) ≤ ((m + 1 : Nat) : Int) := by omega
 clear hrow hB3 hz3 HSP hlb hlb2
 go_wp2_with fail
 have HNB : Hid (NoB (w.heap.size + 1) Sto.zero StA.zero lb) := Lib.hid ⟨by have := HLB.out; omega, by simp [StA.zero, Value.ownBlock], by simp [StA.zero, Value.ownBlock], by simp [StA.zero, Value.ownBlock], by simp [StA.zero, Value.ownBlock], by simp [StA.zero, Value.ownBlock]⟩
 go_loopg [6, 23] m (fun gk s6 s23 wr => ∃ (j last : Nat) (t : List UInt8) (s : Sto) (b : StA), j ≤ m ∧ gk = m - j ∧ s6 = .int .i64 (last : Int) ∧ s23 = .int .i64 (j : Int) ∧ last ≤ 6 ∧ (j = 0 ↔ last = 0) ∧ Pr.spl 10 t = T.drop j ∧ RdSt w wr t s b ∧ StrRow wr lb T ∧ NoB (w.heap.size + 1) s b lb ∧ St.rdX last s t = Z)
 case atStart => exact ⟨0, 0, x, Sto.zero, StA.zero, by omega, rfl, rfl, rfl, by omega, by omega, by rw [HT.out]; rfl, HST3.out, HROW.out, HNB.out, HZ.out⟩
 case round =>
  obtain ⟨j, last, t, s, b, hj, rfl, rfl, rfl, hl6, hjl, hspl, hS, hrow, hnb, hR⟩ := hrel
  have HS := Lib.hid hS; have HR := Lib.hid hR; have HRW := Lib.hid hrow; have HN := Lib.hid hnb; have HSL := Lib.hid hspl; have HJL := Lib.hid hjl
  clear hS hR hrow hnb hspl hjl
  by_cases hlt : j < m
  ·obtain ⟨l, hx⟩ : ∃ l, T[j]? = some l := ⟨_, List.getElem?_eq_getElem (by rw [HTM.out]; omega)⟩
   have hdr : T.drop j = l :: T.drop (j + 1) := by
    obtain ⟨h1, h2⟩ := List.getElem?_eq_some_iff.1 hx
    rw [List.drop_eq_getElem_cons h1, h2]
   obtain ⟨r, hcut, hspr⟩ : ∃ r, Pr.cut1 10 t = some (l, r) ∧ Pr.spl 10 r = T.drop (j + 1) := by
    have h1 := HSL.out
    rw [Pr.spl_cut1, hdr] at h1
    cases hc : Pr.cut1 10 t with
    | none =>
      rw [hc] at h1
      have h2 := (List.cons.inj h1).2
      have h3 := congrArg List.length h2
      rw [List.length_drop, HTM.out] at h3
      simp at h3
      omega
    | some p =>
      rw [hc] at h1
      obtain ⟨h2, h3⟩ := List.cons.inj h1
      exact ⟨p.2, by rw [← h2], h3⟩
   have hlen := Pr.cut1_len hcut
   have htl : t.length ≤ 1000000 := by have := HS.out.ct; omega
   have hl2 : t.length = l.length + 1 + r.length := by rw [hlen]; simp; omega
   have c0 : wr.cell? ⟨lb, j, none⟩ = some (.string (Tx.mk l)) := by
    have := HRW.out.2 j (by rw [HTM.out]; omega)
    rw [List.getD_eq_getElem?_getD, hx] at this
    exact this
   have HLN := Lib.hid ((storeLine_is l s b (w.heap.size + 1) wr (HMX.out.below HS.out.bw) HS.out.io (by omega) (by have := HS.out.ct; omega)).mono (fun e w' h => h.two))
   unfold Line2 at HLN
   have HAT := Lib.hid (St.rdX_at (last := last) (s := s) hcut)
   have HCUT := Lib.hid hcut; have HSR := Lib.hid hspr; have HL2 := Lib.hid hl2
   have hj0 : (0 : Int) ≤ (j : Int) := by omega
   have hj1 : (j : Int) < (m : Int) := by omega
   have hj2 : (j : Int) < (m : Int) + 1 := by omega
   clear hx hdr hcut hspr hlen htl hl2
   go_upto_region 10 with (go_at_call 19; (with_reducible refine HLN.out.mono ?_); rintro e w7 ⟨c, rfl, hB7, hcase⟩)
   have hres7 := HS.out.res.of_block (hB7.block w.heap.size (by omega))
   have hbb7 := below_trS HS.out.bw ⟨hB7.os, hB7.tape, hB7.output, hB7.size, fun i hi => hB7.block i (by omega)⟩
   have HSZ7 := Lib.hid hB7.size
   rcases hcase with ⟨E, b7, hE, hc, hio, hfr⟩ | ⟨hE, rfl⟩
   ·have hsec := St.sec_le E
    have hat := HAT.out.2 E hE
    have HAT2 := Lib.hid hat; have HEE := Lib.hid hE; have HIO := Lib.hid hio; have HFR := Lib.hid hfr; have HSC := Lib.hid hsec
    have HC := Lib.hid hc.symm
    rw [← hc] at hsec HAT2
    clear hat hE hio hfr hc hB7
    by_cases h1 : c < last
    ·have g1 : (c : Int) < (last : Int) := by omega
     have hE : (eq, eT) = ((8 : Int), Sto.zero) := by rw [HRE.out, ← HR.out, HAT2.out.1 h1]; rfl
     obtain ⟨rfl, rfl⟩ := Prod.mk.inj hE
     clear hE
     go_wp2_with (refine wpList_store_row rfl 28 _ _ rfl w.heap.size #[.int .i64 0, .int .i64 0, .slice none 0 0, .slice none 0 0, .slice none 0 0, .slice none 0 0, .slice none 0 0] rfl rfl 28 _ (hres7) infoSto rfl (by simp [Value.oneCell']) ?_)
     obtain ⟨g0, g1, g2, g3, g4, g5, g6⟩ := (Blk.setRowAt (hres7) #[.int .i64 0, .int .i64 0, .slice none 0 0, .slice none 0 0, .slice none 0 0, .slice none 0 0, .slice none 0 0]).seven
     refine bodyPost_ret (v := .tuple #[.agg #[.int .i64 0, .int .i64 0, .slice none 0 0, .slice none 0 0, .slice none 0 0, .slice none 0 0, .slice none 0 0], .int .i64 (8)]) (by simp [results, Tryz.results6, go_sem, g0, g1, g2, g3, g4, g5, g6]) rfl ⟨StA.zero, rfl, StIn.zero _, below_setRow (hbb7) (by omega) _⟩
    ·have g1 : ¬ (c : Int) < (last : Int) := by omega
     by_cases h2 : c = 1
     ·subst h2
      by_cases h3 : j = 0
      ·subst h3
       have hs7 := HSZ7.out
       clear hsec
       go_wp2_with fail
       go_roundg (m - (0 + 1))
       case rel =>
        have hct := HS.out.ct
        have hpc := St.put_ct s E
        have hl1 := List.length_pos_iff.2 (St.ent_ne HEE.out)
        have hl2 := HL2.out
        have hsec := HSC.out
        have hcc := HC.out
        have hlb := HRW.out.1
        obtain ⟨f1, f2⟩ := HFR.out lb hlb HN.out
        refine ⟨0 + 1, 1, r, E.put s, b7, by omega, rfl, by go_num, by go_num, by omega, ⟨fun h => by omega, fun h => by omega⟩, HSR.out, ⟨hres7, HIO.out, by omega, St.put_sz HS.out.sz (St.ent_ok2 HEE.out (fun y hy => by have := Pr.spl_mem_le 32 l y hy; omega)), hbb7⟩, HRW.out.of_block hs7 f1, f2, ?_⟩
        rw [← HR.out, HAT2.out.2.2 h1 (by have h7 := HJL.out; simp at h7 ⊢; exact h7), ← HC.out]
       case measure => omega
      ·have g3 : ((j : Int) == 0) = false := by simp; omega
       have g4 : ¬ (j : Int) = 0 := by omega
       have hE : (eq, eT) = ((8 : Int), Sto.zero) := by rw [HRE.out, ← HR.out, HAT2.out.2.1 (fun h => h3 (HJL.out.2 (h.1 rfl)))]; rfl
       obtain ⟨rfl, rfl⟩ := Prod.mk.inj hE
       clear hE
       go_wp2_with (refine wpList_store_row rfl 28 _ _ rfl w.heap.size #[.int .i64 0, .int .i64 0, .slice none 0 0, .slice none 0 0, .slice none 0 0, .slice none 0 0, .slice none 0 0] rfl rfl 28 _ (hres7) infoSto rfl (by simp [Value.oneCell']) ?_)
       obtain ⟨g0, g1, g2, g3, g4, g5, g6⟩ := (Blk.setRowAt (hres7) #[.int .i64 0, .int .i64 0, .slice none 0 0, .slice none 0 0, .slice none 0 0, .slice none 0 0, .slice none 0 0]).seven
       refine bodyPost_ret (v := .tuple #[.agg #[.int .i64 0, .int .i64 0, .slice none 0 0, .slice none 0 0, .slice none 0 0, .slice none 0 0, .slice none 0 0], .int .i64 (8)]) (by simp [results, Tryz.results6, go_sem, g0, g1, g2, g3, g4, g5, g6]) rfl ⟨StA.zero, rfl, StIn.zero _, below_setRow (hbb7) (by omega) _⟩
     ·have g2 : ((c : Int) == 1) = false := by simp; omega
      have g5 : ¬ (c : Int) = 1 := by omega
      by_cases h3 : j = 0
      ·subst h3
       have hE : (eq, eT) = ((8 : Int), Sto.zero) := by rw [HRE.out, ← HR.out, HAT2.out.2.1 (fun h => h2 (h.2 (HJL.out.1 rfl)))]; rfl
       obtain ⟨rfl, rfl⟩ := Prod.mk.inj hE
       clear hE
       go_wp2_with (refine wpList_store_row rfl 28 _ _ rfl w.heap.size #[.int .i64 0, .int .i64 0, .slice none 0 0, .slice none 0 0, .slice none 0 0, .slice none 0 0, .slice none 0 0] rfl rfl 28 _ (hres7) infoSto rfl (by simp [Value.oneCell']) ?_)
       obtain ⟨g0, g1, g2, g3, g4, g5, g6⟩ := (Blk.setRowAt (hres7) #[.int .i64 0, .int .i64 0, .slice none 0 0, .slice none 0 0, .slice none 0 0, .slice none 0 0, .slice none 0 0]).seven
       refine bodyPost_ret (v := .tuple #[.agg #[.int .i64 0, .int .i64 0, .slice none 0 0, .slice none 0 0, .slice none 0 0, .slice none 0 0, .slice none 0 0], .int .i64 (8)]) (by simp [results, Tryz.results6, go_sem, g0, g1, g2, g3, g4, g5, g6]) rfl ⟨StA.zero, rfl, StIn.zero _, below_setRow (hbb7) (by omega) _⟩
      ·have g3 : ((j : Int) == 0) = false := by simp; omega
       have g4 : ¬ (j : Int) = 0 := by omega
       have hs7 := HSZ7.out
       clear hsec
       go_wp2_with fail
       go_roundg (m - (j + 1))
       case rel =>
        have hct := HS.out.ct
        have hpc := St.put_ct s E
        have hl1 := List.length_pos_iff.2 (St.ent_ne HEE.out)
        have hl2 := HL2.out
        have hsec := HSC.out
        have hcc := HC.out
        have hlb := HRW.out.1
        obtain ⟨f1, f2⟩ := HFR.out lb hlb HN.out
        refine ⟨j + 1, c, r, E.put s, b7, by omega, rfl, by go_num, by go_num, by omega, ⟨fun h => by omega, fun h => by omega⟩, HSR.out, ⟨hres7, HIO.out, by omega, St.put_sz HS.out.sz (St.ent_ok2 HEE.out (fun y hy => by have := Pr.spl_mem_le 32 l y hy; omega)), hbb7⟩, HRW.out.of_block hs7 f1, f2, ?_⟩
        rw [← HR.out, HAT2.out.2.2 h1 ⟨fun h => absurd h h2, fun h => absurd (HJL.out.2 h) h3⟩, ← HC.out]
       case measure => omega
   ·have HEE := Lib.hid (HAT.out.1 hE)
    clear hE hB7
    by_cases h1 : last = 0
    ·subst h1
     obtain rfl : j = 0 := HJL.out.2 rfl
     have hE : (eq, eT) = ((8 : Int), Sto.zero) := by rw [HRE.out, ← HR.out, HEE.out]; rfl
     obtain ⟨rfl, rfl⟩ := Prod.mk.inj hE
     clear hE
     go_wp2_with (refine wpList_store_row rfl 28 _ _ rfl w.heap.size #[.int .i64 0, .int .i64 0, .slice none 0 0, .slice none 0 0, .slice none 0 0, .slice none 0 0, .slice none 0 0] rfl rfl 28 _ (hres7) infoSto rfl (by simp [Value.oneCell']) ?_)
     obtain ⟨g0, g1, g2, g3, g4, g5, g6⟩ := (Blk.setRowAt (hres7) #[.int .i64 0, .int .i64 0, .slice none 0 0, .slice none 0 0, .slice none 0 0, .slice none 0 0, .slice none 0 0]).seven
     refine bodyPost_ret (v := .tuple #[.agg #[.int .i64 0, .int .i64 0, .slice none 0 0, .slice none 0 0, .slice none 0 0, .slice none 0 0, .slice none 0 0], .int .i64 (8)]) (by simp [results, Tryz.results6, go_sem, g0, g1, g2, g3, g4, g5, g6]) rfl ⟨StA.zero, rfl, StIn.zero _, below_setRow (hbb7) (by omega) _⟩
    ·have g1 : (0 : Int) < (last : Int) := by omega
     have hE : (eq, eT) = ((8 : Int), Sto.zero) := by rw [HRE.out, ← HR.out, HEE.out]; rfl
     obtain ⟨rfl, rfl⟩ := Prod.mk.inj hE
     clear hE
     go_wp2_with (refine wpList_store_row rfl 28 _ _ rfl w.heap.size #[.int .i64 0, .int .i64 0, .slice none 0 0, .slice none 0 0, .slice none 0 0, .slice none 0 0, .slice none 0 0] rfl rfl 28 _ (hres7) infoSto rfl (by simp [Value.oneCell']) ?_)
     obtain ⟨g0, g1, g2, g3, g4, g5, g6⟩ := (Blk.setRowAt (hres7) #[.int .i64 0, .int .i64 0, .slice none 0 0, .slice none 0 0, .slice none 0 0, .slice none 0 0, .slice none 0 0]).seven
     refine bodyPost_ret (v := .tuple #[.agg #[.int .i64 0, .int .i64 0, .slice none 0 0, .slice none 0 0, .slice none 0 0, .slice none 0 0, .slice none 0 0], .int .i64 (8)]) (by simp [results, Tryz.results6, go_sem, g0, g1, g2, g3, g4, g5, g6]) rfl ⟨StA.zero, rfl, StIn.zero _, below_setRow (hbb7) (by omega) _⟩
  ·obtain rfl : m = j := by omega
   obtain ⟨hcut, hdm⟩ : Pr.cut1 10 t = none ∧ T[m]? = some t := by
    have h1 := HSL.out
    have hlen : (T.drop m).length = 1 := by rw [List.length_drop, HTM.out]; omega
    rw [← h1, Pr.spl_cut1] at hlen
    cases hc : Pr.cut1 10 t with
    | none =>
      refine ⟨rfl, ?_⟩
      rw [Pr.spl_cut1, hc] at h1
      have h2 := congrArg (fun L => L[0]?) h1
      simp only [List.getElem?_cons_zero, List.getElem?_drop] at h2
      rw [h2]; rfl
    | some p =>
      rw [hc] at hlen
      have := List.length_pos_iff.2 (Pr.spl_ne 10 p.2)
      simp only [List.length_cons] at hlen
      omega
   have c0 : wr.cell? ⟨lb, m, none⟩ = some (.string (Tx.mk t)) := by
    have := HRW.out.2 m (by rw [HTM.out]; omega)
    rw [List.getD_eq_getElem?_getD, hdm] at this
    exact this
   have hj0 : (0 : Int) ≤ (m : Int) := by omega
   have hj2 : (m : Int) < (m : Int) + 1 := by omega
   have hres7 := HS.out.res
   have hbb7 := HS.out.bw
   have hnil := St.rdX_nil last s
   clear hdm
   by_cases h3 : last = 0
   ·subst h3
    rw [if_pos rfl] at hnil
    have hzn : St.rdX 0 s t = none := by
     by_cases ht : t = []
     ·rw [ht]; exact hnil
     ·exact St.rdX_open ht hcut
    have HZN := Lib.hid hzn
    clear hzn hnil hcut
    have hE : (eq, eT) = ((8 : Int), Sto.zero) := by rw [HRE.out, ← HR.out, HZN.out]; rfl
    obtain ⟨rfl, rfl⟩ := Prod.mk.inj hE
    clear hE
    go_wp2_with (refine wpList_store_row rfl 28 _ _ rfl w.heap.size #[.int .i64 0, .int .i64 0, .slice none 0 0, .slice none 0 0, .slice none 0 0, .slice none 0 0, .slice none 0 0] rfl rfl 28 _ (hres7) infoSto rfl (by simp [Value.oneCell']) ?_)
    obtain ⟨g0, g1, g2, g3, g4, g5, g6⟩ := (Blk.setRowAt (hres7) #[.int .i64 0, .int .i64 0, .slice none 0 0, .slice none 0 0, .slice none 0 0, .slice none 0 0, .slice none 0 0]).seven
    refine bodyPost_ret (v := .tuple #[.agg #[.int .i64 0, .int .i64 0, .slice none 0 0, .slice none 0 0, .slice none 0 0, .slice none 0 0, .slice none 0 0], .int .i64 (8)]) (by simp [results, Tryz.results6, go_sem, g0, g1, g2, g3, g4, g5, g6]) rfl ⟨StA.zero, rfl, StIn.zero _, below_setRow (hbb7) (by omega) _⟩
   ·have g3 : ((last : Int) == 0) = false := by simp; omega
    have g4 : ¬ (last : Int) = 0 := by omega
    rw [if_neg h3] at hnil
    by_cases ht : t = []
    ·subst ht
     have hZs : Z = some s := by rw [← HR.out, hnil]
     have hI := HS.out.io.own.in_ HS.out.sz
     have HCK := Lib.hid (storeError_is s b wr hI)
     obtain ⟨q0, q1, q2, q3, q4, q5, q6⟩ := HS.out.io.blk.seven
     clear hnil hcut
     by_cases he : St.err s = 0
     ·have hE : (eq, eT) = ((0 : Int), s) := by rw [HRE.out, hZs]; unfold St.outE; simp only; rw [if_pos he]
      obtain ⟨rfl, rfl⟩ := Prod.mk.inj hE
      rw [he] at HCK
      clear hE he hI hZs h3
      go_upto_region 19 with (go_at_call 20; (with_reducible refine HCK.out.mono ?_); rintro e w8 ⟨rfl, hB8⟩)
      obtain ⟨q0, q1, q2, q3, q4, q5, q6⟩ := (HS.out.io.blk.keep hB8).seven
      have hres8 := hres7.keep hB8
      have hbb8 := below_up hbb7 hB8
      go_wp2_with (refine wpList_store_row rfl 28 _ _ rfl w.heap.size #[.int .i64 eT.least, .int .i64 eT.wait, .slice b.ta eT.tiers.length b.tc, .slice b.fa eT.files.length b.fc, .slice b.ca eT.copies.length b.cc, .slice b.ha eT.held.length b.hc, .slice b.ba eT.bin.length b.bc] rfl rfl 28 _ hres8 infoSto rfl (by simp [Value.oneCell']) ?_)
      have hoI := ((HS.out.io.keep hB8).own.setRow (b := w.heap.size) (by omega) #[.int .i64 eT.least, .int .i64 eT.wait, .slice b.ta eT.tiers.length b.tc, .slice b.fa eT.files.length b.fc, .slice b.ca eT.copies.length b.cc, .slice b.ha eT.held.length b.hc, .slice b.ba eT.bin.length b.bc]).in_ HS.out.sz
      have HRR := Lib.hid (below_setRow hbb8 (Nat.le_refl w.heap.size) #[.int .i64 eT.least, .int .i64 eT.wait, .slice b.ta eT.tiers.length b.tc, .slice b.fa eT.files.length b.fc, .slice b.ca eT.copies.length b.cc, .slice b.ha eT.held.length b.hc, .slice b.ba eT.bin.length b.bc])
      obtain ⟨g0, g1, g2, g3, g4, g5, g6⟩ := (Blk.setRowAt hres8 #[.int .i64 eT.least, .int .i64 eT.wait, .slice b.ta eT.tiers.length b.tc, .slice b.fa eT.files.length b.fc, .slice b.ca eT.copies.length b.cc, .slice b.ha eT.held.length b.hc, .slice b.ba eT.bin.length b.bc]).seven
      refine bodyPost_ret (v := .tuple #[.agg #[.int .i64 eT.least, .int .i64 eT.wait, .slice b.ta eT.tiers.length b.tc, .slice b.fa eT.files.length b.fc, .slice b.ca eT.copies.length b.cc, .slice b.ha eT.held.length b.hc, .slice b.ba eT.bin.length b.bc], .int .i64 0]) (by simp [results, Tryz.results6, go_sem, g0, g1, g2, g3, g4, g5, g6]) rfl ⟨b, rfl, hoI, HRR.out⟩
     ·have hE : (eq, eT) = (St.err s, Sto.zero) := by rw [HRE.out, hZs]; unfold St.outE; simp only; rw [if_neg he]
      obtain ⟨rfl, rfl⟩ := Prod.mk.inj hE
      have hq1 : (St.err s != 0) = true := by simpa using he
      generalize St.err s = q at *
      clear hE hI hZs h3 he
      go_upto_region 18 with (go_at_call 20; (with_reducible refine HCK.out.mono ?_); rintro e w8 ⟨rfl, hB8⟩)
      go_wp2_with (refine wpList_store_row rfl 28 _ _ rfl w.heap.size #[.int .i64 0, .int .i64 0, .slice none 0 0, .slice none 0 0, .slice none 0 0, .slice none 0 0, .slice none 0 0] rfl rfl 28 _ ((hres7.keep hB8)) infoSto rfl (by simp [Value.oneCell']) ?_)
      obtain ⟨g0, g1, g2, g3, g4, g5, g6⟩ := (Blk.setRowAt ((hres7.keep hB8)) #[.int .i64 0, .int .i64 0, .slice none 0 0, .slice none 0 0, .slice none 0 0, .slice none 0 0, .slice none 0 0]).seven
      refine bodyPost_ret (v := .tuple #[.agg #[.int .i64 0, .int .i64 0, .slice none 0 0, .slice none 0 0, .slice none 0 0, .slice none 0 0, .slice none 0 0], .int .i64 (q)]) (by simp [results, Tryz.results6, go_sem, g0, g1, g2, g3, g4, g5, g6]) rfl ⟨StA.zero, rfl, StIn.zero _, below_setRow ((below_up hbb7 hB8)) (by omega) _⟩
    ·have HZN := Lib.hid (St.rdX_open (last := last) (s := s) ht hcut)
     have ht0 := mkEmpty_no t ht
     have ht1 : t.isEmpty = false := by cases t with | nil => exact absurd rfl ht | cons a r => rfl
     clear hnil hcut ht
     have hE : (eq, eT) = ((8 : Int), Sto.zero) := by rw [HRE.out, ← HR.out, HZN.out]; rfl
     obtain ⟨rfl, rfl⟩ := Prod.mk.inj hE
     clear hE
     go_wp2_with (refine wpList_store_row rfl 28 _ _ rfl w.heap.size #[.int .i64 0, .int .i64 0, .slice none 0 0, .slice none 0 0, .slice none 0 0, .slice none 0 0, .slice none 0 0] rfl rfl 28 _ (hres7) infoSto rfl (by simp [Value.oneCell']) ?_)
     obtain ⟨g0, g1, g2, g3, g4, g5, g6⟩ := (Blk.setRowAt (hres7) #[.int .i64 0, .int .i64 0, .slice none 0 0, .slice none 0 0, .slice none 0 0, .slice none 0 0, .slice none 0 0]).seven
     refine bodyPost_ret (v := .tuple #[.agg #[.int .i64 0, .int .i64 0, .slice none 0 0, .slice none 0 0, .slice none 0 0, .slice none 0 0, .slice none 0 0], .int .i64 (8)]) (by simp [results, Tryz.results6, go_sem, g0, g1, g2, g3, g4, g5, g6]) rfl ⟨StA.zero, rfl, StIn.zero _, below_setRow (hbb7) (by omega) _⟩
end Go.Proofs.YtbbgebpgpadclaaGreatDoor

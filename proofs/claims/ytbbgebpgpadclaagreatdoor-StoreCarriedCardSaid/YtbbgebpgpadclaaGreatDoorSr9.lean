/- Parts of the proof, no condition: StRpS, StRpT, StRpU, CutLays, SplLays, StrRow, StRpC, StRpD, StChk6, StChk7. -/
import Derived.Test.YtbbgebpgpadclaaGreatDoorSr8
import Derived.Shelf.Strings.Shaped
import Derived.Test.YtbbgebpgpadclaaGreatDoorProg
import Derived.Shelf.Strings.SplitShaped
import Derived.Test.YtbbgebpgpadclaaGreatDoorSr3
import Derived.Test.YtbbgebpgpadclaaGreatDoorSr1
import Derived.Shelf.Unicode.PredsPay
import Derived.Test.YtbbgebpgpadclaaGreatDoorSr6
import Derived.Test.YtbbgebpgpadclaaGreatDoorSr5
import Derived.Lib.QuietBelow
import Derived.Test.YtbbgebpgpadclaaGreatDoorSr4
import Derived.Maps.RangeWalk
set_option maxRecDepth 100000
set_option maxHeartbeats 16000000
set_option linter.unusedSimpArgs false
set_option linter.unusedVariables false
namespace Go.Proofs.YtbbgebpgpadclaaGreatDoor
open Go.RowKit Go.Sort Go.Shelf Go.Maps
theorem put2_is (s : Sto) (b : StA) (sb K B rb : Nat) (R : List (List UInt8)) (w : World) (h : RdIn w K B rb R false) (hS : StIO w sb s b) (hsr : sb < rb ∧ sb < K) (hBw : B ≤ w.heap.size) (hcn : s.files.length ≤ 900000) (hl : ∀ x ∈ R, x.length ≤ 1000000000000) :
  Calls Tryz.prog 16 #[.pointer (some ⟨rb, 0, none⟩), .pointer (some ⟨sb, 0, none⟩), .int .i64 2] w (PutPost w sb rb s 2 R) := by
 have HFL := Lib.hid (fun V (hv : Below w.heap.size w V) => fileS_is R false K B rb V (h.keep hv) (by have := hv.size; omega) hl)
 unfold FilePost at HFL
 obtain ⟨a0, c0, hb0⟩ := h.blk
 have HB0 := Lib.hid hb0
 have HSS := Lib.hid hS
 have hsl := (Array.getElem?_eq_some_iff.1 hS.blk).1
 have hrl := h.lt
 have HSB : Hid ((sb < rb ∧ sb < K) ∧ sb < w.heap.size ∧ rb < B ∧ B ≤ w.heap.size) := Lib.hid ⟨hsr, hsl, hrl, hBw⟩
 obtain ⟨q0, q1, q2, q3, q4, q5, q6⟩ := hS.blk.seven
 have hv : Below w.heap.size w w.drew := (Below.refl _ _).drew
 clear h hS hb0 hl hsr hsl hrl hBw
 go_enter Tryz.func16, Tryz.ntmps16
 go_upto_region 11 with fail
 clear q0 q1 q2 q3 q4 q5 q6
 have hHeld : (fun W : World => W.cell? ⟨sb, 3, none⟩ = some (.slice b.fa s.files.length b.fc)) w.drew := (HSS.out.keep hv).blk.seven.2.2.2.1
 refine wp_region_until (fun W => W.cell? ⟨sb, 3, none⟩ = some (.slice b.fa s.files.length b.fc)) 11 (by kernel_rfl) ?_
 refine anyM_take0 (i := 0) (v := ?_) rfl (by decide) (by kernel_rfl) (by kernel_rfl) (by kernel_rfl) (fun _ _ _ h => h) (Or.inl ⟨by rfl, ?_⟩) (fun _ => by assumption) ?_
 rotate_left
 ·(intro w hSw; go_simp; try (with_reducible rfl))
 try go_frame
 refine anyM_take0 (i := 1) (v := ?_) rfl (by decide) (by kernel_rfl) (by kernel_rfl) (by kernel_rfl) (fun _ _ _ h => h) (Or.inl ⟨by rfl, ?_⟩) (fun _ => by assumption) ?_
 rotate_left
 ·(intro w hSw; go_simp; try (with_reducible rfl))
 try go_frame
 refine anyM_take0 (i := 2) (v := ?_) rfl (by decide) (by kernel_rfl) (by kernel_rfl) (by kernel_rfl) (fun _ _ _ h => h) (Or.inl ⟨by rfl, ?_⟩) (fun _ => by assumption) ?_
 rotate_left
 ·(intro w hSw; go_simp; try (with_reducible rfl))
 try go_frame
 refine anyM_take0 (i := 3) (v := ?_) rfl (by decide) (by kernel_rfl) (by kernel_rfl) (by kernel_rfl) (fun _ _ _ h => h) (Or.inl ⟨by rfl, ?_⟩) (fun _ => by assumption) ?_
 rotate_left
 ·(intro w hSw; go_simp; try (with_reducible rfl))
 try go_frame
 refine anyM_take (i := 4) (v := ?_) rfl rfl (by kernel_rfl) (by decide) (by kernel_rfl) (by kernel_rfl) (by kernel_rfl) (fun _ _ _ h => h) (Or.inl ⟨by rfl, ?_⟩) (by rfl) (by assumption) ?_
 rotate_left
 ·(intro w hSw; (try dsimp only at hSw); go_simp; try (with_reducible rfl))
 try go_frame
 refine anyM_take0 (i := 5) (v := ?_) rfl (by decide) (by kernel_rfl) (by kernel_rfl) (by kernel_rfl) (fun _ _ _ h => h) (Or.inl ⟨by rfl, ?_⟩) (fun _ => by assumption) ?_
 rotate_left
 ·(intro w hSw; go_simp; try (with_reducible rfl))
 try go_frame
 refine anyM_ready (rs := [6]) (by kernel_rfl) (by simp) ?_
 refine ReadyM.cons rfl (fun K' hK => ?_) ReadyM.nil
 go_simp
 refine (HFL.out _ hv).mono ?_
 rintro e w2 ⟨f, R2, b2, hok, rfl, hrd, hg⟩
 have hSW := (HSS.out.keep hv).far (HB0.out.keep hv) (by have := HSB.out; omega) (by decide) (by decide) (by decide) (by decide) (by decide) hg
 have hHeld := hSW.blk.seven.2.2.2.1
 refine hK.out _ _ (fun _ => hHeld) ?_
 clear hK K'
 try go_frame
 have HOK := Lib.hid hok
 have HRD := Lib.hid hrd
 have HB2 := Lib.hid (below_rp (sb := sb) hg (by have := HSB.out; omega) (by have := HSB.out; show sb ≤ w.heap.size; omega))
 have hal : Below w2.heap.size w2 (w2.alloc (.cells #[.string f.dig, .int .i64 f.size, .int .i64 f.kind, .string f.frm] 68)) := (Below.refl _ _).alloc (Nat.le_refl _) _
 have hSA := hSW.keep hal
 have hHA := hSA.blk.seven.2.2.2.1
 refine anyM_ready (rs := [7]) (by kernel_rfl) (by simp) ?_
 refine ReadyM.cons rfl (fun K' hK => ?_) ReadyM.nil
 go_simp
 refine hK.out _ _ (fun _ => hHA) ?_
 clear hK K'
 try go_frame
 refine anyM_ready (rs := [8]) (by kernel_rfl) (by simp) ?_
 refine ReadyM.cons rfl (fun K' hK => ?_) ReadyM.nil
 refine step_appF rfl _ _ rfl (sb + 1) (.slice b.fa s.files.length b.fc) s.files.length (St.eF.flat s.files) (by rfl) (by rfl) hSW.fi (by omega) (by have := hg.size; have := HSB.out; have hz : w.drew.heap.size = w.heap.size := rfl; omega) (by rfl) (by simp [Value.oneCell']) ?_
 intro g8 cap8 w8 hown8 hgrow8
 have hfl : St.eF.flat s.files ++ (#[.string f.dig, .int .i64 f.size, .int .i64 f.kind, .string f.frm] : Array Value).toList = St.eF.flat (s.files ++ [f]) := by rw [Enc.flat_snoc]; rfl
 obtain ⟨m1, m2, m3⟩ := hSA.moreF (t := f) hgrow8 hown8 hfl
 have hb8 : Blk w8 sb _ _ := hSA.blk.of_block (hgrow8.block sb (Array.getElem?_eq_some_iff.1 hSA.blk).1 (fun e => by have := (hSA.fi.lt sb e.symm).1; omega))
 have hH8 := hb8.seven.2.2.2.1
 refine hK.out _ _ (fun _ => hH8) ?_
 clear hK K' hHeld
 try go_frame
 have hHeld := hH8
 refine anyM_take0 (i := 9) (v := ?_) rfl (by decide) (by kernel_rfl) (by kernel_rfl) (by kernel_rfl) (fun _ _ _ h => h) (Or.inl ⟨by rfl, ?_⟩) (fun _ => by assumption) ?_
 rotate_left
 ·(intro w hSw; go_simp; try (with_reducible rfl))
 try go_frame
 refine anyM_take0 (i := 10) (v := ?_) rfl (by decide) (by kernel_rfl) (by kernel_rfl) (by kernel_rfl) (fun _ _ _ h => h) (Or.inl ⟨by rfl, ?_⟩) (fun _ => by assumption) ?_
 rotate_left
 ·(intro w hSw; go_simp; try (with_reducible rfl))
 try go_frame
 clear hHeld hHA hH8
 obtain ⟨q0, q1, q2, q3, q4, q5, q6⟩ := hb8.seven
 have qf := hb8.free
 refine anyM_ready (rs := [11]) (by kernel_rfl) (by simp) ?_
 refine ReadyM.cons rfl (fun K hK => ?_) ReadyM.nil
 go_simp
 refine hK.out _ _ (fun h => absurd h (by simp)) ?_
 clear hK K
 try go_frame
 refine anyM_done (by kernel_rfl) ?_ _
 obtain ⟨a9, c9, hrb⟩ := HRD.out.blk
 have HRB := Lib.hid (m3 rb _ _ (hrb.keep hal) (by decide) (by have := HSB.out; omega))
 have HBZ := Lib.hid ((below_rp (sb := sb) (grownB hv (some rb)) (by have := HSB.out; omega) (by have := HSB.out; omega)).trans (HB2.out.trans ((⟨hal.os, hal.tape, hal.output, hal.size, fun k hk => hal.block k (by have := HB2.out.size; have := HSB.out; have hz : w.drew.heap.size = w.heap.size := rfl; omega)⟩ : Below sb w2 _).trans m2)))
 have HSZ := Lib.hid m1
 have hb9 := HRB.out
 have HRS : Hid (sb < rb) := Lib.hid HSB.out.1.1
 generalize w8.setCell ⟨sb, 3, none⟩ (.slice (some ⟨g8, 0, none⟩) (s.files.length + 1) cap8) = wz at *
 clear m1 m2 m3 hb8 hrb hSA hSW hal hown8 hgrow8 hfl q0 q1 q2 q3 q4 q5 q6 qf hv hg hrd hok
 have H3 : Hid (b2 = false → R2 = [] → ∀ W, StIO W sb { s with files := s.files ++ [f] } { b with fa := some ⟨g8, 0, none⟩, fc := cap8 } → ∃ E b', St.entK 2 R = some E ∧ StIO W sb (E.put s) b') := Lib.hid (fun e0 e1 W hw => by
  rcases HOK.out with ⟨p, _⟩ | ⟨p, _⟩
  ·refine ⟨.fil f, _, ?_, hw⟩
   show St.entF R = _
   rw [St.entF_file, p, e1]
  ·rw [e0] at p; cases p)
 have H4 : Hid (b2 = false → 0 < R2.length → St.entK 2 R = none) := Lib.hid (fun e0 e1 => by
  rcases HOK.out with ⟨p, _⟩ | ⟨p, _⟩
  ·show St.entF R = _
   rw [St.entF_file, p]
   cases R2 with
   | nil => simp at e1
   | cons z9 R9 => rfl
  ·rw [e0] at p; cases p)
 have H5 : Hid (b2 = true → St.entK 2 R = none) := Lib.hid (fun e0 => by
  rcases HOK.out with ⟨p, p2⟩ | ⟨_, p⟩
  ·rw [e0] at p2; cases p2
  ·show St.entF R = _
   rw [St.entF_file, p])
 have HB9 := Lib.hid hb9
 cases b2
 ·rcases Nat.eq_zero_or_pos (R2).length with hz | hz
  ·have hR0 := List.eq_nil_of_length_eq_zero hz
   subst hR0
   obtain ⟨r0, r1⟩ := hb9.two
   have rf := hb9.free
   clear hb9 hz
   go_wp2_with fail
   go_end0
   exact ⟨rfl, HBZ.out.trans (below_rp (grown_set (grown_self _ rb) 1 (.bool false)) (by have := HSB.out; omega) (by have := HBZ.out.size; have := HSB.out; omega)), _, _, _, false, HB9.out.set 1 (.bool false), .inl ⟨rfl, H3.out (by first | rfl | trivial) (by first | rfl | trivial) _ (HSZ.out.rp HB9.out (by have := HRS.out; omega) false)⟩⟩
  ·have hz1 : ((0 : Int) < (((R2).length : Nat) : Int)) = True := by simp; omega
   have hz2 : decide ((0 : Int) < (((R2).length : Nat) : Int)) = true := decide_eq_true (by omega)
   have hz3 : decide (0 < (R2).length) = true := decide_eq_true hz
   have HZP := Lib.hid hz
   obtain ⟨r0, r1⟩ := hb9.two
   have rf := hb9.free
   clear hb9 hz
   go_wp2_with fail
   go_end0
   exact ⟨rfl, HBZ.out.trans (below_rp (grown_set (grown_self _ rb) 1 (.bool true)) (by have := HSB.out; omega) (by have := HBZ.out.size; have := HSB.out; omega)), _, _, _, true, HB9.out.set 1 (.bool true), .inr ⟨rfl, H4.out (by first | rfl | trivial) (by have := HZP.out; first | exact this | trivial)⟩⟩
 ·obtain ⟨r0, r1⟩ := hb9.two
  have rf := hb9.free
  clear hb9
  go_wp2_with fail
  go_end0
  exact ⟨rfl, HBZ.out.trans (below_rp (grown_set (grown_self _ rb) 1 (.bool true)) (by have := HSB.out; omega) (by have := HBZ.out.size; have := HSB.out; omega)), _, _, _, true, HB9.out.set 1 (.bool true), .inr ⟨rfl, H5.out (by first | rfl | trivial)⟩⟩
theorem put4_is (s : Sto) (b : StA) (sb K B rb : Nat) (R : List (List UInt8)) (w : World) (h : RdIn w K B rb R false) (hS : StIO w sb s b) (hsr : sb < rb ∧ sb < K) (hBw : B ≤ w.heap.size) (hcn : s.held.length ≤ 900000) (hl : ∀ x ∈ R, x.length ≤ 1000000000000) :
  Calls Tryz.prog 16 #[.pointer (some ⟨rb, 0, none⟩), .pointer (some ⟨sb, 0, none⟩), .int .i64 4] w (PutPost w sb rb s 4 R) := by
 have HFL := Lib.hid (fun V (hv : Below w.heap.size w V) => rdWord_is R false K B rb V (h.keep hv))
 unfold WordPost at HFL
 obtain ⟨a0, c0, hb0⟩ := h.blk
 have HB0 := Lib.hid hb0
 have HSS := Lib.hid hS
 have hsl := (Array.getElem?_eq_some_iff.1 hS.blk).1
 have hrl := h.lt
 have HSB : Hid ((sb < rb ∧ sb < K) ∧ sb < w.heap.size ∧ rb < B ∧ B ≤ w.heap.size) := Lib.hid ⟨hsr, hsl, hrl, hBw⟩
 obtain ⟨q0, q1, q2, q3, q4, q5, q6⟩ := hS.blk.seven
 have hv : Below w.heap.size w w.drew := (Below.refl _ _).drew
 clear h hS hb0 hl hsr hsl hrl hBw
 go_enter Tryz.func16, Tryz.ntmps16
 go_upto_region 19 with fail
 clear q0 q1 q2 q3 q4 q5 q6
 have hHeld : (fun W : World => W.cell? ⟨sb, 5, none⟩ = some (.slice b.ha s.held.length b.hc)) w.drew := (HSS.out.keep hv).blk.seven.2.2.2.2.2.1
 refine wp_region_until (fun W => W.cell? ⟨sb, 5, none⟩ = some (.slice b.ha s.held.length b.hc)) 11 (by kernel_rfl) ?_
 refine anyM_take0 (i := 0) (v := ?_) rfl (by decide) (by kernel_rfl) (by kernel_rfl) (by kernel_rfl) (fun _ _ _ h => h) (Or.inl ⟨by rfl, ?_⟩) (fun _ => by assumption) ?_
 rotate_left
 ·(intro w hSw; go_simp; try (with_reducible rfl))
 try go_frame
 refine anyM_take0 (i := 1) (v := ?_) rfl (by decide) (by kernel_rfl) (by kernel_rfl) (by kernel_rfl) (fun _ _ _ h => h) (Or.inl ⟨by rfl, ?_⟩) (fun _ => by assumption) ?_
 rotate_left
 ·(intro w hSw; go_simp; try (with_reducible rfl))
 try go_frame
 refine anyM_take0 (i := 2) (v := ?_) rfl (by decide) (by kernel_rfl) (by kernel_rfl) (by kernel_rfl) (fun _ _ _ h => h) (Or.inl ⟨by rfl, ?_⟩) (fun _ => by assumption) ?_
 rotate_left
 ·(intro w hSw; go_simp; try (with_reducible rfl))
 try go_frame
 refine anyM_take0 (i := 3) (v := ?_) rfl (by decide) (by kernel_rfl) (by kernel_rfl) (by kernel_rfl) (fun _ _ _ h => h) (Or.inl ⟨by rfl, ?_⟩) (fun _ => by assumption) ?_
 rotate_left
 ·(intro w hSw; go_simp; try (with_reducible rfl))
 try go_frame
 refine anyM_take (i := 4) (v := ?_) rfl rfl (by kernel_rfl) (by decide) (by kernel_rfl) (by kernel_rfl) (by kernel_rfl) (fun _ _ _ h => h) (Or.inl ⟨by rfl, ?_⟩) (by rfl) (by assumption) ?_
 rotate_left
 ·(intro w hSw; (try dsimp only at hSw); go_simp; try (with_reducible rfl))
 try go_frame
 refine anyM_take0 (i := 5) (v := ?_) rfl (by decide) (by kernel_rfl) (by kernel_rfl) (by kernel_rfl) (fun _ _ _ h => h) (Or.inl ⟨by rfl, ?_⟩) (fun _ => by assumption) ?_
 rotate_left
 ·(intro w hSw; go_simp; try (with_reducible rfl))
 try go_frame
 refine anyM_ready (rs := [6]) (by kernel_rfl) (by simp) ?_
 refine ReadyM.cons rfl (fun K' hK => ?_) ReadyM.nil
 go_simp
 refine (HFL.out _ hv).mono ?_
 rintro e w2 ⟨x1, R2, b2, hok, hsub, rfl, hrd, hg⟩
 have hSW := (HSS.out.keep hv).far (HB0.out.keep hv) (by have := HSB.out; omega) (by decide) (by decide) (by decide) (by decide) (by decide) hg
 have hHeld := hSW.blk.seven.2.2.2.2.2.1
 refine hK.out _ _ (fun _ => hHeld) ?_
 clear hK K'
 try go_frame
 have HOK := Lib.hid hok
 have HRD := Lib.hid hrd
 have HB2 := Lib.hid (below_rp (sb := sb) hg (by have := HSB.out; omega) (by have := HSB.out; show sb ≤ w.heap.size; omega))
 have hal : Below w2.heap.size w2 (w2.alloc (.cells #[.string (Tx.mk x1)] 9)) := (Below.refl _ _).alloc (Nat.le_refl _) _
 have hSA := hSW.keep hal
 have hHA := hSA.blk.seven.2.2.2.2.2.1
 refine anyM_ready (rs := [7]) (by kernel_rfl) (by simp) ?_
 refine ReadyM.cons rfl (fun K' hK => ?_) ReadyM.nil
 go_simp
 refine hK.out _ _ (fun _ => hHA) ?_
 clear hK K'
 try go_frame
 refine anyM_ready (rs := [8]) (by kernel_rfl) (by simp) ?_
 refine ReadyM.cons rfl (fun K' hK => ?_) ReadyM.nil
 refine step_appS rfl _ _ rfl (sb + 1) (.slice b.ha s.held.length b.hc) s.held.length (St.eS.flat s.held) (by rfl) (by rfl) hSW.he (by omega) (by have := hg.size; have := HSB.out; have hz : w.drew.heap.size = w.heap.size := rfl; omega) (by rfl) (by simp [Value.oneCell']) ?_
 intro g8 cap8 w8 hown8 hgrow8
 have hfl : St.eS.flat s.held ++ (#[.string (Tx.mk x1)] : Array Value).toList = St.eS.flat (s.held ++ [Tx.mk x1]) := by rw [Enc.flat_snoc]; rfl
 obtain ⟨m1, m2, m3⟩ := hSA.moreS (t := Tx.mk x1) hgrow8 hown8 hfl
 have hb8 : Blk w8 sb _ _ := hSA.blk.of_block (hgrow8.block sb (Array.getElem?_eq_some_iff.1 hSA.blk).1 (fun e => by have := (hSA.he.lt sb e.symm).1; omega))
 have hH8 := hb8.seven.2.2.2.2.2.1
 refine hK.out _ _ (fun _ => hH8) ?_
 clear hK K' hHeld
 try go_frame
 have hHeld := hH8
 refine anyM_take0 (i := 9) (v := ?_) rfl (by decide) (by kernel_rfl) (by kernel_rfl) (by kernel_rfl) (fun _ _ _ h => h) (Or.inl ⟨by rfl, ?_⟩) (fun _ => by assumption) ?_
 rotate_left
 ·(intro w hSw; go_simp; try (with_reducible rfl))
 try go_frame
 refine anyM_take0 (i := 10) (v := ?_) rfl (by decide) (by kernel_rfl) (by kernel_rfl) (by kernel_rfl) (fun _ _ _ h => h) (Or.inl ⟨by rfl, ?_⟩) (fun _ => by assumption) ?_
 rotate_left
 ·(intro w hSw; go_simp; try (with_reducible rfl))
 try go_frame
 clear hHeld hHA hH8
 obtain ⟨q0, q1, q2, q3, q4, q5, q6⟩ := hb8.seven
 have qf := hb8.free
 refine anyM_ready (rs := [11]) (by kernel_rfl) (by simp) ?_
 refine ReadyM.cons rfl (fun K hK => ?_) ReadyM.nil
 go_simp
 refine hK.out _ _ (fun h => absurd h (by simp)) ?_
 clear hK K
 try go_frame
 refine anyM_done (by kernel_rfl) ?_ _
 obtain ⟨a9, c9, hrb⟩ := HRD.out.blk
 have HRB := Lib.hid (m3 rb _ _ (hrb.keep hal) (by decide) (by have := HSB.out; omega))
 have HBZ := Lib.hid ((below_rp (sb := sb) (grownB hv (some rb)) (by have := HSB.out; omega) (by have := HSB.out; omega)).trans (HB2.out.trans ((⟨hal.os, hal.tape, hal.output, hal.size, fun k hk => hal.block k (by have := HB2.out.size; have := HSB.out; have hz : w.drew.heap.size = w.heap.size := rfl; omega)⟩ : Below sb w2 _).trans m2)))
 have HSZ := Lib.hid m1
 have hb9 := HRB.out
 have HRS : Hid (sb < rb) := Lib.hid HSB.out.1.1
 generalize w8.setCell ⟨sb, 5, none⟩ (.slice (some ⟨g8, 0, none⟩) (s.held.length + 1) cap8) = wz at *
 clear m1 m2 m3 hb8 hrb hSA hSW hal hown8 hgrow8 hfl q0 q1 q2 q3 q4 q5 q6 qf hv hg hrd hok
 have H3 : Hid (b2 = false → R2 = [] → ∀ W, StIO W sb { s with held := s.held ++ [Tx.mk x1] } { b with ha := some ⟨g8, 0, none⟩, hc := cap8 } → ∃ E b', St.entK 4 R = some E ∧ StIO W sb (E.put s) b') := Lib.hid (fun e0 e1 W hw => by
  rcases HOK.out with ⟨p1, p, _⟩ | ⟨p, _, _⟩
  ·refine ⟨.hld (Tx.mk x1), _, ?_, hw⟩
   show St.entH R = _
   rw [p, e1]; unfold St.entH; simp [p1]
  ·rw [e0] at p; cases p)
 have H4 : Hid (b2 = false → 0 < R2.length → St.entK 4 R = none) := Lib.hid (fun e0 e1 => by
  rcases HOK.out with ⟨p1, p, _⟩ | ⟨p, _, _⟩
  ·show St.entH R = _
   rw [p]
   cases R2 with
   | nil => simp at e1
   | cons z9 R9 => rfl
  ·rw [e0] at p; cases p)
 have H5 : Hid (b2 = true → St.entK 4 R = none) := Lib.hid (fun e0 => by
  rcases HOK.out with ⟨_, _, p⟩ | ⟨_, _, p⟩
  ·rw [e0] at p; cases p
  ·show St.entH R = _
   match R, p with
   | [], _ => rfl
   | [x], p => unfold St.entH; simp [p x [] rfl]
   | _ :: _ :: _, _ => rfl)
 have HB9 := Lib.hid hb9
 cases b2
 ·rcases Nat.eq_zero_or_pos (R2).length with hz | hz
  ·have hR0 := List.eq_nil_of_length_eq_zero hz
   subst hR0
   obtain ⟨r0, r1⟩ := hb9.two
   have rf := hb9.free
   clear hb9 hz
   go_wp2_with fail
   go_end0
   exact ⟨rfl, HBZ.out.trans (below_rp (grown_set (grown_self _ rb) 1 (.bool false)) (by have := HSB.out; omega) (by have := HBZ.out.size; have := HSB.out; omega)), _, _, _, false, HB9.out.set 1 (.bool false), .inl ⟨rfl, H3.out (by first | rfl | trivial) (by first | rfl | trivial) _ (HSZ.out.rp HB9.out (by have := HRS.out; omega) false)⟩⟩
  ·have hz1 : ((0 : Int) < (((R2).length : Nat) : Int)) = True := by simp; omega
   have hz2 : decide ((0 : Int) < (((R2).length : Nat) : Int)) = true := decide_eq_true (by omega)
   have hz3 : decide (0 < (R2).length) = true := decide_eq_true hz
   have HZP := Lib.hid hz
   obtain ⟨r0, r1⟩ := hb9.two
   have rf := hb9.free
   clear hb9 hz
   go_wp2_with fail
   go_end0
   exact ⟨rfl, HBZ.out.trans (below_rp (grown_set (grown_self _ rb) 1 (.bool true)) (by have := HSB.out; omega) (by have := HBZ.out.size; have := HSB.out; omega)), _, _, _, true, HB9.out.set 1 (.bool true), .inr ⟨rfl, H4.out (by first | rfl | trivial) (by have := HZP.out; first | exact this | trivial)⟩⟩
 ·obtain ⟨r0, r1⟩ := hb9.two
  have rf := hb9.free
  clear hb9
  go_wp2_with fail
  go_end0
  exact ⟨rfl, HBZ.out.trans (below_rp (grown_set (grown_self _ rb) 1 (.bool true)) (by have := HSB.out; omega) (by have := HBZ.out.size; have := HSB.out; omega)), _, _, _, true, HB9.out.set 1 (.bool true), .inr ⟨rfl, H5.out (by first | rfl | trivial)⟩⟩
end Go.Proofs.YtbbgebpgpadclaaGreatDoor
namespace Go.Proofs.YtbbgebpgpadclaaGreatDoor
open Go.RowKit
theorem put_is (n : Nat) (hn : n < 6) (s : Sto) (b : StA) (sb K B rb : Nat) (R : List (List UInt8)) (w : World) (h : RdIn w K B rb R false) (hS : StIO w sb s b) (hsr : sb < rb ∧ sb < K) (hBw : B ≤ w.heap.size)
  (hc : s.tiers.length ≤ 900000 ∧ s.files.length ≤ 900000 ∧ s.copies.length ≤ 900000 ∧ s.held.length ≤ 900000 ∧ s.bin.length ≤ 900000) (hl : ∀ x ∈ R, x.length ≤ 1000000000000) :
  Calls Tryz.prog 16 #[.pointer (some ⟨rb, 0, none⟩), .pointer (some ⟨sb, 0, none⟩), .int .i64 ((n : Nat) : Int)] w (PutPost w sb rb s n R) := by
 have : n = 0 ∨ n = 1 ∨ n = 2 ∨ n = 3 ∨ n = 4 ∨ n = 5 := by omega
 rcases this with rfl | rfl | rfl | rfl | rfl | rfl
 ·exact put0_is s b sb K B rb R w h hS hsr hl
 ·exact put1_is s b sb K B rb R w h hS hsr hBw hc.1 hl
 ·exact put2_is s b sb K B rb R w h hS hsr hBw hc.2.1 hl
 ·exact put3_is s b sb K B rb R w h hS hsr hBw hc.2.2.1 hl
 ·exact put4_is s b sb K B rb R w h hS hsr hBw hc.2.2.2.1 hl
 ·exact put5_is s b sb K B rb R w h hS hsr hBw hc.2.2.2.2 hl
end Go.Proofs.YtbbgebpgpadclaaGreatDoor
namespace Go.Proofs.YtbbgebpgpadclaaGreatDoor
open Go.RowKit Go.Sort Go.Shelf Go.Maps
namespace St
def ixW (x : List UInt8) : List (List UInt8) → Nat → Int
 | [], _ => -1
 | y :: L, j => if x = y then ((j : Nat) : Int) else ixW x L (j + 1)
def six : List (List UInt8) := [kS, kT, kF, kC, kH, kB]
theorem ix_six (x : List UInt8) : ixW x six 0 = if secW x < 6 then ((secW x : Nat) : Int) else -1 := by
 unfold six secW
 simp only [ixW]
 by_cases h0 : x = kS
 ·subst h0; decide
 ·by_cases h1 : x = kT
  ·subst h1; decide
  ·by_cases h2 : x = kF
   ·subst h2; decide
   ·by_cases h3 : x = kC
    ·subst h3; decide
    ·by_cases h4 : x = kH
     ·subst h4; decide
     ·by_cases h5 : x = kB
      ·subst h5; decide
      ·simp [h0, h1, h2, h3, h4, h5]
end St
theorem indexStr_is (x : List UInt8) (L : List (List UInt8)) (sa : Option Addr) (sc : Nat) (w : World) (hr : RowE St.eS w sa (L.map Tx.mk)) (hl : L.length ≤ 1000000) :
  Calls Tryz.prog 13 #[.slice sa L.length sc, .string (Tx.mk x)] w fun e w' => e = .returned (.int .i64 (St.ixW x L 0)) ∧ w = w' := by
 have HR := Lib.hid hr
 obtain ⟨q, hq⟩ : ∃ q, St.ixW x L 0 = q := ⟨_, rfl⟩
 have HQ := Lib.hid hq
 rw [hq]
 obtain ⟨n, hn⟩ : ∃ n, L.length = n := ⟨_, rfl⟩
 have HN := Lib.hid hn
 rw [hn] at hl ⊢
 clear hr hq hn
 go_enter Tryz.func13, Tryz.ntmps13
 go_wp2_with fail
 go_loopg [8] n (fun gk i wr => ∃ j : Nat, j ≤ n ∧ gk = n - j ∧ i = .int .i64 j ∧ St.ixW x (L.drop j) j = q ∧ w = wr)
 case atStart => exact ⟨0, by omega, rfl, rfl, HQ.out, rfl⟩
 case round =>
  obtain ⟨j, hj, rfl, rfl, hx, hw⟩ := hrel
  subst hw
  have HX := Lib.hid hx
  clear hx
  by_cases hlt : j < n
  ·obtain ⟨y, hy⟩ : ∃ y, L[j]? = some y := ⟨_, List.getElem?_eq_getElem (by rw [HN.out]; exact hlt)⟩
   obtain ⟨b, off, ha, hb, hcell⟩ := HR.out (by rw [List.length_map, HN.out]; omega)
   have c0 : w.cell? ⟨b, off + j, none⟩ = some (.string (Tx.mk y)) := by have := hcell j (Tx.mk y) (by rw [List.getElem?_map, hy]; rfl) 0 (.string (Tx.mk y)) rfl; rw [show off + j * St.eS.k + 0 = off + j by simp [St.eS]] at this; exact this
   have hdr : L.drop j = y :: L.drop (j + 1) := by
    obtain ⟨h1, h2⟩ := List.getElem?_eq_some_iff.1 hy
    rw [List.drop_eq_getElem_cons h1, h2]
   have hxx := HX.out
   rw [hdr, St.ixW] at hxx
   have HXX := Lib.hid hxx
   have hj0 : (0 : Int) ≤ (j : Int) := by omega
   have hj1 : (j : Int) < (n : Int) := by omega
   clear hy hcell hb hdr hxx
   rw [ha]
   by_cases he : x = y
   ·have hb1 : (x == y) = true := by simpa using he
    have HE := Lib.hid he
    clear he
    go_wp2_with fail
    go_ret
    exact ⟨ret_int (by rw [← HXX.out, if_pos HE.out]), rfl⟩
   ·have hb1 : (x == y) = false := by simpa using he
    have HE := Lib.hid he
    clear he
    go_wp2_with fail
    rw [← ha]
    go_roundg (n - (j + 1))
    case rel => exact ⟨j + 1, by omega, rfl, by go_num, by rw [← HXX.out, if_neg HE.out], rfl⟩
    case measure => omega
  ·obtain rfl : n = j := by omega
   have hxx := HX.out
   rw [List.drop_eq_nil_of_le (by rw [HN.out]; exact Nat.le_refl _), St.ixW] at hxx
   have HXX := Lib.hid hxx
   clear hxx
   go_wp2_with fail
   go_ret
   exact ⟨ret_int HXX.out, rfl⟩
theorem sections_is (w : World) : Calls Tryz.prog 14 #[] w fun e w' => e = .returned (.slice (some ⟨w.heap.size, 0, none⟩) 6 6) ∧ RowE St.eS w' (some ⟨w.heap.size, 0, none⟩) (St.six.map Tx.mk) ∧ Below w.heap.size w w' := by
 obtain ⟨W1, hW1, hX, hz1, hB1⟩ := box w #[.string (Tx.mk St.kS), .string (Tx.mk St.kT), .string (Tx.mk St.kF), .string (Tx.mk St.kC), .string (Tx.mk St.kH), .string (Tx.mk St.kB)] 9
 go_enter Tryz.func14, Tryz.ntmps14
 go_wp2_with fail
 go_ret
 have hE : w.alloc (.cells #[.string (Tx.mk St.kS), .string (Tx.mk St.kT), .string (Tx.mk St.kF), .string (Tx.mk St.kC), .string (Tx.mk St.kH), .string (Tx.mk St.kB)] 9) = W1 := hW1
 have hR : RowE St.eS W1 (some ⟨w.heap.size, 0, none⟩) (St.six.map Tx.mk) := by
  intro _
  refine ⟨_, _, rfl, by rw [hz1]; omega, fun i x hi j v hv => ?_⟩
  rcases j with _ | j
  ·simp [St.eS] at hv
   rcases i with _ | _ | _ | _ | _ | _ | i <;> simp [St.six] at hi <;> subst hi <;> subst hv <;> exact (hX.cell _).trans rfl
  ·simp [St.eS] at hv
 subst hE
 exact ⟨rfl, hR, hB1⟩
end Go.Proofs.YtbbgebpgpadclaaGreatDoor
namespace Go.Proofs.YtbbgebpgpadclaaGreatDoor
open Go.Shelf
def Lay.cutM_ren : Go.Shelf.Ren := ⟨fun | 145 => 11 | 220 => 35 | 219 => 73 | 217 => 98 | 225 => 99 | 224 => 100 | 267 => 101 | 266 => 127 | 314 => 128 | n => n, fun | 9 => 9 | 4 => 4 | 59 => 39 | 3 => 3 | 5 => 5 | 46 => 120 | 146 => 147 | 51 => 146 | n => n, fun | 1 => 0 | n => n⟩
theorem Lay.cutM : Go.Proofs.LaysM.n145 Tryz.prog Lay.cutM_ren := {
 mixed := by kernel_rfl
 f145 := Tryz.func11.trans (congrArg some (by kernel_rfl))
 f217 := Tryz.func98.trans (congrArg some (by kernel_rfl))
 f219 := Tryz.func73.trans (congrArg some (by kernel_rfl))
 f220 := Tryz.func35.trans (congrArg some (by kernel_rfl))
 f224 := Tryz.func100.trans (congrArg some (by kernel_rfl))
 f225 := Tryz.func99.trans (congrArg some (by kernel_rfl))
 f266 := Tryz.func127.trans (congrArg some (by kernel_rfl))
 f267 := Tryz.func101.trans (congrArg some (by kernel_rfl))
 f314 := Tryz.func128.trans (congrArg some (by kernel_rfl))
 t3 := Tryz.underlying3
 a3 := Tryz.isAgg3
 z3 := Tryz.sizeOf3
 v3 := Tryz.zeroValue3
 t4 := Tryz.underlying4
 a4 := Tryz.isAgg4
 z4 := Tryz.sizeOf4
 v4 := Tryz.zeroValue4
 t5 := Tryz.underlying5
 a5 := Tryz.isAgg5
 z5 := Tryz.sizeOf5
 v5 := Tryz.zeroValue5
 t9 := Tryz.underlying9
 a9 := Tryz.isAgg9
 z9 := Tryz.sizeOf9
 v9 := Tryz.zeroValue9
 t46 := Tryz.underlying120
 a46 := Tryz.isAgg120
 z46 := Tryz.sizeOf120
 v46 := Tryz.zeroValue120
 t51 := Tryz.underlying146
 a51 := Tryz.isAgg146
 z51 := Tryz.sizeOf146
 v51 := Tryz.zeroValue146
 t59 := Tryz.underlying39
 a59 := Tryz.isAgg39
 z59 := Tryz.sizeOf39
 v59 := Tryz.zeroValue39
 t146 := Tryz.underlying147
 a146 := Tryz.isAgg147
 z146 := Tryz.sizeOf147
 v146 := Tryz.zeroValue147
 g1 := by kernel_rfl
 i3 := by kernel_rfl
 i4 := by kernel_rfl
 i5 := by kernel_rfl
 i9 := by kernel_rfl
 i46 := by kernel_rfl
 i51 := by kernel_rfl
 i59 := by kernel_rfl
 i146 := by kernel_rfl
 m1 := by kernel_rfl
 s1_3 := fun w h => Go.Proofs.cell_of_shapedOpen_int (zero := #[.int .i64 0]) (t := 3) h (of_decide_eq_true (by kernel_rfl)) (by kernel_rfl) rfl (by kernel_rfl) (by kernel_rfl) Tryz.underlying3 }
def Lay.splitM_ren : Go.Shelf.Ren := ⟨fun | 146 => 12 | 221 => 36 | 268 => 74 | 138 => 75 | 143 => 76 | 195 => 102 | 197 => 103 | 218 => 104 | 219 => 73 | 260 => 129 | 217 => 98 | 225 => 99 | 224 => 100 | 267 => 101 | 266 => 127 | 314 => 128 | n => n, fun | 9 => 9 | 31 => 25 | 3 => 3 | 4 => 4 | 0 => 0 | 105 => 128 | 21 => 21 | 5 => 5 | 46 => 120 | 119 => 166 | 139 => 169 | 138 => 168 | 146 => 147 | 51 => 146 | n => n, fun | 1 => 0 | 3 => 2 | 4 => 3 | n => n⟩
theorem Lay.splitM : Go.Proofs.LaysM.n146 Tryz.prog Lay.splitM_ren := {
 mixed := by kernel_rfl
 f138 := Tryz.func75.trans (congrArg some (by kernel_rfl))
 f143 := Tryz.func76.trans (congrArg some (by kernel_rfl))
 f146 := Tryz.func12.trans (congrArg some (by kernel_rfl))
 f195 := Tryz.func102.trans (congrArg some (by kernel_rfl))
 f197 := Tryz.func103.trans (congrArg some (by kernel_rfl))
 f217 := Tryz.func98.trans (congrArg some (by kernel_rfl))
 f218 := Tryz.func104.trans (congrArg some (by kernel_rfl))
 f219 := Tryz.func73.trans (congrArg some (by kernel_rfl))
 f221 := Tryz.func36.trans (congrArg some (by kernel_rfl))
 f224 := Tryz.func100.trans (congrArg some (by kernel_rfl))
 f225 := Tryz.func99.trans (congrArg some (by kernel_rfl))
 f260 := Tryz.func129.trans (congrArg some (by kernel_rfl))
 f266 := Tryz.func127.trans (congrArg some (by kernel_rfl))
 f267 := Tryz.func101.trans (congrArg some (by kernel_rfl))
 f268 := Tryz.func74.trans (congrArg some (by kernel_rfl))
 f314 := Tryz.func128.trans (congrArg some (by kernel_rfl))
 t0 := Tryz.underlying0
 a0 := Tryz.isAgg0
 z0 := Tryz.sizeOf0
 v0 := Tryz.zeroValue0
 t3 := Tryz.underlying3
 a3 := Tryz.isAgg3
 z3 := Tryz.sizeOf3
 v3 := Tryz.zeroValue3
 t4 := Tryz.underlying4
 a4 := Tryz.isAgg4
 z4 := Tryz.sizeOf4
 v4 := Tryz.zeroValue4
 t5 := Tryz.underlying5
 a5 := Tryz.isAgg5
 z5 := Tryz.sizeOf5
 v5 := Tryz.zeroValue5
 t9 := Tryz.underlying9
 a9 := Tryz.isAgg9
 z9 := Tryz.sizeOf9
 v9 := Tryz.zeroValue9
 t21 := Tryz.underlying21
 a21 := Tryz.isAgg21
 z21 := Tryz.sizeOf21
 v21 := Tryz.zeroValue21
 t31 := Tryz.underlying25
 a31 := Tryz.isAgg25
 z31 := Tryz.sizeOf25
 v31 := Tryz.zeroValue25
 t46 := Tryz.underlying120
 a46 := Tryz.isAgg120
 z46 := Tryz.sizeOf120
 v46 := Tryz.zeroValue120
 t51 := Tryz.underlying146
 a51 := Tryz.isAgg146
 z51 := Tryz.sizeOf146
 v51 := Tryz.zeroValue146
 t105 := Tryz.underlying128
 a105 := Tryz.isAgg128
 z105 := Tryz.sizeOf128
 v105 := Tryz.zeroValue128
 t119 := Tryz.underlying166
 a119 := Tryz.isAgg166
 z119 := Tryz.sizeOf166
 t138 := Tryz.underlying168
 a138 := Tryz.isAgg168
 z138 := Tryz.sizeOf168
 v138 := Tryz.zeroValue168
 t139 := Tryz.underlying169
 a139 := Tryz.isAgg169
 z139 := Tryz.sizeOf169
 v139 := Tryz.zeroValue169
 t146 := Tryz.underlying147
 a146 := Tryz.isAgg147
 z146 := Tryz.sizeOf147
 v146 := Tryz.zeroValue147
 g1 := by kernel_rfl
 g3 := by kernel_rfl
 g4 := by kernel_rfl
 i0 := by kernel_rfl
 i3 := by kernel_rfl
 i4 := by kernel_rfl
 i5 := by kernel_rfl
 i9 := by kernel_rfl
 i21 := by kernel_rfl
 i31 := by kernel_rfl
 i46 := by kernel_rfl
 i51 := by kernel_rfl
 i105 := by kernel_rfl
 i138 := by kernel_rfl
 i139 := by kernel_rfl
 i146 := by kernel_rfl
 m1 := by kernel_rfl
 s1_3 := fun w h => Go.Proofs.cell_of_shapedOpen_int (zero := #[.int .i64 0]) (t := 3) h (of_decide_eq_true (by kernel_rfl)) (by kernel_rfl) rfl (by kernel_rfl) (by kernel_rfl) Tryz.underlying3
 m3 := by kernel_rfl
 m4 := by kernel_rfl }
end Go.Proofs.YtbbgebpgpadclaaGreatDoor
namespace Go.Proofs.YtbbgebpgpadclaaGreatDoor
open Go.RowKit Go.Sort
theorem cell_set_other {W : World} {a p : Addr} {v x : Value} (ha : p.block ≠ a.block) (h : W.cell? p = some x) : (W.setCell a v).cell? p = some x := by
 unfold World.cell? at h ⊢
 rw [Below.heap_setCell W a v p.block ha]
 exact h
def StrRow (w : World) (g : Nat) (ss : List (List UInt8)) : Prop := g < w.heap.size ∧ ∀ i, i < ss.length → w.cell? ⟨g, i, none⟩ = some (.string (Tx.mk (ss.getD i [])))
theorem StrRow.keep {w w' : World} {g : Nat} {ss : List (List UInt8)} (h : StrRow w g ss) (hb : Below w.heap.size w w') : StrRow w' g ss :=
 ⟨Nat.lt_of_lt_of_le h.1 hb.size, fun i hi => (hb.cell (World.block_lt_of_cell? w _ (h.2 i hi))).trans (h.2 i hi)⟩
theorem StrRow.grown {w w' : World} {g : Nat} {ss : List (List UInt8)} {row : Option Nat} (h : StrRow w g ss) (hg : w.grownBy w' row) (hne : some g ≠ row) (hz : w.heap.size ≤ w'.heap.size) : StrRow w' g ss := by
 refine ⟨Nat.lt_of_lt_of_le h.1 hz, fun i hi => ?_⟩
 have := hg.block g h.1 hne
 have h2 := h.2 i hi
 unfold World.cell? at h2 ⊢
 rw [this]; exact h2
theorem StrRow.setOther {w : World} {g b i : Nat} {v : Value} {ss : List (List UInt8)} (h : StrRow w g ss) (hne : g ≠ b) : StrRow (w.setCell ⟨b, i, none⟩ v) g ss :=
 ⟨by simpa using h.1, fun j hj => cell_set_other hne (h.2 j hj)⟩
theorem StrRow.alloc {w : World} {g : Nat} {ss : List (List UInt8)} (h : StrRow w g ss) (o : Obj) : StrRow (w.alloc o) g ss := h.keep ((Below.refl _ _).alloc (Nat.le_refl _) o)
end Go.Proofs.YtbbgebpgpadclaaGreatDoor
namespace Go.Proofs.YtbbgebpgpadclaaGreatDoor
open Go.RowKit Go.Sort Go.Shelf
def Mx (w : World) : Prop := ∃ m, w.cell? ⟨0, 0, none⟩ = some (.int .i64 m)
theorem Mx.below {w w' : World} (h : Mx w) (hb : Below w.heap.size w w') : Mx w' := by
 obtain ⟨m, hm⟩ := h
 exact ⟨m, cell_below hb hm⟩
theorem mx_of_shaped {w : World} (h : w.ShapedOpen Tryz.prog) : Mx w := Lay.cutM.s1_3 w h
theorem cut_is (s sep : List UInt8) (hs : s.length < 4294967281) (w : World) (hm : Mx w) :
  Calls Tryz.prog 11 #[.string (Tx.mk s), .string (Tx.mk sep)] w fun e w' => e = .returned (.tuple #[.string (Tx.mk (Lib.cut s sep).1), .string (Tx.mk (Lib.cut s sep).2.1), .bool (Lib.cut s sep).2.2]) ∧ Below w.heap.size w w' := by
 obtain ⟨m, hm⟩ := hm
 refine (Any.strings_Cut { Lay.cutM with } (Tx.mk s) (Tx.mk sep) m w (by rw [Tx.mk_size]; exact hs) hm).mono ?_
 rintro e w' ⟨rfl, n, rfl⟩
 exact ⟨rfl, below_drewN (Below.refl _ _) n⟩
theorem cut_len (s sep : List UInt8) : (Lib.cut s sep).1.length ≤ s.length ∧ (Lib.cut s sep).2.1.length ≤ s.length := by
 unfold Lib.cut
 split
 ·simp; omega
 ·simp
theorem split_is (s : List UInt8) (c : UInt8) (hs : s.length < 4294967281) (w : World) (hm : Mx w) :
  Calls Tryz.prog 12 #[.string (Tx.mk s), .string (Tx.mk [c])] w fun e w' => e = .returned (.slice (some ⟨w.heap.size, 0, none⟩) (Pr.spl c s).length (Pr.spl c s).length) ∧ StrRow w' w.heap.size (Pr.spl c s) ∧ Below w.heap.size w w' ∧ w'.heap.size = w.heap.size + 1 := by
 obtain ⟨m, hm⟩ := hm
 refine (Any.strings_Split { Lay.splitM with } Lay.splitM.i9 (Tx.mk s) (Tx.mk [c]) m w (by rw [Tx.mk_size]; exact hs) hm (by rw [Tx.mk_size]; simp)).mono ?_
 rintro e w' ⟨rfl, rfl⟩
 rw [Pr.splitB_spl, Pr.countB_spl]
 refine ⟨rfl, ⟨by simp, fun i hi => ?_⟩, (Below.refl _ _).alloc (Nat.le_refl _) _, by simp⟩
 rw [(Blk.new w _ _).cell]
 rw [List.getElem?_toArray, List.getElem?_map, List.getElem?_map, List.getD_eq_getElem?_getD, List.getElem?_eq_getElem hi]
 rfl
end Go.Proofs.YtbbgebpgpadclaaGreatDoor
namespace Go.Proofs.YtbbgebpgpadclaaGreatDoor
open Go.RowKit
theorem St.put_ct (s : Sto) (E : St.Ent) : (E.put s).tiers.length ≤ s.tiers.length + 1 ∧ (E.put s).files.length ≤ s.files.length + 1 ∧ (E.put s).copies.length ≤ s.copies.length + 1 ∧ (E.put s).held.length ≤ s.held.length + 1 ∧ (E.put s).bin.length ≤ s.bin.length + 1 := by
 cases E <;> simp [St.Ent.put]
def St.Ent.ok : St.Ent → Prop
 | .sto _ _ => True
 | .tir t => t.name.size ≤ 9223372036854775807
 | .fil f => f.dig.size ≤ 9223372036854775807 ∧ f.frm.size ≤ 9223372036854775807
 | .cop c => c.dig.size ≤ 9223372036854775807 ∧ c.tier.size ≤ 9223372036854775807
 | .hld d => d.size ≤ 9223372036854775807
 | .bin g => g.dig.size ≤ 9223372036854775807
theorem St.put_sz {s : Sto} (h : StSz s) {E : St.Ent} (k : E.ok) : StSz (E.put s) := by
 obtain ⟨h1, h2, h3, h4, h5⟩ := h
 cases E with
 | sto a b => exact ⟨h1, h2, h3, h4, h5⟩
 | tir t => exact ⟨fun x hx => by rcases List.mem_append.1 hx with h | h; exact h1 x h; rw [List.mem_singleton.1 h]; exact k, h2, h3, h4, h5⟩
 | fil t => exact ⟨h1, fun x hx => by rcases List.mem_append.1 hx with h | h; exact h2 x h; rw [List.mem_singleton.1 h]; exact k, h3, h4, h5⟩
 | cop t => exact ⟨h1, h2, fun x hx => by rcases List.mem_append.1 hx with h | h; exact h3 x h; rw [List.mem_singleton.1 h]; exact k, h4, h5⟩
 | hld t => exact ⟨h1, h2, h3, fun x hx => by rcases List.mem_append.1 hx with h | h; exact h4 x h; rw [List.mem_singleton.1 h]; exact k, h5⟩
 | bin t => exact ⟨h1, h2, h3, h4, fun x hx => by rcases List.mem_append.1 hx with h | h; exact h5 x h; rw [List.mem_singleton.1 h]; exact k⟩
theorem St.mk_le {x : List UInt8} (h : x.length ≤ 1000000000000) : (Tx.mk x).size ≤ 9223372036854775807 := by rw [Tx.mk_size]; omega
theorem St.ent_ok {n : Nat} {R : List (List UInt8)} {E : St.Ent} (h : St.entK n R = some E) (hl : ∀ x ∈ R, x.length ≤ 1000000000000) : E.ok := by
 unfold St.entK at h
 split at h
 ·unfold St.entS at h
  split at h
  ·rename_i a b
   cases ha : St.num13 a with
   | none => rw [ha] at h; cases h
   | some x => cases hb : St.num13 b with
     | none => rw [ha, hb] at h; cases h
     | some y => rw [ha, hb] at h; cases h; trivial
  ·cases h
 ·unfold St.entT at h
  split at h
  ·rename_i a b c d
   split at h
   ·cases h
   ·cases hb : St.num13 b with
    | none => rw [hb] at h; cases h
    | some x => cases hc : St.num13 c with
      | none => rw [hb, hc] at h; cases h
      | some y => cases hd : St.two d St.wAway St.wHere with
        | none => rw [hb, hc, hd] at h; cases h
        | some z => rw [hb, hc, hd] at h; cases h; exact St.mk_le (hl a (by simp))
  ·cases h
 ·unfold St.entF at h
  split at h
  ·rename_i a b c
   split at h
   ·cases h
   ·cases hb : St.num13 b with
    | none => rw [hb] at h; cases h
    | some x =>
      rw [hb] at h
      simp only [Option.bind_some] at h
      split at h
      ·cases h; exact ⟨St.mk_le (hl a (by simp)), Nat.zero_le _⟩
      ·cases h
  ·rename_i a b c d
   split at h
   ·cases h
   ·cases hb : St.num13 b with
    | none => rw [hb] at h; cases h
    | some x =>
      rw [hb] at h
      simp only [Option.bind_some] at h
      split at h
      ·cases h; exact ⟨St.mk_le (hl a (by simp)), St.mk_le (hl d (by simp))⟩
      ·cases h
  ·cases h
 ·unfold St.entC at h
  split at h
  ·rename_i a b c d
   split at h
   ·cases h
   ·cases hc : St.two c St.wGood St.wBad with
    | none => rw [hc] at h; cases h
    | some z => cases hd : St.num13 d with
      | none => rw [hc, hd] at h; cases h
      | some y => rw [hc, hd] at h; cases h; exact ⟨St.mk_le (hl a (by simp)), St.mk_le (hl b (by simp))⟩
  ·cases h
 ·unfold St.entH at h
  split at h
  ·split at h
   ·cases h
   ·cases h; exact St.mk_le (hl _ (by simp))
  ·cases h
 ·unfold St.entB at h
  split at h
  ·rename_i a b
   split at h
   ·cases h
   ·cases hb : St.num13 b with
    | none => rw [hb] at h; cases h
    | some y => rw [hb] at h; cases h; exact St.mk_le (hl a (by simp))
  ·cases h
 ·cases h
end Go.Proofs.YtbbgebpgpadclaaGreatDoor
namespace Go.Proofs.YtbbgebpgpadclaaGreatDoor
open Go.RowKit Go.Sort Go.Shelf Go.Maps
namespace St
theorem tier_ok {L : List Tir} (h : scan tierE [] L = 0) {t : Tir} (ht : t ∈ L) : Fd.nameB t.name = true ∧ (0 ≤ t.room ∧ t.room ≤ 1000000000000) ∧ (0 ≤ t.cost ∧ t.cost ≤ 1000000) := by
 obtain ⟨i, hi⟩ := List.getElem?_of_mem ht
 have h := scan_iff.1 h i t hi
 unfold tierE at h
 split at h
 ·rename_i h1
  split at h
  ·cases h
  ·split at h
   ·rename_i h2
    exact ⟨h1, of_decide_eq_true h2.1, of_decide_eq_true h2.2⟩
   ·cases h
 ·cases h
theorem nm40 {n : ByteArray} (h : Fd.nameB n = true) : n.size ≤ 40 := by
 unfold Fd.nameB at h
 exact (of_decide_eq_true h).1.2
theorem files_ok {F : List Fil} (h : filesE F = 0) : scan fileE [] F = 0 ∧ Up (·.dig) F ∧ Szs F := by
 unfold filesE at h
 by_cases h1 : scan fileE [] F = 0
 ·exact ⟨h1, files_up h1, szs_of fun f hf => ((files_iff.1 h1).1 f hf).2⟩
 ·rw [if_neg h1] at h; exact absurd h h1
theorem cop_short {T : List Tir} {F : List Fil} (ht : scan tierE [] T = 0) (hf : scan fileE [] F = 0) {c : Cop} (h1 : (fileOf F c.dig).isSome = true) (h2 : hasTier T c.tier = true) : c.dig.size = 16 ∧ c.tier.size ≤ 40 := by
 constructor
 ·obtain ⟨f, h3⟩ := Option.isSome_iff_exists.1 h1
  obtain ⟨h4, h5⟩ := find_mem h3
  rw [← eq_iff.1 h5]
  exact file_dig16 hf h4
 ·unfold hasTier at h2
  obtain ⟨t, h3, h4⟩ := List.any_eq_true.1 h2
  rw [← eq_iff.1 h4]
  exact nm40 (tier_ok ht h3).1
end St
theorem checkCopies_is (s : Sto) (a : StA) (w : World) (hI : StIn w s a) (hsz : St.sizesE s = 0) (htr : St.scan St.tierE [] s.tiers = 0) (hfl : St.filesE s.files = 0) :
  Calls Tryz.prog 43 #[.agg #[.int .i64 s.least, .int .i64 s.wait, .slice a.ta s.tiers.length a.tc, .slice a.fa s.files.length a.fc, .slice a.ca s.copies.length a.cc, .slice a.ha s.held.length a.hc, .slice a.ba s.bin.length a.bc]] w fun e w' => e = .returned (.int .i64 (St.copiesE s)) ∧ Below w.heap.size w w' := by
 obtain ⟨W1, hW1, hP, hz1, hB1⟩ := box w #[.int .i64 s.least, .int .i64 s.wait, .slice a.ta s.tiers.length a.tc, .slice a.fa s.files.length a.fc, .slice a.ca s.copies.length a.cc, .slice a.ha s.held.length a.hc, .slice a.ba s.bin.length a.bc] 28
 have HW1 := Lib.hid hW1
 have HI1 := Lib.hid (hI.keep hB1)
 have q0 : W1.cell? ⟨w.heap.size, 0, none⟩ = some (.int .i64 s.least) := (hP.cell 0).trans rfl
 have q1 : W1.cell? ⟨w.heap.size, 1, none⟩ = some (.int .i64 s.wait) := (hP.cell 1).trans rfl
 have q2 : W1.cell? ⟨w.heap.size, 2, none⟩ = some (.slice a.ta s.tiers.length a.tc) := (hP.cell 2).trans rfl
 have q3 : W1.cell? ⟨w.heap.size, 3, none⟩ = some (.slice a.fa s.files.length a.fc) := (hP.cell 3).trans rfl
 have q4 : W1.cell? ⟨w.heap.size, 4, none⟩ = some (.slice a.ca s.copies.length a.cc) := (hP.cell 4).trans rfl
 have q5 : W1.cell? ⟨w.heap.size, 5, none⟩ = some (.slice a.ha s.held.length a.hc) := (hP.cell 5).trans rfl
 have q6 : W1.cell? ⟨w.heap.size, 6, none⟩ = some (.slice a.ba s.bin.length a.bc) := (hP.cell 6).trans rfl
 have HP := Lib.hid hP; have HB1 := Lib.hid hB1
 clear hW1 hP
 obtain ⟨_, _, z3, z4, _, _⟩ := St.sizes_iff.1 hsz
 obtain ⟨hf1, hf2, hf3⟩ := St.files_ok hfl
 have HU := Lib.hid hf2; have HSZ := Lib.hid hf3
 have HCZ := Lib.hid hI.cz
 have hcl := hI.cl; have htl := hI.tl
 obtain ⟨qa, hqa⟩ : ∃ qa, St.scan (St.copyE s.tiers s.files) [] s.copies = qa := ⟨_, rfl⟩
 obtain ⟨qb, hqb⟩ : ∃ qb, St.scan (St.fullE s.files s.copies) [] s.tiers = qb := ⟨_, rfl⟩
 have HF : Hid (St.copiesE s = if qa = 0 then qb else qa) := Lib.hid (by unfold St.copiesE; rw [hqa, hqb])
 have HQ1 : Hid (St.scan (St.copyE s.tiers s.files) (s.copies.take 0) (s.copies.drop 0) = qa) := Lib.hid hqa
 have HQ2 : Hid (St.scan (St.fullE s.files s.copies) (s.tiers.take 0) (s.tiers.drop 0) = qb) := Lib.hid hqb
 have HSH := Lib.hid (fun (c : Cop) h1 h2 => St.cop_short htr hf1 (c := c) h1 h2)
 have HTK := Lib.hid (fun (t : Tir) ht => (St.tier_ok htr (t := t) ht).2.1)
 have HBY := Lib.hid (byDigest_is s a W1 HI1.out z3)
 have HTW := Lib.hid (fun W (hb : Below W1.heap.size W1 W) (name : ByteArray) => tierAt_is s a name W (HI1.out.keep hb))
 have HFR := Lib.hid (fun W (hb : Below W1.heap.size W1 W) (x : Tir) (mb : Nat) hM hr => free_is s a x mb W (HI1.out.keep hb) hM hf2 hf3 z4 hr)
 have HCL : Hid (∀ W, Below W1.heap.size W1 W → W.cell? ⟨w.heap.size, 0, none⟩ = some (.int .i64 s.least) ∧ W.cell? ⟨w.heap.size, 1, none⟩ = some (.int .i64 s.wait) ∧ W.cell? ⟨w.heap.size, 2, none⟩ = some (.slice a.ta s.tiers.length a.tc) ∧ W.cell? ⟨w.heap.size, 3, none⟩ = some (.slice a.fa s.files.length a.fc) ∧ W.cell? ⟨w.heap.size, 4, none⟩ = some (.slice a.ca s.copies.length a.cc) ∧ W.cell? ⟨w.heap.size, 5, none⟩ = some (.slice a.ha s.held.length a.hc) ∧ W.cell? ⟨w.heap.size, 6, none⟩ = some (.slice a.ba s.bin.length a.bc)) := Lib.hid fun W hb =>
  have k := HP.out.keep hb
  ⟨(k.cell 0).trans rfl, (k.cell 1).trans rfl, (k.cell 2).trans rfl, (k.cell 3).trans rfl, (k.cell 4).trans rfl, (k.cell 5).trans rfl, (k.cell 6).trans rfl⟩
 clear hI hqa hqb hsz htr hfl hf1 hf2 hf3
 obtain ⟨n, hn⟩ : ∃ n, s.copies.length = n := ⟨_, rfl⟩
 have HN := Lib.hid hn
 obtain ⟨nt, hnt⟩ : ∃ nt, s.tiers.length = nt := ⟨_, rfl⟩
 have HNT := Lib.hid hnt
 rw [hn] at q4 hcl z4 HW1 HBY HTW HFR HCL ⊢
 rw [hnt] at q2 htl HW1 HBY HTW HFR HCL ⊢
 have HC4 : Hid (∀ W, Below W1.heap.size W1 W → W.cell? ⟨w.heap.size, 4, none⟩ = some (.slice a.ca n a.cc)) := Lib.hid fun W hb => (HCL.out W hb).2.2.2.2.1
 clear hn hnt
 go_enter Tryz.func43, Tryz.ntmps43
 go_wp2_with fail
 rw [HW1.out]
 go_wp2_with (go_at_call 83; refine HBY.out.mono ?_; rintro e w5 ⟨mb, rfl, hmb, hM, hB5⟩; have HM5 := Lib.hid hM; have HBW5 := Lib.hid hB5; have HB5 := Lib.hid (below_up HB1.out hB5); have n4 := HC4.out _ HBW5.out)
 clear q0 q1 q2 q3 q4 q5 q6 n4 hmb hM hB5
 go_loopg [15] n (fun gk i wr => ∃ j : Nat, j ≤ n ∧ gk = n - j ∧ i = .int .i64 j ∧ St.scan (St.copyE s.tiers s.files) (s.copies.take j) (s.copies.drop j) = qa ∧ (∀ k c, k < j → s.copies[k]? = some c → c.dig.size = 16 ∧ c.tier.size ≤ 40) ∧ Below w5.heap.size w5 wr)
 case atStart => exact ⟨0, by omega, rfl, rfl, HQ1.out, fun k c hk => absurd hk (Nat.not_lt_zero _), Below.refl _ _⟩
 case round =>
  obtain ⟨j, hj, rfl, rfl, hs, hsh, hB⟩ := hrel
  have HS := Lib.hid hs; have HSP := Lib.hid hsh; clear hs hsh
  have HBR := Lib.hid (below_up HB5.out hB)
  have hBW := below_up HBW5.out hB
  by_cases hlt : j < n
  ·obtain ⟨x, hx⟩ : ∃ x, s.copies[j]? = some x := ⟨_, List.getElem?_eq_getElem (by rw [HN.out]; exact hlt)⟩
   obtain ⟨b, off, ha, hb, hcell⟩ := ((HI1.out.keep hBW).co) (by rw [HN.out]; omega)
   have c0 : wr.cell? ⟨b, off + j * 4, none⟩ = some (.string x.dig) := hcell j x hx 0 (.string x.dig) rfl
   have c1 : wr.cell? ⟨b, off + j * 4 + 1, none⟩ = some (.string x.tier) := hcell j x hx 1 (.string x.tier) rfl
   have c2 : wr.cell? ⟨b, off + j * 4 + 2, none⟩ = some (.bool x.good) := hcell j x hx 2 (.bool x.good) rfl
   have c3 : wr.cell? ⟨b, off + j * 4 + 3, none⟩ = some (.int .i64 x.asked) := hcell j x hx 3 (.int .i64 x.asked) rfl
   clear hcell
   have HX := Lib.hid hx
   obtain ⟨W3, hW3, hX3, hz3, hB3⟩ := box wr #[.string x.dig, .string x.tier, .bool x.good, .int .i64 x.asked] 70
   have HW3 := Lib.hid hW3
   have HD : Hid (∀ W, Below W3.heap.size W3 W → W.cell? ⟨wr.heap.size, 0, none⟩ = some (.string x.dig) ∧ W.cell? ⟨wr.heap.size, 1, none⟩ = some (.string x.tier) ∧ W.cell? ⟨wr.heap.size, 2, none⟩ = some (.bool x.good) ∧ W.cell? ⟨wr.heap.size, 3, none⟩ = some (.int .i64 x.asked)) := Lib.hid fun W hb =>
    have k := hX3.keep hb
    ⟨(k.cell 0).trans rfl, (k.cell 1).trans rfl, (k.cell 2).trans rfl, (k.cell 3).trans rfl⟩
   obtain ⟨d0, d1, d2, d3⟩ := HD.out _ (Below.refl _ _)
   obtain ⟨y, hy⟩ : ∃ y, (St.lastOf s.files x.dig).getD St.zeroF = y := ⟨_, rfl⟩
   obtain ⟨bf, hbf⟩ : ∃ bf, (St.lastOf s.files x.dig).isSome = bf := ⟨_, rfl⟩
   have hlk : (Instr.lookup 112 (.map (some mb)) (.string x.dig) true).run Tryz.prog W3 = .ok (.tuple #[.agg #[.string y.dig, .int .i64 y.size, .int .i64 y.kind, .string y.frm], .bool bf]) W3 := by
    have := ((HM5.out.keep hB).keep hB3).look_ok (HCZ.out x (List.mem_of_getElem? hx)).1
    rw [hy, hbf] at this; exact this
   rw [St.lastOf_up HU.out] at hbf
   obtain ⟨W4, hW4, hX4, hz4, hB4⟩ := box W3 #[.string y.dig, .int .i64 y.size, .int .i64 y.kind, .string y.frm] 68
   have HW4 := Lib.hid hW4
   have HB34 := Lib.hid hB4
   have HAL4 := Lib.hid (below_up (below_up HBR.out hB3) hB4)
   have HAQ4 := Lib.hid (below_up (below_up hB hB3) hB4)
   have HAW4 := Lib.hid (below_up (below_up hBW hB3) hB4)
   obtain ⟨e0, e1, e2, e3⟩ := HD.out _ hB4
   obtain ⟨m0, m1, m2, m3, m4, m5, m6⟩ := HCL.out _ HAW4.out
   have HTA := Lib.hid (HTW.out _ HAW4.out x.tier)
   have HHT := Lib.hid (St.hasTier_idx s.tiers x.tier)
   have HMO := Lib.hid (fun W => isMomentS_is x.asked W)
   have HDF : Hid (St.copyE s.tiers s.files (s.copies.take j) x = if bf = true ∧ St.hasTier s.tiers x.tier = true then (match (s.copies.take j).getLast? with | some p => (if St.ahead p x = true then (if St.isMom x.asked = true then 0 else 2) else 5) | none => (if St.isMom x.asked = true then 0 else 2)) else 7) := Lib.hid (by unfold St.copyE; rw [hbf]; rfl)
   have HSX := Lib.hid (fun h1 h2 => HSH.out x (hbf.trans h1) h2)
   have hj0 : (0 : Int) ≤ (j : Int) := by omega
   have hj1 : (j : Int) < (n : Int) := by omega
   generalize St.tierAt s.tiers x.tier = ti at *
   clear hx hB hX3 hz3 hB3 hW3 hW4 hX4 hz4 hB4 hy hbf hBW
   have HPV : Hid (∀ W, Below W1.heap.size W1 W → ∀ i p, s.copies[i]? = some p → W.cell? ⟨b, off + i * 4, none⟩ = some (.string p.dig) ∧ W.cell? ⟨b, off + i * 4 + 1, none⟩ = some (.string p.tier)) := Lib.hid fun W hb i p hp => by
    obtain ⟨b2, off2, ha2, hb2, hc2⟩ := (HI1.out.keep hb).co (by rw [HN.out]; omega)
    rw [ha] at ha2; cases ha2
    exact ⟨hc2 i p hp 0 _ rfl, hc2 i p hp 1 _ rfl⟩
   rw [ha] at m4 HTA HC4 ⊢
   cases bf
   ·have HBD : Hid (St.copyE s.tiers s.files (s.copies.take j) x = 7) := Lib.hid (by rw [HDF.out, if_neg (by simp)])
    have HE := Lib.hid (St.scan_here HS.out HX.out (by rw [HBD.out]; decide))
    go_upto_region 5 with fail
    rw [HW3.out]
    go_upto_region 6 with fail
    rw [HW4.out]
    go_wp2_with (first | (go_at_call 81; (with_reducible refine HTA.out.mono ?_); rintro e w6 ⟨rfl, hB6⟩; have HB6 := Lib.hid hB6; obtain ⟨g0, g1, g2, g3⟩ := HD.out _ (below_up HB34.out hB6); have g4 := HC4.out _ (below_up HAW4.out hB6)) | (go_at_call 85; (with_reducible refine (HMO.out _).mono ?_); rintro e w8 ⟨rfl, rfl⟩))
    go_ret
    exact ⟨ret_int (by rw [HF.out, HE.out, HBD.out]; rfl), HAL4.out⟩
   by_cases hti : ti < 0
   ·have HBD : Hid (St.copyE s.tiers s.files (s.copies.take j) x = 7) := Lib.hid (by rw [HDF.out, if_neg (by rintro ⟨_, g⟩; rw [HHT.out, decide_eq_true_eq] at g; omega)])
    have HE := Lib.hid (St.scan_here HS.out HX.out (by rw [HBD.out]; decide))
    go_upto_region 5 with fail
    rw [HW3.out]
    go_upto_region 6 with fail
    rw [HW4.out]
    go_wp2_with (first | (go_at_call 81; (with_reducible refine HTA.out.mono ?_); rintro e w6 ⟨rfl, hB6⟩; have HB6 := Lib.hid hB6; obtain ⟨g0, g1, g2, g3⟩ := HD.out _ (below_up HB34.out hB6); have g4 := HC4.out _ (below_up HAW4.out hB6)) | (go_at_call 85; (with_reducible refine (HMO.out _).mono ?_); rintro e w8 ⟨rfl, rfl⟩))
    go_ret
    exact ⟨ret_int (by rw [HF.out, HE.out, HBD.out]; rfl), below_up HAL4.out HB6.out⟩
   ·have hht : St.hasTier s.tiers x.tier = true := by rw [HHT.out, decide_eq_true_eq]; omega
    have HDG : Hid (St.copyE s.tiers s.files (s.copies.take j) x = match (s.copies.take j).getLast? with | some p => (if St.ahead p x = true then (if St.isMom x.asked = true then 0 else 2) else 5) | none => (if St.isMom x.asked = true then 0 else 2)) := Lib.hid (by rw [HDF.out, if_pos ⟨rfl, hht⟩])
    have HXS := Lib.hid (HSX.out rfl hht)
    have HSN : Hid (∀ k c, k < j + 1 → s.copies[k]? = some c → c.dig.size = 16 ∧ c.tier.size ≤ 40) := Lib.hid fun k c hk hc => by
     by_cases e : k = j
     ·subst e; rw [HX.out] at hc; obtain rfl := Option.some.inj hc; exact HXS.out
     ·exact HSP.out k c (by omega) hc
    clear hht
    go_upto_region 5 with fail
    rw [HW3.out]
    go_upto_region 6 with fail
    rw [HW4.out]
    go_upto_region 8 with (first | (go_at_call 81; (with_reducible refine HTA.out.mono ?_); rintro e w6 ⟨rfl, hB6⟩; have HB6 := Lib.hid hB6; obtain ⟨g0, g1, g2, g3⟩ := HD.out _ (below_up HB34.out hB6); have g4 := HC4.out _ (below_up HAW4.out hB6)) | (go_at_call 85; (with_reducible refine (HMO.out _).mono ?_); rintro e w8 ⟨rfl, rfl⟩))
    have HAW6 := Lib.hid (below_up HAW4.out HB6.out)
    have HAL6 := Lib.hid (below_up HAL4.out HB6.out)
    have HAQ6 := Lib.hid (below_up HAQ4.out HB6.out)
    have HB36 := Lib.hid (below_up HB34.out HB6.out)
    clear d0 d1 d2 d3 e0 e1 e2 e3 m0 m1 m2 m3 m4 m5 m6 c0 c1 c2 c3 HTA
    obtain ⟨gd, hgd⟩ : ∃ gd, St.isMom x.asked = gd := ⟨_, rfl⟩
    have HGD := Lib.hid hgd
    rcases Nat.eq_zero_or_pos j with rfl | hjp
    ·have HDZ : Hid (St.copyE s.tiers s.files (s.copies.take 0) x = if gd = true then 0 else 2) := Lib.hid (by rw [HDG.out, St.last_zero, hgd])
     have k0 := cell_regrown g0
     have k1 := cell_regrown g1
     have k4 := cell_regrown g4
     refine wp_region_quiet_below (by kernel_rfl) (by kernel_rfl) ?_
     repeat (go_big_quiet_step ((fail)))
     refine wpQuiet_nil ?_
     intro _ hw'
     obtain ⟨⟨dq, osq⟩, hw''⟩ := hw'
     subst hw''
     have hBw7 := below_regrown w6 dq osq
     generalize grow (redrawn w6 dq) osq = w7 at *
     clear dq osq
     obtain ⟨r0, r1, r2, r3⟩ := HD.out _ (below_up HB36.out hBw7)
     have r4 := HC4.out _ (below_up HAW6.out hBw7)
     cases gd
     ·have HBD : Hid (St.copyE s.tiers s.files (s.copies.take (0)) x = 2) := Lib.hid (by rw [HDZ.out]; rfl)
      have HE := Lib.hid (St.scan_here HS.out HX.out (by rw [HBD.out]; decide))
      go_wp2_with (go_at_call 85; (with_reducible refine (HMO.out _).mono ?_); rw [HGD.out]; rintro e w8 ⟨rfl, rfl⟩)
      go_ret
      exact ⟨ret_int (by rw [HF.out, HE.out, HBD.out]; rfl), below_up HAL6.out hBw7⟩
     ·have HBD : Hid (St.copyE s.tiers s.files (s.copies.take (0)) x = 0) := Lib.hid (by rw [HDZ.out]; rfl)
      have HE := Lib.hid (St.scan_next HS.out HX.out HBD.out)
      go_wp2_with (go_at_call 85; (with_reducible refine (HMO.out _).mono ?_); rw [HGD.out]; rintro e w8 ⟨rfl, rfl⟩)
      rw [← ha]
      go_roundg (n - (0 + 1))
      case rel => exact ⟨0 + 1, by omega, rfl, by go_num, HE.out, HSN.out, below_up HAQ6.out hBw7⟩
      case measure => omega
    ·obtain ⟨p, hp, hlast⟩ := St.last_at (L := s.copies) (by rw [HN.out]; exact hlt) hjp
     obtain ⟨i, rfl⟩ : ∃ i, j = i + 1 := ⟨j - 1, by omega⟩
     rw [Nat.add_sub_cancel] at hp
     obtain ⟨p0, p1⟩ := HPV.out _ HAW6.out i p hp
     obtain ⟨s1, s2⟩ := HSP.out i p (by omega) hp
     obtain ⟨s3, s4⟩ := HXS.out
     have HLE := Lib.hid (St.le_key (d := p.dig) (t := p.tier) (d' := x.dig) (t' := x.tier) (s1.trans s3.symm))
     obtain ⟨ah, hah⟩ : ∃ ah, St.ahead p x = ah := ⟨_, rfl⟩
     have HLA : Hid (St.le (St.key x.dig x.tier) (St.key p.dig p.tier) = !ah) := Lib.hid (HLE.out.trans (by rw [← hah]; rfl))
     have HDZ : Hid (St.copyE s.tiers s.files (s.copies.take (i + 1)) x = if ah = true then (if gd = true then 0 else 2) else 5) := Lib.hid (by rw [HDG.out, hlast, ← hah, hgd])
     have HK1 := Lib.hid (fun d os => Calls.regrown_of (w := w6) (d := d) (os := os) (copyKey_is x.dig x.tier (by omega) (by omega) _ |>.mono fun _ _ h => ⟨h.1, by rw [← h.2]; exact Below.refl _ _⟩))
     have HK2 := Lib.hid (fun d os => Calls.regrown_of (w := w6) (d := d) (os := os) (copyKey_is p.dig p.tier (by omega) (by omega) _ |>.mono fun _ _ h => ⟨h.1, by rw [← h.2]; exact Below.refl _ _⟩))
     have k0 := cell_regrown g0
     have k1 := cell_regrown g1
     have k4 := cell_regrown g4
     have k5 := cell_regrown p0
     have k6 := cell_regrown p1
     clear hp hlast hah s1 s2 s3 s4 hgd
     refine wp_region_quiet_below (by kernel_rfl) (by kernel_rfl) ?_
     repeat (go_big_quiet_step ((go_at_call 84; first | (with_reducible exact HK1.out _ _) | (with_reducible exact HK2.out _ _))))
     refine wpQuiet_nil ?_
     intro _ hw'
     obtain ⟨⟨dq, osq⟩, hw''⟩ := hw'
     subst hw''
     have hBw7 := below_regrown w6 dq osq
     generalize grow (redrawn w6 dq) osq = w7 at *
     clear dq osq
     have LQ : ∀ b2 : Bool, (!ah) = b2 → (Op.bytesLess (St.key x.dig x.tier).toList (St.key p.dig p.tier).toList || (St.key x.dig x.tier).toList == (St.key p.dig p.tier).toList) = b2 := fun b2 h => HLA.out.trans h
     have HLQ := Lib.hid LQ; clear LQ
     cases ah
     ·have hcmp := HLQ.out true rfl
      simp only [hcmp]
      clear hcmp
      have HBD : Hid (St.copyE s.tiers s.files (s.copies.take (i + 1)) x = 5) := Lib.hid (by rw [HDZ.out]; rfl)
      have HE := Lib.hid (St.scan_here HS.out HX.out (by rw [HBD.out]; decide))
      go_wp2_with fail
      go_ret
      exact ⟨ret_int (by rw [HF.out, HE.out, HBD.out]; rfl), below_up HAL6.out hBw7⟩
     ·have hcmp := HLQ.out false rfl
      simp only [hcmp]
      clear hcmp
      obtain ⟨r0, r1, r2, r3⟩ := HD.out _ (below_up HB36.out hBw7)
      have r4 := HC4.out _ (below_up HAW6.out hBw7)
      cases gd
      ·have HBD : Hid (St.copyE s.tiers s.files (s.copies.take (i + 1)) x = 2) := Lib.hid (by rw [HDZ.out]; rfl)
       have HE := Lib.hid (St.scan_here HS.out HX.out (by rw [HBD.out]; decide))
       go_wp2_with (go_at_call 85; (with_reducible refine (HMO.out _).mono ?_); rw [HGD.out]; rintro e w8 ⟨rfl, rfl⟩)
       go_ret
       exact ⟨ret_int (by rw [HF.out, HE.out, HBD.out]; rfl), below_up HAL6.out hBw7⟩
      ·have HBD : Hid (St.copyE s.tiers s.files (s.copies.take (i + 1)) x = 0) := Lib.hid (by rw [HDZ.out]; rfl)
       have HE := Lib.hid (St.scan_next HS.out HX.out HBD.out)
       go_wp2_with (go_at_call 85; (with_reducible refine (HMO.out _).mono ?_); rw [HGD.out]; rintro e w8 ⟨rfl, rfl⟩)
       rw [← ha]
       go_roundg (n - (i + 1 + 1))
       case rel => exact ⟨i + 1 + 1, by omega, rfl, by go_num, HE.out, HSN.out, below_up HAQ6.out hBw7⟩
       case measure => omega
  ·obtain rfl : j = n := by omega
   have HE := HS.out
   rw [← HN.out] at HE
   have hq0 := St.scan_done HE
   have HF2 : Hid (St.copiesE s = qb) := Lib.hid (by rw [HF.out, if_pos hq0])
   clear HE hq0
   obtain ⟨m0, m1, m2, m3, m4, m5, m6⟩ := HCL.out _ hBW
   have HBWR := Lib.hid hBW
   have HBK := Lib.hid hB
   have HFG := Lib.hid HFR.out
   clear hBW hB HFR
   go_wp2_with fail
   clear m0 m1 m2 m3 m4 m5 m6
   go_loopg [72] nt (fun gk i wq => ∃ k : Nat, k ≤ nt ∧ gk = nt - k ∧ i = .int .i64 k ∧ St.scan (St.fullE s.files s.copies) (s.tiers.take k) (s.tiers.drop k) = qb ∧ Below w5.heap.size w5 wq)
   case atStart => exact ⟨0, by omega, rfl, rfl, HQ2.out, HBK.out⟩
   case round =>
    obtain ⟨k, hk, rfl, rfl, hs, hB⟩ := hrel
    have HS2 := Lib.hid hs; clear hs
    have HBQ := Lib.hid (below_up HB5.out hB)
    have hBWq := below_up HBW5.out hB
    by_cases hlt2 : k < nt
    ·obtain ⟨x, hx⟩ : ∃ x, s.tiers[k]? = some x := ⟨_, List.getElem?_eq_getElem (by rw [HNT.out]; exact hlt2)⟩
     obtain ⟨b, off, ha, hb, hcell⟩ := ((HI1.out.keep hBWq).ti) (by rw [HNT.out]; omega)
     have c0 : wr.cell? ⟨b, off + k * 4, none⟩ = some (.string x.name) := hcell k x hx 0 (.string x.name) rfl
     have c1 : wr.cell? ⟨b, off + k * 4 + 1, none⟩ = some (.int .i64 x.room) := hcell k x hx 1 (.int .i64 x.room) rfl
     have c2 : wr.cell? ⟨b, off + k * 4 + 2, none⟩ = some (.int .i64 x.cost) := hcell k x hx 2 (.int .i64 x.cost) rfl
     have c3 : wr.cell? ⟨b, off + k * 4 + 3, none⟩ = some (.bool x.away) := hcell k x hx 3 (.bool x.away) rfl
     clear hcell
     have HX := Lib.hid hx
     obtain ⟨W3, hW3, hX3, hz3, hB3⟩ := box wr #[.string x.name, .int .i64 x.room, .int .i64 x.cost, .bool x.away] 65
     have HW3 := Lib.hid hW3
     have d0 : W3.cell? ⟨wr.heap.size, 0, none⟩ = some (.string x.name) := (hX3.cell 0).trans rfl
     have d1 : W3.cell? ⟨wr.heap.size, 1, none⟩ = some (.int .i64 x.room) := (hX3.cell 1).trans rfl
     have d2 : W3.cell? ⟨wr.heap.size, 2, none⟩ = some (.int .i64 x.cost) := (hX3.cell 2).trans rfl
     have d3 : W3.cell? ⟨wr.heap.size, 3, none⟩ = some (.bool x.away) := (hX3.cell 3).trans rfl
     have HAL := Lib.hid (below_up HBQ.out hB3)
     have HAQ := Lib.hid (below_up hB hB3)
     have HAW := Lib.hid (below_up hBWq hB3)
     obtain ⟨m0, m1, m2, m3, m4, m5, m6⟩ := HCL.out _ HAW.out
     have HFE := Lib.hid (HFG.out _ HAW.out x mb ((HM5.out.keep hB).keep hB3) (HTK.out x (List.mem_of_getElem? hx)))
     obtain ⟨fr, hfr⟩ : ∃ fr, x.room - St.used s.files x.name s.copies = fr := ⟨_, rfl⟩
     have HDF : Hid (St.fullE s.files s.copies (s.tiers.take k) x = if fr < 0 then 12 else 0) := Lib.hid (by unfold St.fullE; rw [hfr])
     rw [hfr] at HFE
     have hj0 : (0 : Int) ≤ (k : Int) := by omega
     have hj1 : (k : Int) < (nt : Int) := by omega
     clear hx hB hX3 hz3 hB3 hW3 hBWq hfr
     rw [ha] at m2 HFE ⊢
     by_cases hf : fr < 0
     ·have HBD : Hid (St.fullE s.files s.copies (s.tiers.take k) x = 12) := Lib.hid (by rw [HDF.out, if_pos hf])
      have HE := Lib.hid (St.scan_here HS2.out HX.out (by rw [HBD.out]; decide))
      go_upto_region 16 with fail
      rw [HW3.out]
      go_wp2_with (go_at_call 86; (with_reducible refine HFE.out.mono ?_); rintro e w6 ⟨rfl, hB6⟩)
      go_ret
      exact ⟨ret_int (by rw [HF2.out, HE.out, HBD.out]), below_up HAL.out hB6⟩
     ·have HBD : Hid (St.fullE s.files s.copies (s.tiers.take k) x = 0) := Lib.hid (by rw [HDF.out, if_neg hf])
      have HE := Lib.hid (St.scan_next HS2.out HX.out HBD.out)
      go_upto_region 16 with fail
      rw [HW3.out]
      go_wp2_with (go_at_call 86; (with_reducible refine HFE.out.mono ?_); rintro e w6 ⟨rfl, hB6⟩)
      rw [← ha]
      go_roundg (nt - (k + 1))
      case rel => exact ⟨k + 1, by omega, rfl, by go_num, HE.out, below_up HAQ.out hB6⟩
      case measure => omega
    ·obtain rfl : k = nt := by omega
     have HE := HS2.out
     rw [← HNT.out] at HE
     have HE2 := Lib.hid (St.scan_done HE)
     clear HE
     go_wp2_with fail
     go_ret
     exact ⟨ret_int (by rw [HF2.out, HE2.out]), HBQ.out⟩
theorem held_is (s : Sto) (a : StA) (w : World) :
  Calls Tryz.prog 88 #[.agg #[.int .i64 s.least, .int .i64 s.wait, .slice a.ta s.tiers.length a.tc, .slice a.fa s.files.length a.fc, .slice a.ca s.copies.length a.cc, .slice a.ha s.held.length a.hc, .slice a.ba s.bin.length a.bc]] w fun e w' => e = .returned (.agg #[.func (.func 117) #[] #[], .slice a.ha s.held.length a.hc]) ∧ Below w.heap.size w w' := by
 obtain ⟨W1, hW1, hP, hz1, hB1⟩ := box w #[.int .i64 s.least, .int .i64 s.wait, .slice a.ta s.tiers.length a.tc, .slice a.fa s.files.length a.fc, .slice a.ca s.copies.length a.cc, .slice a.ha s.held.length a.hc, .slice a.ba s.bin.length a.bc] 28
 have HW1 := Lib.hid hW1; have HB1 := Lib.hid hB1
 have q5 : W1.cell? ⟨w.heap.size, 5, none⟩ = some (.slice a.ha s.held.length a.hc) := (hP.cell 5).trans rfl
 obtain ⟨W2, hW2, hX2, hz2, hB2⟩ := box W1 #[.func (.func 117) #[] #[], .slice a.ha s.held.length a.hc] 116
 have HW2 := Lib.hid hW2
 rw [hz1] at hX2
 have HX2 := Lib.hid hX2; have HBB := Lib.hid (below_up hB1 hB2)
 have hsf : ∀ (fn : Fn) (x y : Array Value) (p : Addr) (m : Mode) (W : World), (store p (.func fn x y) m).run Tryz.prog W = stored Tryz.prog W p (.func fn x y) m := fun fn x y p m W => run_store Tryz.prog W p _ m rfl
 clear hW1 hP hW2 hX2 hB1 hB2
 go_enter Tryz.func88, Tryz.ntmps88
 go_wp2_with fail
 rw [HW1.out]
 go_wp2_with fail
 rw [HW2.out]
 have g0 : W2.cell? ⟨w.heap.size + 1, 0, none⟩ = some (.func (.func 117) #[] #[]) := (HX2.out.cell 0).trans rfl
 have g1 : W2.cell? ⟨w.heap.size + 1, 1, none⟩ = some (.slice a.ha s.held.length a.hc) := (HX2.out.cell 1).trans rfl
 refine bodyPost_ret (v := .agg #[.func (.func 117) #[] #[], .slice a.ha s.held.length a.hc]) (by simp [results, Tryz.results88, go_sem, g0, g1]) rfl ⟨rfl, HBB.out⟩
end Go.Proofs.YtbbgebpgpadclaaGreatDoor

/- Parts of the proof, no condition: StRpQ, StRpR. -/
import Derived.Test.YtbbgebpgpadclaaGreatDoorSr7
import Derived.Test.YtbbgebpgpadclaaGreatDoorSr1
import Derived.Maps.RangeWalk
set_option maxRecDepth 100000
set_option maxHeartbeats 8000000
set_option linter.unusedSimpArgs false
set_option linter.unusedVariables false
namespace Go.Proofs.YtbbgebpgpadclaaGreatDoor
open Go.RowKit Go.Sort Go.Shelf Go.Maps
theorem put1_pre {R R1 R2 R3 R4 : List (List UInt8)} {b1 b2 b3 b4 v4 : Bool} {x1 : List UInt8} {v2 v3 : Int} (h1 : WordOk R false x1 R1 b1) (h2 : NumOk R1 b1 v2 R2 b2) (h3 : NumOk R2 b2 v3 R3 b3) (h4 : EitOk R3 b3 St.wAway St.wHere v4 R4 b4) :
  (b4 = false ∧ ∃ y z u n m, R = x1 :: y :: z :: u :: R4 ∧ x1 ≠ [] ∧ St.num13 y = some n ∧ St.num13 z = some m ∧ St.two u St.wAway St.wHere = some v4 ∧ v2 = ((n : Nat) : Int) ∧ v3 = ((m : Nat) : Int)) ∨ (b4 = true ∧ St.entT R = none) := by
 rcases h1 with ⟨k1, rfl, rfl⟩ | ⟨rfl, rfl, k3⟩
 ·rcases h2 with ⟨y, n, rfl, m2, rfl, rfl⟩ | ⟨rfl, m2⟩
  ·rcases h3 with ⟨z, m, rfl, p2, rfl, rfl⟩ | ⟨rfl, p2⟩
   ·rcases h4 with ⟨u, q1, rfl, q2, rfl⟩ | ⟨rfl, q2⟩
    ·exact .inl ⟨rfl, y, z, u, n, m, rfl, k1, m2, p2, q2, rfl, rfl⟩
    ·refine .inr ⟨rfl, ?_⟩
     match R3, q2 with
     | [], _ => rfl
     | [u], q2 =>
       unfold St.entT
       rcases q2 u [] rfl with rfl | e
       ·have : St.two [] St.wAway St.wHere = none := by decide
        simp [this]
       ·simp [e]
     | _ :: _ :: _, _ => rfl
   ·refine .inr ⟨h4.bad, ?_⟩
    match R2, p2 with
    | [], _ => rfl
    | [z], _ => rfl
    | [z, u], p2 => unfold St.entT; simp [p2 z [u] rfl]
    | _ :: _ :: _ :: _, _ => rfl
  ·have e3 := h3.bad
   subst e3
   refine .inr ⟨h4.bad, ?_⟩
   match R1, m2 with
   | [], _ => rfl
   | [y], _ => rfl
   | [y, z], _ => rfl
   | [y, z, u], m2 => unfold St.entT; simp [m2 y [z, u] rfl]
   | _ :: _ :: _ :: _ :: _, _ => rfl
 ·have e2 := h2.bad
  subst e2
  have e3 := h3.bad
  subst e3
  refine .inr ⟨h4.bad, ?_⟩
  match R, k3 with
  | [], _ => rfl
  | [x], _ => rfl
  | [x, y], _ => rfl
  | [x, y, z], _ => rfl
  | [x, y, z, u], k3 => unfold St.entT; simp [k3 x [y, z, u] rfl]
  | _ :: _ :: _ :: _ :: _ :: _, _ => rfl
theorem put1_is (s : Sto) (b : StA) (sb K B rb : Nat) (R : List (List UInt8)) (w : World) (h : RdIn w K B rb R false) (hS : StIO w sb s b) (hsr : sb < rb ∧ sb < K) (hBw : B ≤ w.heap.size) (hcn : s.tiers.length ≤ 900000) (hl : ∀ x ∈ R, x.length ≤ 1000000000000) :
  Calls Tryz.prog 16 #[.pointer (some ⟨rb, 0, none⟩), .pointer (some ⟨sb, 0, none⟩), .int .i64 1] w (PutPost w sb rb s 1 R) := by
 have HW1 := Lib.hid (rdWord_is R false K B rb w h)
 unfold WordPost at HW1
 obtain ⟨a0, c0, hb0⟩ := h.blk
 have HSS := Lib.hid hS
 have HB0 := Lib.hid hb0
 have HL := Lib.hid hl
 have hsl := (Array.getElem?_eq_some_iff.1 hS.blk).1
 have hrl := h.lt
 have HSB : Hid ((sb < rb ∧ sb < K) ∧ sb < w.heap.size ∧ rb < B ∧ B ≤ w.heap.size) := Lib.hid ⟨hsr, hsl, hrl, hBw⟩
 clear h hS hb0 hl hsr hsl hrl hBw
 go_enter Tryz.func16, Tryz.ntmps16
 go_upto_region 6 with (go_at_call 15; (with_reducible refine HW1.out.mono ?_); rintro e w2 ⟨x1, R1, b1, hok1, hs1, rfl, hrd1, hg1⟩)
 obtain ⟨W3, hW3, hX3, hz3, hB3⟩ := box w2 #[.string (Tx.mk x1), .int .i64 0, .int .i64 0, .bool false] 65
 rw [hW3]
 have hl1 : ∀ x ∈ R1, x.length ≤ 1000000000000 := fun x hx => HL.out x (hs1 x hx)
 have HOK1 := Lib.hid hok1
 have hS2 := HSS.out.far HB0.out (by have := HSB.out; omega) (by decide) (by decide) (by decide) (by decide) (by decide) hg1
 have HNB := Lib.hid (hS2.noB (Nat.le_refl _))
 have hSW := hS2.keep hB3
 have hsz := hg1.size
 obtain ⟨tb, htb⟩ : ∃ tb, w2.heap.size = tb := ⟨_, rfl⟩
 rw [htb] at hX3 hz3 hsz HNB ⊢
 have HTB : Hid (rb < tb ∧ B ≤ tb ∧ sb < tb) := Lib.hid (by have := HSB.out; omega)
 have HR := Lib.hid (hrd1.keep hB3)
 have HT := Lib.hid hX3
 have HS := Lib.hid hSW
 have HBW := Lib.hid ((below_rp (sb := sb) hg1 (by have := HSB.out; omega) (by have := HSB.out; omega)).trans (below_rp (sb := sb) (grownB hB3 (some rb)) (by have := HSB.out; omega) (by have := HSB.out; omega)))
 clear hW3 hX3 hz3 hB3 hok1 hs1 hrd1 hg1 hSW hsz htb hS2
 have HN2 := Lib.hid (numberS_is R1 b1 K B rb W3 HR.out hl1)
 unfold NumrPost at HN2
 obtain ⟨a3, c3, hb3⟩ := HR.out.blk
 have HBK := Lib.hid hb3
 have HL1 := Lib.hid hl1
 clear hb3 hl1
 go_upto_region 7 with (go_at_call 37; (with_reducible refine HN2.out.mono ?_); rintro e w4 ⟨v2, R2, b2, hok2, hs2, rfl, hrd, hg⟩; have hT : Blk w4 tb _ _ := HT.out.of_block (hg.block tb (Array.getElem?_eq_some_iff.1 HT.out).1 (fun e => by have := Option.some.inj e; have := HTB.out; omega)); have hSW := HS.out.far HBK.out (by have := HSB.out; omega) (by decide) (by decide) (by decide) (by decide) (by decide) hg; obtain ⟨t0, t1, t2, t3⟩ := hT.four; have tf := hT.free)
 have HOK2 := Lib.hid hok2
 have HL2 : Hid (∀ x ∈ R2, x.length ≤ 1000000000000) := Lib.hid fun x hx => HL1.out x (hs2 x hx)
 clear hok2 hs2
 have hgs := grown_set (grown_self w4 tb) 1 (.int .i64 v2)
 have HR := Lib.hid (hrd.grow hgs HTB.out.2.1)
 have HT := Lib.hid (hT.set 1 (.int .i64 v2))
 have HS := Lib.hid (hSW.farN HNB.out hgs)
 have HBW := Lib.hid (HBW.out.trans ((below_rp (sb := sb) hg (by have := HSB.out; omega) (by have := HBW.out.size; have := HSB.out; omega)).trans (below_rp (sb := sb) hgs (by have := HTB.out; have := HSB.out; omega) (by have := hg.size; have := HBW.out.size; have := HSB.out; omega))))
 generalize (w4).setCell ⟨tb, 1, none⟩ (.int .i64 v2) = w5 at *
 have HT : Hid (Blk w5 tb #[.string (Tx.mk x1), .int .i64 v2, .int .i64 0, .bool false] 65) := HT
 clear hgs hrd hT hSW hg t0 t1 t2 t3 tf
 have HN3 := Lib.hid (numberS_is R2 b2 K B rb w5 HR.out HL2.out)
 unfold NumrPost at HN3
 obtain ⟨a4, c4, hb4⟩ := HR.out.blk
 have HBK := Lib.hid hb4
 clear hb4
 go_upto_region 8 with (go_at_call 37; (with_reducible refine HN3.out.mono ?_); rintro e w6 ⟨v3, R3, b3, hok3, hs3, rfl, hrd, hg⟩; have hT : Blk w6 tb _ _ := HT.out.of_block (hg.block tb (Array.getElem?_eq_some_iff.1 HT.out).1 (fun e => by have := Option.some.inj e; have := HTB.out; omega)); have hSW := HS.out.far HBK.out (by have := HSB.out; omega) (by decide) (by decide) (by decide) (by decide) (by decide) hg; obtain ⟨t0, t1, t2, t3⟩ := hT.four; have tf := hT.free)
 have HOK3 := Lib.hid hok3
 clear hok3 hs3
 have hgs := grown_set (grown_self w6 tb) 2 (.int .i64 v3)
 have HR := Lib.hid (hrd.grow hgs HTB.out.2.1)
 have HT := Lib.hid (hT.set 2 (.int .i64 v3))
 have HS := Lib.hid (hSW.farN HNB.out hgs)
 have HBW := Lib.hid (HBW.out.trans ((below_rp (sb := sb) hg (by have := HSB.out; omega) (by have := HBW.out.size; have := HSB.out; omega)).trans (below_rp (sb := sb) hgs (by have := HTB.out; have := HSB.out; omega) (by have := hg.size; have := HBW.out.size; have := HSB.out; omega))))
 generalize (w6).setCell ⟨tb, 2, none⟩ (.int .i64 v3) = w7 at *
 have HT : Hid (Blk w7 tb #[.string (Tx.mk x1), .int .i64 v2, .int .i64 v3, .bool false] 65) := HT
 clear hgs hrd hT hSW hg t0 t1 t2 t3 tf
 have HN4 := Lib.hid (either_is R3 b3 K B rb St.wAway St.wHere (by decide) (by decide) w7 HR.out)
 unfold EitPost at HN4
 obtain ⟨a5, c5, hb5⟩ := HR.out.blk
 have HBK := Lib.hid hb5
 clear hb5
 go_upto_region 9 with (go_at_call 38; (refine HN4.out.mono ?_); rintro e w8 ⟨v4, R4, b4, hok4, hs4, rfl, hrd, hg⟩; have hT : Blk w8 tb _ _ := HT.out.of_block (hg.block tb (Array.getElem?_eq_some_iff.1 HT.out).1 (fun e => by have := Option.some.inj e; have := HTB.out; omega)); have hSW := HS.out.far HBK.out (by have := HSB.out; omega) (by decide) (by decide) (by decide) (by decide) (by decide) hg; obtain ⟨t0, t1, t2, t3⟩ := hT.four; have tf := hT.free)
 have HOK4 := Lib.hid hok4
 clear hok4 hs4
 have hgs := grown_set (grown_self w8 tb) 3 (.bool v4)
 have HR := Lib.hid (hrd.grow hgs HTB.out.2.1)
 have HT := Lib.hid (hT.set 3 (.bool v4))
 have HS := Lib.hid (hSW.farN HNB.out hgs)
 have HBW := Lib.hid (HBW.out.trans ((below_rp (sb := sb) hg (by have := HSB.out; omega) (by have := HBW.out.size; have := HSB.out; omega)).trans (below_rp (sb := sb) hgs (by have := HTB.out; have := HSB.out; omega) (by have := hg.size; have := HBW.out.size; have := HSB.out; omega))))
 generalize (w8).setCell ⟨tb, 3, none⟩ (.bool v4) = w9 at *
 have HT : Hid (Blk w9 tb #[.string (Tx.mk x1), .int .i64 v2, .int .i64 v3, .bool v4] 65) := HT
 clear hgs hrd hT hSW hg t0 t1 t2 t3 tf
 obtain ⟨t0, t1, t2, t3⟩ := HT.out.four
 obtain ⟨q0, q1, q2, q3, q4, q5, q6⟩ := HS.out.blk.seven
 have qf := HS.out.blk.free
 clear q0 q1 q2 q3 q4 q5 q6 qf t0 t1 t2 t3
 have hv : Below w9.heap.size w9 w9.drew := (Below.refl _ _).drew
 have hHeld : (fun W : World => W.cell? ⟨sb, 2, none⟩ = some (.slice b.ta s.tiers.length b.tc) ∧ W.cell? ⟨tb, 0, none⟩ = some (.string (Tx.mk x1)) ∧ W.cell? ⟨tb, 1, none⟩ = some (.int .i64 v2) ∧ W.cell? ⟨tb, 2, none⟩ = some (.int .i64 v3) ∧ W.cell? ⟨tb, 3, none⟩ = some (.bool v4)) w9.drew := ⟨(HS.out.keep hv).blk.seven.2.2.1, (HT.out.keep hv).four⟩
 refine wp_region_until (fun W => W.cell? ⟨sb, 2, none⟩ = some (.slice b.ta s.tiers.length b.tc) ∧ W.cell? ⟨tb, 0, none⟩ = some (.string (Tx.mk x1)) ∧ W.cell? ⟨tb, 1, none⟩ = some (.int .i64 v2) ∧ W.cell? ⟨tb, 2, none⟩ = some (.int .i64 v3) ∧ W.cell? ⟨tb, 3, none⟩ = some (.bool v4)) 10 (by kernel_rfl) ?_
 refine anyM_take0 (i := 0) (v := ?_) rfl (by decide) (by kernel_rfl) (by kernel_rfl) (by kernel_rfl) (fun _ _ _ h => h) (Or.inl ⟨by rfl, ?_⟩) (fun _ => by assumption) ?_
 rotate_left
 ·(intro w hSw; go_simp; try (with_reducible rfl))
 try go_frame
 refine anyM_take0 (i := 1) (v := ?_) rfl (by decide) (by kernel_rfl) (by kernel_rfl) (by kernel_rfl) (fun _ _ _ h => h) (Or.inl ⟨by rfl, ?_⟩) (fun _ => by assumption) ?_
 rotate_left
 ·(intro w hSw; go_simp; try (with_reducible rfl))
 try go_frame
 refine anyM_take0 (i := 2) (v := ?_) rfl (by decide) (by kernel_rfl) (by kernel_rfl) (by kernel_rfl) (fun _ _ _ h => h) (Or.inl ⟨by rfl, ?_⟩) (fun _ => by assumption) ?_
 rotate_left
 ·(intro w hSw; go_simp; try (with_reducible rfl))
 try go_frame
 refine anyM_take0 (i := 3) (v := ?_) rfl (by decide) (by kernel_rfl) (by kernel_rfl) (by kernel_rfl) (fun _ _ _ h => h) (Or.inl ⟨by rfl, ?_⟩) (fun _ => by assumption) ?_
 rotate_left
 ·(intro w hSw; go_simp; try (with_reducible rfl))
 try go_frame
 refine anyM_take (i := 4) (v := ?_) rfl rfl (by kernel_rfl) (by decide) (by kernel_rfl) (by kernel_rfl) (by kernel_rfl) (fun _ _ _ h => h) (Or.inl ⟨by rfl, ?_⟩) (by rfl) (by assumption) ?_
 rotate_left
 ·(intro w hSw; (try dsimp only at hSw); (try obtain ⟨hs9, hs10, hs11, hs12, hs13⟩ := hSw); go_simp; try (with_reducible rfl))
 try go_frame
 refine anyM_take (i := 5) (v := ?_) rfl rfl (by kernel_rfl) (by decide) (by kernel_rfl) (by kernel_rfl) (by kernel_rfl) (fun _ _ _ h => h) (Or.inl ⟨by rfl, ?_⟩) (by rfl) (by assumption) ?_
 rotate_left
 ·(intro w hSw; (try dsimp only at hSw); (try obtain ⟨hs9, hs10, hs11, hs12, hs13⟩ := hSw); go_simp; try (with_reducible rfl))
 try go_frame
 have hal : Below w9.heap.size w9 (w9.drew.alloc (.cells #[.string (Tx.mk x1), .int .i64 v2, .int .i64 v3, .bool v4] 65)) := ((Below.refl _ _).drew).alloc (Nat.le_refl _) _
 have hSA := HS.out.keep hal
 have hTA := HT.out.keep hal
 have hHA := And.intro hSA.blk.seven.2.2.1 hTA.four
 refine anyM_ready (rs := [6]) (by kernel_rfl) (by simp) ?_
 refine ReadyM.cons rfl (fun K' hK => ?_) ReadyM.nil
 go_simp
 refine hK.out _ _ (fun _ => hHA) ?_
 clear hK K'
 try go_frame
 refine anyM_ready (rs := [7]) (by kernel_rfl) (by simp) ?_
 refine ReadyM.cons rfl (fun K' hK => ?_) ReadyM.nil
 refine step_appT rfl _ _ rfl (sb + 1) (.slice b.ta s.tiers.length b.tc) s.tiers.length (St.eT.flat s.tiers) (by rfl) (by rfl) (own_keepE HS.out.ti (Below.refl _ _).drew) (by omega) (by have := HBW.out.size; have := HSB.out; show sb + 1 ≤ w9.heap.size; omega) (by rfl) (by simp [Value.oneCell']) ?_
 intro g8 cap8 w8 hown8 hgrow8
 have hfl : St.eT.flat s.tiers ++ (#[.string (Tx.mk x1), .int .i64 v2, .int .i64 v3, .bool v4] : Array Value).toList = St.eT.flat (s.tiers ++ [⟨Tx.mk x1, v2, v3, v4⟩]) := by rw [Enc.flat_snoc]; rfl
 obtain ⟨m1, m2, m3⟩ := hSA.moreT (t := ⟨Tx.mk x1, v2, v3, v4⟩) hgrow8 hown8 hfl
 have hb8 : Blk w8 sb _ _ := hSA.blk.of_block (hgrow8.block sb (Array.getElem?_eq_some_iff.1 hSA.blk).1 (fun e => by have := (hSA.ti.lt sb e.symm).1; omega))
 have hT8 : Blk w8 tb _ _ := hTA.of_block (hgrow8.block tb (Array.getElem?_eq_some_iff.1 hTA).1 (fun e => HNB.out.2.1 e.symm))
 have hH8 := And.intro hb8.seven.2.2.1 hT8.four
 refine hK.out _ _ (fun _ => hH8) ?_
 clear hK K' hHeld
 try go_frame
 have hHeld := hH8
 refine anyM_take0 (i := 8) (v := ?_) rfl (by decide) (by kernel_rfl) (by kernel_rfl) (by kernel_rfl) (fun _ _ _ h => h) (Or.inl ⟨by rfl, ?_⟩) (fun _ => by assumption) ?_
 rotate_left
 ·(intro w hSw; go_simp; try (with_reducible rfl))
 try go_frame
 refine anyM_take0 (i := 9) (v := ?_) rfl (by decide) (by kernel_rfl) (by kernel_rfl) (by kernel_rfl) (fun _ _ _ h => h) (Or.inl ⟨by rfl, ?_⟩) (fun _ => by assumption) ?_
 rotate_left
 ·(intro w hSw; go_simp; try (with_reducible rfl))
 try go_frame
 clear hHeld hHA hH8
 obtain ⟨q0, q1, q2, q3, q4, q5, q6⟩ := hb8.seven
 have qf := hb8.free
 refine anyM_ready (rs := [10]) (by kernel_rfl) (by simp) ?_
 refine ReadyM.cons rfl (fun K hK => ?_) ReadyM.nil
 go_simp
 refine hK.out _ _ (fun h => absurd h (by simp)) ?_
 clear hK K
 try go_frame
 refine anyM_done (by kernel_rfl) ?_ _
 obtain ⟨a9, c9, hrb⟩ := HR.out.blk
 have HRB := Lib.hid (m3 rb _ _ (hrb.keep hal) (by decide) (by have := HSB.out; omega))
 have HBZ := Lib.hid (HBW.out.trans ((⟨hal.os, hal.tape, hal.output, hal.size, fun k hk => hal.block k (by have := HBW.out.size; have := HSB.out; omega)⟩ : Below sb w9 _).trans m2))
 have HSZ := Lib.hid m1
 have HPRE := Lib.hid (put1_pre HOK1.out HOK2.out HOK3.out HOK4.out)
 have hb9 := HRB.out
 have HRS : Hid (sb < rb) := Lib.hid HSB.out.1.1
 generalize w8.setCell ⟨sb, 2, none⟩ (.slice (some ⟨g8, 0, none⟩) (s.tiers.length + 1) cap8) = wz at *
 clear m1 m2 m3 hb8 hT8 hrb hSA hTA hal hown8 hgrow8 hfl q0 q1 q2 q3 q4 q5 q6 qf hv
 have H3 : Hid (b4 = false → R4 = [] → ∀ W, StIO W sb { s with tiers := s.tiers ++ [⟨Tx.mk x1, v2, v3, v4⟩] } { b with ta := some ⟨g8, 0, none⟩, tc := cap8 } → ∃ E b', St.entK 1 R = some E ∧ StIO W sb (E.put s) b') := Lib.hid (fun e0 e1 W hw => by
  rcases HPRE.out with ⟨_, y, z, u, n, m, p1, p2, p3, p4, p5, rfl, rfl⟩ | ⟨p, _⟩
  ·refine ⟨.tir ⟨Tx.mk x1, n, m, v4⟩, _, ?_, hw⟩
   show St.entT R = _
   rw [p1, e1]; unfold St.entT; simp [p2, p3, p4, p5]
  ·rw [e0] at p; cases p)
 have H4 : Hid (b4 = false → 0 < R4.length → St.entK 1 R = none) := Lib.hid (fun e0 e1 => by
  rcases HPRE.out with ⟨_, y, z, u, n, m, p1, _⟩ | ⟨p, _⟩
  ·show St.entT R = _
   rw [p1]
   cases R4 with
   | nil => simp at e1
   | cons z R2 => rfl
  ·rw [e0] at p; cases p)
 have H5 : Hid (b4 = true → St.entK 1 R = none) := Lib.hid (fun e0 => by
  rcases HPRE.out with ⟨p, _⟩ | ⟨_, p⟩
  ·rw [e0] at p; cases p
  ·exact p)
 have HB9 := Lib.hid hb9
 cases b4
 ·rcases Nat.eq_zero_or_pos (R4).length with hz | hz
  ·have hR0 := List.eq_nil_of_length_eq_zero hz
   subst hR0
   obtain ⟨r0, r1⟩ := hb9.two
   have rf := hb9.free
   clear hb9 hz
   go_wp2_with fail
   go_end0
   exact ⟨rfl, HBZ.out.trans (below_rp (grown_set (grown_self _ rb) 1 (.bool false)) (by have := HSB.out; omega) (by have := HBZ.out.size; have := HSB.out; omega)), _, _, _, false, HB9.out.set 1 (.bool false), .inl ⟨rfl, H3.out (by first | rfl | trivial) (by first | rfl | trivial) _ (HSZ.out.rp HB9.out (by have := HRS.out; omega) false)⟩⟩
  ·have hz1 : ((0 : Int) < (((R4).length : Nat) : Int)) = True := by simp; omega
   have hz2 : decide ((0 : Int) < (((R4).length : Nat) : Int)) = true := decide_eq_true (by omega)
   have hz3 : decide (0 < (R4).length) = true := decide_eq_true hz
   have HZP := Lib.hid hz
   obtain ⟨r0, r1⟩ := hb9.two
   have rf := hb9.free
   clear hb9 hz
   go_wp2_with fail
   go_end0
   exact ⟨rfl, HBZ.out.trans (below_rp (grown_set (grown_self _ rb) 1 (.bool true)) (by have := HSB.out; omega) (by have := HBZ.out.size; have := HSB.out; omega)), _, _, _, true, HB9.out.set 1 (.bool true), .inr ⟨rfl, H4.out (by first | rfl | trivial) (by have := HZP.out; first | exact this | trivial)⟩⟩
 ·obtain ⟨r0, r1⟩ := hb9.two
  have rf := hb9.free
  clear hb9
  go_wp2_with fail
  go_end0
  exact ⟨rfl, HBZ.out.trans (below_rp (grown_set (grown_self _ rb) 1 (.bool true)) (by have := HSB.out; omega) (by have := HBZ.out.size; have := HSB.out; omega)), _, _, _, true, HB9.out.set 1 (.bool true), .inr ⟨rfl, H5.out (by first | rfl | trivial)⟩⟩

theorem step_appG {ops : Array Oper} {o : Oper} {a : Act} {V : World} {cs : Array Value} {K : Act → World → Prop} {Q : Exit → Act → World → Prop} {E : Prop} (hgd : o.guard = none) (s x : Operand)
  (ho : o.op = .call { callee := .builtin .append, args := #[s, x], argTypes := #[26, 26] }) (base : Nat) (v : Value) (n : Nat) (xs : List Value) (hs : a.eval s = v) (hx : a.eval x = .slice (some ⟨V.heap.size, 0, none⟩) 1 1)
  (hown : V.ownsRow base 72 2 v n xs) (hn : n ≤ 1000000) (hb : base ≤ V.heap.size) (hcs : cs.toList.length = 1 * 2) (h1 : ∀ u ∈ cs.toList, u.oneCell' = true)
  (h : ∀ g cap w', w'.ownsRow base 72 2 (.slice (some ⟨g, 0, none⟩) (n + 1) cap) (n + 1) (xs ++ cs.toList) → (V.alloc (.cells cs 72)).grownBy w' v.ownBlock → K (a.put o.dst (.slice (some ⟨g, 0, none⟩) (n + 1) cap)) w') :
  if Region.wanted o (yielded ops a.tmps) = true then Oper.wp Tryz.prog o a (V.alloc (.cells cs 72)) K Q else E := by
 obtain ⟨i0, hi0, hi1, hi2, hi3⟩ := info_parts infoGon
 exact step_append_lies _ hgd s x _ ho base 72 i0 (.agg #[.string ByteArray.empty, .int .i64 0]) 2 24 Tryz.underlying26 hi0 hi1 hi2 hi3 rfl (by decide) v n xs hs (hown.alloc _) ⟨V.heap.size, 0, none⟩ 1 1 cs.toList hx hcs
  (World.news_of_block (cs := cs) (t := 72) (fr := (0, 0)) (Blk.new V cs 72)) h1 (by decide) (by unfold maxLen; omega) (by omega) (by simp; omega) _ rfl (fun g cap w' h1 h2 _ _ => h g cap w' h1 h2)

theorem step_appF {ops : Array Oper} {o : Oper} {a : Act} {V : World} {cs : Array Value} {K : Act → World → Prop} {Q : Exit → Act → World → Prop} {E : Prop} (hgd : o.guard = none) (s x : Operand)
  (ho : o.op = .call { callee := .builtin .append, args := #[s, x], argTypes := #[23, 23] }) (base : Nat) (v : Value) (n : Nat) (xs : List Value) (hs : a.eval s = v) (hx : a.eval x = .slice (some ⟨V.heap.size, 0, none⟩) 1 1)
  (hown : V.ownsRow base 68 4 v n xs) (hn : n ≤ 1000000) (hb : base ≤ V.heap.size) (hcs : cs.toList.length = 1 * 4) (h1 : ∀ u ∈ cs.toList, u.oneCell' = true)
  (h : ∀ g cap w', w'.ownsRow base 68 4 (.slice (some ⟨g, 0, none⟩) (n + 1) cap) (n + 1) (xs ++ cs.toList) → (V.alloc (.cells cs 68)).grownBy w' v.ownBlock → K (a.put o.dst (.slice (some ⟨g, 0, none⟩) (n + 1) cap)) w') :
  if Region.wanted o (yielded ops a.tmps) = true then Oper.wp Tryz.prog o a (V.alloc (.cells cs 68)) K Q else E := by
 obtain ⟨i0, hi0, hi1, hi2, hi3⟩ := info_parts infoFil
 exact step_append_lies _ hgd s x _ ho base 68 i0 (.agg #[.string ByteArray.empty, .int .i64 0, .int .i64 0, .string ByteArray.empty]) 4 48 Tryz.underlying23 hi0 hi1 hi2 hi3 rfl (by decide) v n xs hs (hown.alloc _) ⟨V.heap.size, 0, none⟩ 1 1 cs.toList hx hcs
  (World.news_of_block (cs := cs) (t := 68) (fr := (0, 0)) (Blk.new V cs 68)) h1 (by decide) (by unfold maxLen; omega) (by omega) (by simp; omega) _ rfl (fun g cap w' h1 h2 _ _ => h g cap w' h1 h2)
theorem put3_pre {R R1 R2 R3 R4 : List (List UInt8)} {b1 b2 b3 b4 v3 : Bool} {x1 x2 : List UInt8} {v4 : Int} (h1 : WordOk R false x1 R1 b1) (h2 : WordOk R1 b1 x2 R2 b2) (h3 : EitOk R2 b2 St.wGood St.wBad v3 R3 b3) (h4 : NumOk R3 b3 v4 R4 b4) :
  (b4 = false ∧ ∃ (u : List UInt8 × List UInt8) (n : Nat), R = x1 :: x2 :: u.1 :: u.2 :: R4 ∧ x1 ≠ [] ∧ x2 ≠ [] ∧ St.two u.1 St.wGood St.wBad = some v3 ∧ St.num13 u.2 = some n ∧ v4 = ((n : Nat) : Int)) ∨ (b4 = true ∧ St.entC R = none) := by
 rcases h1 with ⟨k1, rfl, rfl⟩ | ⟨rfl, rfl, k3⟩
 ·rcases h2 with ⟨m1, rfl, rfl⟩ | ⟨rfl, rfl, m3⟩
  ·rcases h3 with ⟨u, q1, rfl, q2, rfl⟩ | ⟨rfl, q2⟩
   ·rcases h4 with ⟨z, n, rfl, p2, rfl, rfl⟩ | ⟨rfl, p2⟩
    ·exact .inl ⟨rfl, (u, z), n, rfl, k1, m1, q2, p2, rfl⟩
    ·refine .inr ⟨rfl, ?_⟩
     match R3, p2 with
     | [], _ => rfl
     | [z], p2 => unfold St.entC; simp [p2 z [] rfl]
     | _ :: _ :: _, _ => rfl
   ·refine .inr ⟨h4.bad, ?_⟩
    match R2, q2 with
    | [], _ => rfl
    | [u], _ => rfl
    | [u, z], q2 =>
      unfold St.entC
      rcases q2 u [z] rfl with rfl | e
      ·have : St.two [] St.wGood St.wBad = none := by decide
       simp [this]
      ·simp [e]
    | _ :: _ :: _ :: _, _ => rfl
  ·have e3 := h3.bad
   subst e3
   refine .inr ⟨h4.bad, ?_⟩
   match R1, m3 with
   | [], _ => rfl
   | [y], _ => rfl
   | [y, z], _ => rfl
   | [y, z, u], m3 => unfold St.entC; simp [m3 y [z, u] rfl]
   | _ :: _ :: _ :: _ :: _, _ => rfl
 ·have e2 := h2.bad
  subst e2
  have e3 := h3.bad
  subst e3
  refine .inr ⟨h4.bad, ?_⟩
  match R, k3 with
  | [], _ => rfl
  | [x], _ => rfl
  | [x, y], _ => rfl
  | [x, y, z], _ => rfl
  | [x, y, z, u], k3 => unfold St.entC; simp [k3 x [y, z, u] rfl]
  | _ :: _ :: _ :: _ :: _ :: _, _ => rfl
theorem put5_pre {R R1 R2 : List (List UInt8)} {b1 b2 : Bool} {x1 : List UInt8} {v2 : Int} (h1 : WordOk R false x1 R1 b1) (h2 : NumOk R1 b1 v2 R2 b2) :
  (b2 = false ∧ ∃ y n, R = x1 :: y :: R2 ∧ x1 ≠ [] ∧ St.num13 y = some n ∧ v2 = ((n : Nat) : Int)) ∨ (b2 = true ∧ St.entB R = none) := by
 rcases h1 with ⟨k1, rfl, rfl⟩ | ⟨rfl, rfl, k3⟩
 ·rcases h2 with ⟨y, n, rfl, m2, rfl, rfl⟩ | ⟨rfl, m2⟩
  ·exact .inl ⟨rfl, y, n, rfl, k1, m2, rfl⟩
  ·refine .inr ⟨rfl, ?_⟩
   match R1, m2 with
   | [], _ => rfl
   | [y], m2 => unfold St.entB; simp [m2 y [] rfl]
   | _ :: _ :: _, _ => rfl
 ·refine .inr ⟨h2.bad, ?_⟩
  match R, k3 with
  | [], _ => rfl
  | [x], _ => rfl
  | [x, y], k3 => unfold St.entB; simp [k3 x [y] rfl]
  | _ :: _ :: _ :: _, _ => rfl
theorem put3_is (s : Sto) (b : StA) (sb K B rb : Nat) (R : List (List UInt8)) (w : World) (h : RdIn w K B rb R false) (hS : StIO w sb s b) (hsr : sb < rb ∧ sb < K) (hBw : B ≤ w.heap.size) (hcn : s.copies.length ≤ 900000) (hl : ∀ x ∈ R, x.length ≤ 1000000000000) :
  Calls Tryz.prog 16 #[.pointer (some ⟨rb, 0, none⟩), .pointer (some ⟨sb, 0, none⟩), .int .i64 3] w (PutPost w sb rb s 3 R) := by
 have HW1 := Lib.hid (rdWord_is R false K B rb w h)
 unfold WordPost at HW1
 obtain ⟨a0, c0, hb0⟩ := h.blk
 have HSS := Lib.hid hS
 have HB0 := Lib.hid hb0
 have HL := Lib.hid hl
 have hsl := (Array.getElem?_eq_some_iff.1 hS.blk).1
 have hrl := h.lt
 have HSB : Hid ((sb < rb ∧ sb < K) ∧ sb < w.heap.size ∧ rb < B ∧ B ≤ w.heap.size) := Lib.hid ⟨hsr, hsl, hrl, hBw⟩
 clear h hS hb0 hl hsr hsl hrl hBw
 go_enter Tryz.func16, Tryz.ntmps16
 go_upto_region 14 with (go_at_call 15; (with_reducible refine HW1.out.mono ?_); rintro e w2 ⟨x1, R1, b1, hok1, hs1, rfl, hrd1, hg1⟩)
 obtain ⟨W3, hW3, hX3, hz3, hB3⟩ := box w2 #[.string (Tx.mk x1), .string ⟨#[]⟩, .bool false, .int .i64 0] 70
 rw [hW3]
 have hl1 : ∀ x ∈ R1, x.length ≤ 1000000000000 := fun x hx => HL.out x (hs1 x hx)
 have HOK1 := Lib.hid hok1
 have hS2 := HSS.out.far HB0.out (by have := HSB.out; omega) (by decide) (by decide) (by decide) (by decide) (by decide) hg1
 have HNB := Lib.hid (hS2.noB (Nat.le_refl _))
 have hSW := hS2.keep hB3
 have hsz := hg1.size
 obtain ⟨tb, htb⟩ : ∃ tb, w2.heap.size = tb := ⟨_, rfl⟩
 rw [htb] at hX3 hz3 hsz HNB ⊢
 have HTB : Hid (rb < tb ∧ B ≤ tb ∧ sb < tb) := Lib.hid (by have := HSB.out; omega)
 have HR := Lib.hid (hrd1.keep hB3)
 have HT := Lib.hid hX3
 have HS := Lib.hid hSW
 have HBW := Lib.hid ((below_rp (sb := sb) hg1 (by have := HSB.out; omega) (by have := HSB.out; omega)).trans (below_rp (sb := sb) (grownB hB3 (some rb)) (by have := HSB.out; omega) (by have := HSB.out; omega)))
 clear hW3 hX3 hz3 hB3 hok1 hs1 hrd1 hg1 hSW hsz htb hS2
 have HLC : Hid (∀ x ∈ R1, x.length ≤ 1000000000000) := Lib.hid hl1
 clear hl1
 have HN2 := Lib.hid (rdWord_is R1 b1 K B rb W3 HR.out)
 unfold WordPost at HN2
 obtain ⟨a3, c3, hb3⟩ := HR.out.blk
 have HBK := Lib.hid hb3
 clear hb3
 go_upto_region 15 with (go_at_call 15; (with_reducible refine HN2.out.mono ?_); rintro e w4 ⟨x2, R2, b2, hok2, hs2, rfl, hrd, hg⟩; have hT : Blk w4 tb _ _ := HT.out.of_block (hg.block tb (Array.getElem?_eq_some_iff.1 HT.out).1 (fun e => by have := Option.some.inj e; have := HTB.out; omega)); have hSW := HS.out.far HBK.out (by have := HSB.out; omega) (by decide) (by decide) (by decide) (by decide) (by decide) hg; obtain ⟨t0, t1, t2, t3⟩ := hT.four; have tf := hT.free)
 have HOK2 := Lib.hid hok2
 have HLC : Hid (∀ x ∈ R2, x.length ≤ 1000000000000) := Lib.hid fun x hx => HLC.out x (hs2 x hx)
 clear hok2 hs2
 have hgs := grown_set (grown_self w4 tb) 1 (.string (Tx.mk x2))
 have HR := Lib.hid (hrd.grow hgs HTB.out.2.1)
 have HT := Lib.hid (hT.set 1 (.string (Tx.mk x2)))
 have HS := Lib.hid (hSW.farN HNB.out hgs)
 have HBW := Lib.hid (HBW.out.trans ((below_rp (sb := sb) hg (by have := HSB.out; omega) (by have := HBW.out.size; have := HSB.out; omega)).trans (below_rp (sb := sb) hgs (by have := HTB.out; have := HSB.out; omega) (by have := hg.size; have := HBW.out.size; have := HSB.out; omega))))
 generalize (w4).setCell ⟨tb, 1, none⟩ (.string (Tx.mk x2)) = w5 at *
 have HT : Hid (Blk w5 tb #[.string (Tx.mk x1), .string (Tx.mk x2), .bool false, .int .i64 0] 70) := HT
 clear hgs hrd hT hSW hg t0 t1 t2 t3 tf
 have HN3 := Lib.hid (either_is R2 b2 K B rb St.wGood St.wBad (by decide) (by decide) w5 HR.out)
 unfold EitPost at HN3
 obtain ⟨a4, c4, hb4⟩ := HR.out.blk
 have HBK := Lib.hid hb4
 clear hb4
 go_upto_region 16 with (go_at_call 38; (refine HN3.out.mono ?_); rintro e w6 ⟨v3, R3, b3, hok3, hs3, rfl, hrd, hg⟩; have hT : Blk w6 tb _ _ := HT.out.of_block (hg.block tb (Array.getElem?_eq_some_iff.1 HT.out).1 (fun e => by have := Option.some.inj e; have := HTB.out; omega)); have hSW := HS.out.far HBK.out (by have := HSB.out; omega) (by decide) (by decide) (by decide) (by decide) (by decide) hg; obtain ⟨t0, t1, t2, t3⟩ := hT.four; have tf := hT.free)
 have HOK3 := Lib.hid hok3
 have HLC : Hid (∀ x ∈ R3, x.length ≤ 1000000000000) := Lib.hid fun x hx => HLC.out x (hs3 x hx)
 clear hok3 hs3
 have hgs := grown_set (grown_self w6 tb) 2 (.bool v3)
 have HR := Lib.hid (hrd.grow hgs HTB.out.2.1)
 have HT := Lib.hid (hT.set 2 (.bool v3))
 have HS := Lib.hid (hSW.farN HNB.out hgs)
 have HBW := Lib.hid (HBW.out.trans ((below_rp (sb := sb) hg (by have := HSB.out; omega) (by have := HBW.out.size; have := HSB.out; omega)).trans (below_rp (sb := sb) hgs (by have := HTB.out; have := HSB.out; omega) (by have := hg.size; have := HBW.out.size; have := HSB.out; omega))))
 generalize (w6).setCell ⟨tb, 2, none⟩ (.bool v3) = w7 at *
 have HT : Hid (Blk w7 tb #[.string (Tx.mk x1), .string (Tx.mk x2), .bool v3, .int .i64 0] 70) := HT
 clear hgs hrd hT hSW hg t0 t1 t2 t3 tf
 have HN4 := Lib.hid (numberS_is R3 b3 K B rb w7 HR.out HLC.out)
 unfold NumrPost at HN4
 obtain ⟨a5, c5, hb5⟩ := HR.out.blk
 have HBK := Lib.hid hb5
 clear hb5
 go_upto_region 17 with (go_at_call 37; (with_reducible refine HN4.out.mono ?_); rintro e w8 ⟨v4, R4, b4, hok4, hs4, rfl, hrd, hg⟩; have hT : Blk w8 tb _ _ := HT.out.of_block (hg.block tb (Array.getElem?_eq_some_iff.1 HT.out).1 (fun e => by have := Option.some.inj e; have := HTB.out; omega)); have hSW := HS.out.far HBK.out (by have := HSB.out; omega) (by decide) (by decide) (by decide) (by decide) (by decide) hg; obtain ⟨t0, t1, t2, t3⟩ := hT.four; have tf := hT.free)
 have HOK4 := Lib.hid hok4
 have HLC : Hid (∀ x ∈ R4, x.length ≤ 1000000000000) := Lib.hid fun x hx => HLC.out x (hs4 x hx)
 clear hok4 hs4
 have hgs := grown_set (grown_self w8 tb) 3 (.int .i64 v4)
 have HR := Lib.hid (hrd.grow hgs HTB.out.2.1)
 have HT := Lib.hid (hT.set 3 (.int .i64 v4))
 have HS := Lib.hid (hSW.farN HNB.out hgs)
 have HBW := Lib.hid (HBW.out.trans ((below_rp (sb := sb) hg (by have := HSB.out; omega) (by have := HBW.out.size; have := HSB.out; omega)).trans (below_rp (sb := sb) hgs (by have := HTB.out; have := HSB.out; omega) (by have := hg.size; have := HBW.out.size; have := HSB.out; omega))))
 generalize (w8).setCell ⟨tb, 3, none⟩ (.int .i64 v4) = w9 at *
 have HT : Hid (Blk w9 tb #[.string (Tx.mk x1), .string (Tx.mk x2), .bool v3, .int .i64 v4] 70) := HT
 clear hgs hrd hT hSW hg t0 t1 t2 t3 tf
 have hv : Below w9.heap.size w9 w9.drew := (Below.refl _ _).drew
 have hHeld : (fun W : World => W.cell? ⟨sb, 4, none⟩ = some (.slice b.ca s.copies.length b.cc) ∧ W.cell? ⟨tb, 0, none⟩ = some (.string (Tx.mk x1)) ∧ W.cell? ⟨tb, 1, none⟩ = some (.string (Tx.mk x2)) ∧ W.cell? ⟨tb, 2, none⟩ = some (.bool v3) ∧ W.cell? ⟨tb, 3, none⟩ = some (.int .i64 v4)) w9.drew := ⟨(HS.out.keep hv).blk.seven.2.2.2.2.1, (HT.out.keep hv).four⟩
 refine wp_region_until (fun W => W.cell? ⟨sb, 4, none⟩ = some (.slice b.ca s.copies.length b.cc) ∧ W.cell? ⟨tb, 0, none⟩ = some (.string (Tx.mk x1)) ∧ W.cell? ⟨tb, 1, none⟩ = some (.string (Tx.mk x2)) ∧ W.cell? ⟨tb, 2, none⟩ = some (.bool v3) ∧ W.cell? ⟨tb, 3, none⟩ = some (.int .i64 v4)) 10 (by kernel_rfl) ?_
 refine anyM_take0 (i := 0) (v := ?_) rfl (by decide) (by kernel_rfl) (by kernel_rfl) (by kernel_rfl) (fun _ _ _ h => h) (Or.inl ⟨by rfl, ?_⟩) (fun _ => by assumption) ?_
 rotate_left
 ·(intro w hSw; go_simp; try (with_reducible rfl))
 try go_frame
 refine anyM_take0 (i := 1) (v := ?_) rfl (by decide) (by kernel_rfl) (by kernel_rfl) (by kernel_rfl) (fun _ _ _ h => h) (Or.inl ⟨by rfl, ?_⟩) (fun _ => by assumption) ?_
 rotate_left
 ·(intro w hSw; go_simp; try (with_reducible rfl))
 try go_frame
 refine anyM_take0 (i := 2) (v := ?_) rfl (by decide) (by kernel_rfl) (by kernel_rfl) (by kernel_rfl) (fun _ _ _ h => h) (Or.inl ⟨by rfl, ?_⟩) (fun _ => by assumption) ?_
 rotate_left
 ·(intro w hSw; go_simp; try (with_reducible rfl))
 try go_frame
 refine anyM_take0 (i := 3) (v := ?_) rfl (by decide) (by kernel_rfl) (by kernel_rfl) (by kernel_rfl) (fun _ _ _ h => h) (Or.inl ⟨by rfl, ?_⟩) (fun _ => by assumption) ?_
 rotate_left
 ·(intro w hSw; go_simp; try (with_reducible rfl))
 try go_frame
 refine anyM_take (i := 4) (v := ?_) rfl rfl (by kernel_rfl) (by decide) (by kernel_rfl) (by kernel_rfl) (by kernel_rfl) (fun _ _ _ h => h) (Or.inl ⟨by rfl, ?_⟩) (by rfl) (by assumption) ?_
 rotate_left
 ·(intro w hSw; (try dsimp only at hSw); (try obtain ⟨hs9, hs10, hs11, hs12, hs13⟩ := hSw); go_simp; try (with_reducible rfl))
 try go_frame
 refine anyM_take (i := 5) (v := ?_) rfl rfl (by kernel_rfl) (by decide) (by kernel_rfl) (by kernel_rfl) (by kernel_rfl) (fun _ _ _ h => h) (Or.inl ⟨by rfl, ?_⟩) (by rfl) (by assumption) ?_
 rotate_left
 ·(intro w hSw; (try dsimp only at hSw); (try obtain ⟨hs9, hs10, hs11, hs12, hs13⟩ := hSw); go_simp; try (with_reducible rfl))
 try go_frame
 have hal : Below w9.heap.size w9 (w9.drew.alloc (.cells #[.string (Tx.mk x1), .string (Tx.mk x2), .bool v3, .int .i64 v4] 70)) := ((Below.refl _ _).drew).alloc (Nat.le_refl _) _
 have hSA := HS.out.keep hal
 have hTA := HT.out.keep hal
 have hHA := And.intro hSA.blk.seven.2.2.2.2.1 hTA.four
 refine anyM_ready (rs := [6]) (by kernel_rfl) (by simp) ?_
 refine ReadyM.cons rfl (fun K' hK => ?_) ReadyM.nil
 go_simp
 refine hK.out _ _ (fun _ => hHA) ?_
 clear hK K'
 try go_frame
 refine anyM_ready (rs := [7]) (by kernel_rfl) (by simp) ?_
 refine ReadyM.cons rfl (fun K' hK => ?_) ReadyM.nil
 refine step_appC rfl _ _ rfl (sb + 1) (.slice b.ca s.copies.length b.cc) s.copies.length (St.eC.flat s.copies) (by rfl) (by rfl) (own_keepE HS.out.co (Below.refl _ _).drew) (by omega) (by have := HBW.out.size; have := HSB.out; show sb + 1 ≤ w9.heap.size; omega) (by rfl) (by simp [Value.oneCell']) ?_
 intro g8 cap8 w8 hown8 hgrow8
 have hfl : St.eC.flat s.copies ++ (#[.string (Tx.mk x1), .string (Tx.mk x2), .bool v3, .int .i64 v4] : Array Value).toList = St.eC.flat (s.copies ++ [⟨Tx.mk x1, Tx.mk x2, v3, v4⟩]) := by rw [Enc.flat_snoc]; rfl
 obtain ⟨m1, m2, m3⟩ := hSA.moreC (t := ⟨Tx.mk x1, Tx.mk x2, v3, v4⟩) hgrow8 hown8 hfl
 have hb8 : Blk w8 sb _ _ := hSA.blk.of_block (hgrow8.block sb (Array.getElem?_eq_some_iff.1 hSA.blk).1 (fun e => by have := (hSA.co.lt sb e.symm).1; omega))
 have hT8 : Blk w8 tb _ _ := hTA.of_block (hgrow8.block tb (Array.getElem?_eq_some_iff.1 hTA).1 (fun e => HNB.out.2.2.2.1 e.symm))
 have hH8 := And.intro hb8.seven.2.2.2.2.1 hT8.four
 refine hK.out _ _ (fun _ => hH8) ?_
 clear hK K' hHeld
 try go_frame
 have hHeld := hH8
 refine anyM_take0 (i := 8) (v := ?_) rfl (by decide) (by kernel_rfl) (by kernel_rfl) (by kernel_rfl) (fun _ _ _ h => h) (Or.inl ⟨by rfl, ?_⟩) (fun _ => by assumption) ?_
 rotate_left
 ·(intro w hSw; go_simp; try (with_reducible rfl))
 try go_frame
 refine anyM_take0 (i := 9) (v := ?_) rfl (by decide) (by kernel_rfl) (by kernel_rfl) (by kernel_rfl) (fun _ _ _ h => h) (Or.inl ⟨by rfl, ?_⟩) (fun _ => by assumption) ?_
 rotate_left
 ·(intro w hSw; go_simp; try (with_reducible rfl))
 try go_frame
 clear hHeld hHA hH8
 obtain ⟨q0, q1, q2, q3, q4, q5, q6⟩ := hb8.seven
 have qf := hb8.free
 refine anyM_ready (rs := [10]) (by kernel_rfl) (by simp) ?_
 refine ReadyM.cons rfl (fun K hK => ?_) ReadyM.nil
 go_simp
 refine hK.out _ _ (fun h => absurd h (by simp)) ?_
 clear hK K
 try go_frame
 refine anyM_done (by kernel_rfl) ?_ _
 obtain ⟨a9, c9, hrb⟩ := HR.out.blk
 have HRB := Lib.hid (m3 rb _ _ (hrb.keep hal) (by decide) (by have := HSB.out; omega))
 have HBZ := Lib.hid (HBW.out.trans ((⟨hal.os, hal.tape, hal.output, hal.size, fun k hk => hal.block k (by have := HBW.out.size; have := HSB.out; omega)⟩ : Below sb w9 _).trans m2))
 have HSZ := Lib.hid m1
 have HPRE := Lib.hid (put3_pre HOK1.out HOK2.out HOK3.out HOK4.out)
 have hb9 := HRB.out
 have HRS : Hid (sb < rb) := Lib.hid HSB.out.1.1
 generalize w8.setCell ⟨sb, 4, none⟩ (.slice (some ⟨g8, 0, none⟩) (s.copies.length + 1) cap8) = wz at *
 clear m1 m2 m3 hb8 hT8 hrb hSA hTA hal hown8 hgrow8 hfl q0 q1 q2 q3 q4 q5 q6 qf hv
 have H3 : Hid (b4 = false → R4 = [] → ∀ W, StIO W sb { s with copies := s.copies ++ [⟨Tx.mk x1, Tx.mk x2, v3, v4⟩] } { b with ca := some ⟨g8, 0, none⟩, cc := cap8 } → ∃ E b', St.entK 3 R = some E ∧ StIO W sb (E.put s) b') := Lib.hid (fun e0 e1 W hw => by
  rcases HPRE.out with ⟨_, u, n, p1, p2, p3, p4, p5, rfl⟩ | ⟨p, _⟩
  ·refine ⟨.cop ⟨Tx.mk x1, Tx.mk x2, v3, n⟩, _, ?_, hw⟩
   show St.entC R = _
   rw [p1, e1]; unfold St.entC; simp [p2, p3, p4, p5]
  ·rw [e0] at p; cases p)
 have H4 : Hid (b4 = false → 0 < R4.length → St.entK 3 R = none) := Lib.hid (fun e0 e1 => by
  rcases HPRE.out with ⟨_, u, n, p1, p2, p3, p4, p5, rfl⟩ | ⟨p, _⟩
  ·show St.entC R = _
   rw [p1]
   cases R4 with
   | nil => simp at e1
   | cons z9 R9 => rfl
  ·rw [e0] at p; cases p)
 have H5 : Hid (b4 = true → St.entK 3 R = none) := Lib.hid (fun e0 => by
  rcases HPRE.out with ⟨p, _⟩ | ⟨_, p⟩
  ·rw [e0] at p; cases p
  ·exact p)
 have HB9 := Lib.hid hb9
 cases b4
 ·rcases Nat.eq_zero_or_pos (R4).length with hz | hz
  ·have hR0 := List.eq_nil_of_length_eq_zero hz
   subst hR0
   obtain ⟨r0, r1⟩ := hb9.two
   have rf := hb9.free
   clear hb9 hz
   go_wp2_with fail
   go_end0
   exact ⟨rfl, HBZ.out.trans (below_rp (grown_set (grown_self _ rb) 1 (.bool false)) (by have := HSB.out; omega) (by have := HBZ.out.size; have := HSB.out; omega)), _, _, _, false, HB9.out.set 1 (.bool false), .inl ⟨rfl, H3.out (by first | rfl | trivial) (by first | rfl | trivial) _ (HSZ.out.rp HB9.out (by have := HRS.out; omega) false)⟩⟩
  ·have hz1 : ((0 : Int) < (((R4).length : Nat) : Int)) = True := by simp; omega
   have hz2 : decide ((0 : Int) < (((R4).length : Nat) : Int)) = true := decide_eq_true (by omega)
   have hz3 : decide (0 < (R4).length) = true := decide_eq_true hz
   have HZP := Lib.hid hz
   obtain ⟨r0, r1⟩ := hb9.two
   have rf := hb9.free
   clear hb9 hz
   go_wp2_with fail
   go_end0
   exact ⟨rfl, HBZ.out.trans (below_rp (grown_set (grown_self _ rb) 1 (.bool true)) (by have := HSB.out; omega) (by have := HBZ.out.size; have := HSB.out; omega)), _, _, _, true, HB9.out.set 1 (.bool true), .inr ⟨rfl, H4.out (by first | rfl | trivial) (by have := HZP.out; first | exact this | trivial)⟩⟩
 ·obtain ⟨r0, r1⟩ := hb9.two
  have rf := hb9.free
  clear hb9
  go_wp2_with fail
  go_end0
  exact ⟨rfl, HBZ.out.trans (below_rp (grown_set (grown_self _ rb) 1 (.bool true)) (by have := HSB.out; omega) (by have := HBZ.out.size; have := HSB.out; omega)), _, _, _, true, HB9.out.set 1 (.bool true), .inr ⟨rfl, H5.out (by first | rfl | trivial)⟩⟩
theorem put5_is (s : Sto) (b : StA) (sb K B rb : Nat) (R : List (List UInt8)) (w : World) (h : RdIn w K B rb R false) (hS : StIO w sb s b) (hsr : sb < rb ∧ sb < K) (hBw : B ≤ w.heap.size) (hcn : s.bin.length ≤ 900000) (hl : ∀ x ∈ R, x.length ≤ 1000000000000) :
  Calls Tryz.prog 16 #[.pointer (some ⟨rb, 0, none⟩), .pointer (some ⟨sb, 0, none⟩), .int .i64 5] w (PutPost w sb rb s 5 R) := by
 have HW1 := Lib.hid (rdWord_is R false K B rb w h)
 unfold WordPost at HW1
 obtain ⟨a0, c0, hb0⟩ := h.blk
 have HSS := Lib.hid hS
 have HB0 := Lib.hid hb0
 have HL := Lib.hid hl
 have hsl := (Array.getElem?_eq_some_iff.1 hS.blk).1
 have hrl := h.lt
 have HSB : Hid ((sb < rb ∧ sb < K) ∧ sb < w.heap.size ∧ rb < B ∧ B ≤ w.heap.size) := Lib.hid ⟨hsr, hsl, hrl, hBw⟩
 clear h hS hb0 hl hsr hsl hrl hBw
 go_enter Tryz.func16, Tryz.ntmps16
 go_upto_region 22 with (go_at_call 15; (with_reducible refine HW1.out.mono ?_); rintro e w2 ⟨x1, R1, b1, hok1, hs1, rfl, hrd1, hg1⟩)
 obtain ⟨W3, hW3, hX3, hz3, hB3⟩ := box w2 #[.string (Tx.mk x1), .int .i64 0] 72
 rw [hW3]
 have hl1 : ∀ x ∈ R1, x.length ≤ 1000000000000 := fun x hx => HL.out x (hs1 x hx)
 have HOK1 := Lib.hid hok1
 have hS2 := HSS.out.far HB0.out (by have := HSB.out; omega) (by decide) (by decide) (by decide) (by decide) (by decide) hg1
 have HNB := Lib.hid (hS2.noB (Nat.le_refl _))
 have hSW := hS2.keep hB3
 have hsz := hg1.size
 obtain ⟨tb, htb⟩ : ∃ tb, w2.heap.size = tb := ⟨_, rfl⟩
 rw [htb] at hX3 hz3 hsz HNB ⊢
 have HTB : Hid (rb < tb ∧ B ≤ tb ∧ sb < tb) := Lib.hid (by have := HSB.out; omega)
 have HR := Lib.hid (hrd1.keep hB3)
 have HT := Lib.hid hX3
 have HS := Lib.hid hSW
 have HBW := Lib.hid ((below_rp (sb := sb) hg1 (by have := HSB.out; omega) (by have := HSB.out; omega)).trans (below_rp (sb := sb) (grownB hB3 (some rb)) (by have := HSB.out; omega) (by have := HSB.out; omega)))
 clear hW3 hX3 hz3 hB3 hok1 hs1 hrd1 hg1 hSW hsz htb hS2
 have HLC : Hid (∀ x ∈ R1, x.length ≤ 1000000000000) := Lib.hid hl1
 clear hl1
 have HN2 := Lib.hid (numberS_is R1 b1 K B rb W3 HR.out HLC.out)
 unfold NumrPost at HN2
 obtain ⟨a3, c3, hb3⟩ := HR.out.blk
 have HBK := Lib.hid hb3
 clear hb3
 go_upto_region 23 with (go_at_call 37; (with_reducible refine HN2.out.mono ?_); rintro e w4 ⟨v2, R2, b2, hok2, hs2, rfl, hrd, hg⟩; have hT : Blk w4 tb _ _ := HT.out.of_block (hg.block tb (Array.getElem?_eq_some_iff.1 HT.out).1 (fun e => by have := Option.some.inj e; have := HTB.out; omega)); have hSW := HS.out.far HBK.out (by have := HSB.out; omega) (by decide) (by decide) (by decide) (by decide) (by decide) hg; obtain ⟨t0, t1⟩ := hT.two; have tf := hT.free)
 have HOK2 := Lib.hid hok2
 have HLC : Hid (∀ x ∈ R2, x.length ≤ 1000000000000) := Lib.hid fun x hx => HLC.out x (hs2 x hx)
 clear hok2 hs2
 have hgs := grown_set (grown_self w4 tb) 1 (.int .i64 v2)
 have HR := Lib.hid (hrd.grow hgs HTB.out.2.1)
 have HT := Lib.hid (hT.set 1 (.int .i64 v2))
 have HS := Lib.hid (hSW.farN HNB.out hgs)
 have HBW := Lib.hid (HBW.out.trans ((below_rp (sb := sb) hg (by have := HSB.out; omega) (by have := HBW.out.size; have := HSB.out; omega)).trans (below_rp (sb := sb) hgs (by have := HTB.out; have := HSB.out; omega) (by have := hg.size; have := HBW.out.size; have := HSB.out; omega))))
 generalize (w4).setCell ⟨tb, 1, none⟩ (.int .i64 v2) = w5 at *
 have HT : Hid (Blk w5 tb #[.string (Tx.mk x1), .int .i64 v2] 72) := HT
 clear hgs hrd hT hSW hg t0 t1 tf
 have hv : Below w5.heap.size w5 w5.drew := (Below.refl _ _).drew
 have hHeld : (fun W : World => W.cell? ⟨sb, 6, none⟩ = some (.slice b.ba s.bin.length b.bc) ∧ W.cell? ⟨tb, 0, none⟩ = some (.string (Tx.mk x1)) ∧ W.cell? ⟨tb, 1, none⟩ = some (.int .i64 v2)) w5.drew := ⟨(HS.out.keep hv).blk.seven.2.2.2.2.2.2, (HT.out.keep hv).two⟩
 refine wp_region_until (fun W => W.cell? ⟨sb, 6, none⟩ = some (.slice b.ba s.bin.length b.bc) ∧ W.cell? ⟨tb, 0, none⟩ = some (.string (Tx.mk x1)) ∧ W.cell? ⟨tb, 1, none⟩ = some (.int .i64 v2)) 10 (by kernel_rfl) ?_
 refine anyM_take0 (i := 0) (v := ?_) rfl (by decide) (by kernel_rfl) (by kernel_rfl) (by kernel_rfl) (fun _ _ _ h => h) (Or.inl ⟨by rfl, ?_⟩) (fun _ => by assumption) ?_
 rotate_left
 ·(intro w hSw; go_simp; try (with_reducible rfl))
 try go_frame
 refine anyM_take0 (i := 1) (v := ?_) rfl (by decide) (by kernel_rfl) (by kernel_rfl) (by kernel_rfl) (fun _ _ _ h => h) (Or.inl ⟨by rfl, ?_⟩) (fun _ => by assumption) ?_
 rotate_left
 ·(intro w hSw; go_simp; try (with_reducible rfl))
 try go_frame
 refine anyM_take0 (i := 2) (v := ?_) rfl (by decide) (by kernel_rfl) (by kernel_rfl) (by kernel_rfl) (fun _ _ _ h => h) (Or.inl ⟨by rfl, ?_⟩) (fun _ => by assumption) ?_
 rotate_left
 ·(intro w hSw; go_simp; try (with_reducible rfl))
 try go_frame
 refine anyM_take0 (i := 3) (v := ?_) rfl (by decide) (by kernel_rfl) (by kernel_rfl) (by kernel_rfl) (fun _ _ _ h => h) (Or.inl ⟨by rfl, ?_⟩) (fun _ => by assumption) ?_
 rotate_left
 ·(intro w hSw; go_simp; try (with_reducible rfl))
 try go_frame
 refine anyM_take (i := 4) (v := ?_) rfl rfl (by kernel_rfl) (by decide) (by kernel_rfl) (by kernel_rfl) (by kernel_rfl) (fun _ _ _ h => h) (Or.inl ⟨by rfl, ?_⟩) (by rfl) (by assumption) ?_
 rotate_left
 ·(intro w hSw; (try dsimp only at hSw); (try obtain ⟨hs9, hs10, hs11⟩ := hSw); go_simp; try (with_reducible rfl))
 try go_frame
 refine anyM_take (i := 5) (v := ?_) rfl rfl (by kernel_rfl) (by decide) (by kernel_rfl) (by kernel_rfl) (by kernel_rfl) (fun _ _ _ h => h) (Or.inl ⟨by rfl, ?_⟩) (by rfl) (by assumption) ?_
 rotate_left
 ·(intro w hSw; (try dsimp only at hSw); (try obtain ⟨hs9, hs10, hs11⟩ := hSw); go_simp; try (with_reducible rfl))
 try go_frame
 have hal : Below w5.heap.size w5 (w5.drew.alloc (.cells #[.string (Tx.mk x1), .int .i64 v2] 72)) := ((Below.refl _ _).drew).alloc (Nat.le_refl _) _
 have hSA := HS.out.keep hal
 have hTA := HT.out.keep hal
 have hHA := And.intro hSA.blk.seven.2.2.2.2.2.2 hTA.two
 refine anyM_ready (rs := [6]) (by kernel_rfl) (by simp) ?_
 refine ReadyM.cons rfl (fun K' hK => ?_) ReadyM.nil
 go_simp
 refine hK.out _ _ (fun _ => hHA) ?_
 clear hK K'
 try go_frame
 refine anyM_ready (rs := [7]) (by kernel_rfl) (by simp) ?_
 refine ReadyM.cons rfl (fun K' hK => ?_) ReadyM.nil
 refine step_appG rfl _ _ rfl (sb + 1) (.slice b.ba s.bin.length b.bc) s.bin.length (St.eG.flat s.bin) (by rfl) (by rfl) (own_keepE HS.out.bi (Below.refl _ _).drew) (by omega) (by have := HBW.out.size; have := HSB.out; show sb + 1 ≤ w5.heap.size; omega) (by rfl) (by simp [Value.oneCell']) ?_
 intro g8 cap8 w8 hown8 hgrow8
 have hfl : St.eG.flat s.bin ++ (#[.string (Tx.mk x1), .int .i64 v2] : Array Value).toList = St.eG.flat (s.bin ++ [⟨Tx.mk x1, v2⟩]) := by rw [Enc.flat_snoc]; rfl
 obtain ⟨m1, m2, m3⟩ := hSA.moreG (t := ⟨Tx.mk x1, v2⟩) hgrow8 hown8 hfl
 have hb8 : Blk w8 sb _ _ := hSA.blk.of_block (hgrow8.block sb (Array.getElem?_eq_some_iff.1 hSA.blk).1 (fun e => by have := (hSA.bi.lt sb e.symm).1; omega))
 have hT8 : Blk w8 tb _ _ := hTA.of_block (hgrow8.block tb (Array.getElem?_eq_some_iff.1 hTA).1 (fun e => HNB.out.2.2.2.2.2 e.symm))
 have hH8 := And.intro hb8.seven.2.2.2.2.2.2 hT8.two
 refine hK.out _ _ (fun _ => hH8) ?_
 clear hK K' hHeld
 try go_frame
 have hHeld := hH8
 refine anyM_take0 (i := 8) (v := ?_) rfl (by decide) (by kernel_rfl) (by kernel_rfl) (by kernel_rfl) (fun _ _ _ h => h) (Or.inl ⟨by rfl, ?_⟩) (fun _ => by assumption) ?_
 rotate_left
 ·(intro w hSw; go_simp; try (with_reducible rfl))
 try go_frame
 refine anyM_take0 (i := 9) (v := ?_) rfl (by decide) (by kernel_rfl) (by kernel_rfl) (by kernel_rfl) (fun _ _ _ h => h) (Or.inl ⟨by rfl, ?_⟩) (fun _ => by assumption) ?_
 rotate_left
 ·(intro w hSw; go_simp; try (with_reducible rfl))
 try go_frame
 clear hHeld hHA hH8
 obtain ⟨q0, q1, q2, q3, q4, q5, q6⟩ := hb8.seven
 have qf := hb8.free
 refine anyM_ready (rs := [10]) (by kernel_rfl) (by simp) ?_
 refine ReadyM.cons rfl (fun K hK => ?_) ReadyM.nil
 go_simp
 refine hK.out _ _ (fun h => absurd h (by simp)) ?_
 clear hK K
 try go_frame
 refine anyM_done (by kernel_rfl) ?_ _
 obtain ⟨a9, c9, hrb⟩ := HR.out.blk
 have HRB := Lib.hid (m3 rb _ _ (hrb.keep hal) (by decide) (by have := HSB.out; omega))
 have HBZ := Lib.hid (HBW.out.trans ((⟨hal.os, hal.tape, hal.output, hal.size, fun k hk => hal.block k (by have := HBW.out.size; have := HSB.out; omega)⟩ : Below sb w5 _).trans m2))
 have HSZ := Lib.hid m1
 have HPRE := Lib.hid (put5_pre HOK1.out HOK2.out)
 have hb9 := HRB.out
 have HRS : Hid (sb < rb) := Lib.hid HSB.out.1.1
 generalize w8.setCell ⟨sb, 6, none⟩ (.slice (some ⟨g8, 0, none⟩) (s.bin.length + 1) cap8) = wz at *
 clear m1 m2 m3 hb8 hT8 hrb hSA hTA hal hown8 hgrow8 hfl q0 q1 q2 q3 q4 q5 q6 qf hv
 have H3 : Hid (b2 = false → R2 = [] → ∀ W, StIO W sb { s with bin := s.bin ++ [⟨Tx.mk x1, v2⟩] } { b with ba := some ⟨g8, 0, none⟩, bc := cap8 } → ∃ E b', St.entK 5 R = some E ∧ StIO W sb (E.put s) b') := Lib.hid (fun e0 e1 W hw => by
  rcases HPRE.out with ⟨_, y, n, p1, p2, p3, rfl⟩ | ⟨p, _⟩
  ·refine ⟨.bin ⟨Tx.mk x1, n⟩, _, ?_, hw⟩
   show St.entB R = _
   rw [p1, e1]; unfold St.entB; simp [p2, p3]
  ·rw [e0] at p; cases p)
 have H4 : Hid (b2 = false → 0 < R2.length → St.entK 5 R = none) := Lib.hid (fun e0 e1 => by
  rcases HPRE.out with ⟨_, y, n, p1, p2, p3, rfl⟩ | ⟨p, _⟩
  ·show St.entB R = _
   rw [p1]
   cases R2 with
   | nil => simp at e1
   | cons z9 R9 => rfl
  ·rw [e0] at p; cases p)
 have H5 : Hid (b2 = true → St.entK 5 R = none) := Lib.hid (fun e0 => by
  rcases HPRE.out with ⟨p, _⟩ | ⟨_, p⟩
  ·rw [e0] at p; cases p
  ·exact p)
 have HB9 := Lib.hid hb9
 cases b2
 ·rcases Nat.eq_zero_or_pos (R2).length with hz | hz
  ·have hR0 := List.eq_nil_of_length_eq_zero hz
   subst hR0
   obtain ⟨r0, r1⟩ := hb9.two
   have rf := hb9.free
   clear hb9 hz
   go_wp2_with fail
   go_end0
   exact ⟨rfl, HBZ.out.trans (below_rp (grown_set (grown_self _ rb) 1 (.bool false)) (by have := HSB.out; omega) (by have := HBZ.out.size; have := HSB.out; omega)), _, _, _, false, HB9.out.set 1 (.bool false), .inl ⟨rfl, H3.out (by first | rfl | trivial) (by first | rfl | trivial) _ (HSZ.out.rp HB9.out (by have := HRS.out; omega) false)⟩⟩
  ·have hz1 : ((0 : Int) < (((R2).length : Nat) : Int)) = True := by simp; omega
   have hz2 : decide ((0 : Int) < (((R2).length : Nat) : Int)) = true := decide_eq_true (by omega)
   have hz3 : decide (0 < (R2).length) = true := decide_eq_true hz
   have HZP := Lib.hid hz
   obtain ⟨r0, r1⟩ := hb9.two
   have rf := hb9.free
   clear hb9 hz
   go_wp2_with fail
   go_end0
   exact ⟨rfl, HBZ.out.trans (below_rp (grown_set (grown_self _ rb) 1 (.bool true)) (by have := HSB.out; omega) (by have := HBZ.out.size; have := HSB.out; omega)), _, _, _, true, HB9.out.set 1 (.bool true), .inr ⟨rfl, H4.out (by first | rfl | trivial) (by have := HZP.out; first | exact this | trivial)⟩⟩
 ·obtain ⟨r0, r1⟩ := hb9.two
  have rf := hb9.free
  clear hb9
  go_wp2_with fail
  go_end0
  exact ⟨rfl, HBZ.out.trans (below_rp (grown_set (grown_self _ rb) 1 (.bool true)) (by have := HSB.out; omega) (by have := HBZ.out.size; have := HSB.out; omega)), _, _, _, true, HB9.out.set 1 (.bool true), .inr ⟨rfl, H5.out (by first | rfl | trivial)⟩⟩
end Go.Proofs.YtbbgebpgpadclaaGreatDoor

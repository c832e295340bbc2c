/- Parts of the proof, no condition: StRen, StGarL, StTlQ, StBin. -/
import Derived.Test.YthdiccdnggloiaaGreatDoorEv16
import Derived.Test.YthdiccdnggloiaaGreatDoorEv17
import Derived.Test.YthdiccdnggloiaaGreatDoorBn4
import Derived.Test.YthdiccdnggloiaaGreatDoorBn1
import Derived.Test.YthdiccdnggloiaaGreatDoorBn2
set_option maxRecDepth 100000
set_option maxHeartbeats 16000000
set_option linter.unusedSimpArgs false
set_option linter.unusedVariables false
namespace Go.Proofs.YthdiccdnggloiaaGreatDoor
open Go.RowKit Go.Sort Go.Shelf Go.Maps
def EmpOk (w : World) (t : Sto) (n : Int) (e : Ending) (w' : World) : Prop := ∃ a' : StA, e = .returned (.tuple #[.agg #[.int .i64 t.least, .int .i64 t.wait, .slice a'.ta t.tiers.length a'.tc, .slice a'.fa t.files.length a'.fc, .slice a'.ca t.copies.length a'.cc, .slice a'.ha t.held.length a'.hc, .slice a'.ba t.bin.length a'.bc], .int .i64 n, .int .i64 0]) ∧ StIn w' t a' ∧ Below w.heap.size w w'
theorem OwnV.far {w w' : World} {B k n g : Nat} {e e' : TypeId} {v : Value} {xs : List Value} {cur : Array Value} (h : OwnV w B e k v n xs) (hg : w.heap[g]? = some (.cells cur e' (0, 0))) (hne : e ≠ e') (hw : w.grownBy w' (some g)) : OwnV w' B e k v n xs := by
 rcases h with h | ⟨g0, cap, h, hc⟩
 ·exact .inl h
 ·refine .inr ⟨g0, cap, h, hc.of_block (hw.block g0 hc.lt.2 ?_)⟩
  obtain ⟨cur0, _, h0, _⟩ := hc
  intro e2
  cases e2
  rw [hg] at h0
  cases h0
  exact hne rfl
theorem OwnV.beside {w w' : World} {B B0 k n k' m : Nat} {e e' : TypeId} {v u : Value} {xs ys : List Value} (h : OwnV w B e k v n xs) (o : OwnV w B0 e' k' u m ys) (hne : e ≠ e') (hg : w.grownBy w' u.ownBlock) : OwnV w' B e k v n xs := by
 rcases o with ⟨rfl, _, _⟩ | ⟨g, cap, rfl, hc⟩
 ·exact h.keep ⟨hg.os, hg.tape, hg.output, hg.size, fun j hj => hg.block j hj (by simp [Value.ownBlock])⟩
 ·obtain ⟨cur, _, h0, _⟩ := hc
  exact h.far h0 hne hg
theorem below_ownE {B : Nat} {a w w' : World} {v : Value} {n k : Nat} {e : TypeId} {xs : List Value} (h : Below B a w) (ho : OwnV w B e k v n xs) (hg : w.grownBy w' v.ownBlock) (hB : B ≤ w.heap.size) : Below B a w' := by
 refine h.trans ⟨hg.os, hg.tape, hg.output, hg.size, fun j hj => ?_⟩
 refine hg.block j (by omega) fun e2 => ?_
 have h1 := (ho.lt j e2.symm).1
 omega
theorem OwnV.seven {w : World} {B k n b : Nat} {e : TypeId} {v : Value} {xs : List Value} (h : OwnV w B e k v n xs) (hb : b < B) (i0 i1 i2 i3 i4 i5 i6 : Nat) (u0 u1 u2 u3 u4 u5 u6 : Value) : OwnV (((((((w.setCell ⟨b, i0, none⟩ u0).setCell ⟨b, i1, none⟩ u1).setCell ⟨b, i2, none⟩ u2).setCell ⟨b, i3, none⟩ u3).setCell ⟨b, i4, none⟩ u4).setCell ⟨b, i5, none⟩ u5).setCell ⟨b, i6, none⟩ u6).drew B e k v n xs := by
 refine OwnV.keep ?_ (Below.refl _ _).drew
 exact ((((((h.next (Below.refl _ _) hb).next (Below.refl _ _) hb).next (Below.refl _ _) hb).next (Below.refl _ _) hb).next (Below.refl _ _) hb).next (Below.refl _ _) hb).next (Below.refl _ _) hb
theorem below_seven {w0 w : World} {B b : Nat} (h : Below B w0 w) (hb : B ≤ b) (i0 i1 i2 i3 i4 i5 i6 : Nat) (u0 u1 u2 u3 u4 u5 u6 : Value) : Below B w0 (((((((w.setCell ⟨b, i0, none⟩ u0).setCell ⟨b, i1, none⟩ u1).setCell ⟨b, i2, none⟩ u2).setCell ⟨b, i3, none⟩ u3).setCell ⟨b, i4, none⟩ u4).setCell ⟨b, i5, none⟩ u5).setCell ⟨b, i6, none⟩ u6).drew :=
 (((((((h.setCell hb _).setCell hb _).setCell hb _).setCell hb _).setCell hb _).setCell hb _).setCell hb _).drew
theorem gonF_delV (fn : FuncId) (lb : Array Value) (eg : ∀ args w, (callFunc fn args).run Tryz.prog w = .ok (.enter fn args) w) (p : Gon → Bool) (B n cap : Nat) (g : Option Addr) (L : List Gon) (w : World) (h : OwnV w B 112 2 (.slice g n cap) n (St.eG.flat L)) (hn : n ≤ 1000000) (hL : L.length = n) (HD : ∀ b, g = some ⟨b, 0, none⟩ → DelOk St.eG (fun x => .agg #[.string x.dig, .int .i64 x.day]) w b fn lb p L) :
  Calls Tryz.prog 68 #[.slice g n cap, .func (.func fn) #[] lb] w fun e w' => e = .returned (.slice g (L.filter (fun y => !p y)).length cap) ∧ OwnV w' B 112 2 (.slice g (L.filter (fun y => !p y)).length cap) (L.filter (fun y => !p y)).length (St.eG.flat (L.filter (fun y => !p y))) ∧ w.grownBy w' (Value.slice g n cap).ownBlock := by
 rcases h with ⟨h1, h2, h3⟩ | ⟨b, cap', h1, hc⟩
 ·cases h1
  obtain rfl := List.eq_nil_of_length_eq_zero hL
  have HIX := Lib.hid (gonF_idx fn lb eg p [] none 0 w (RowE.nil _ _ _) ⟨Nat.le_refl _, by decide⟩ (fun V x hx => by cases hx))
  have hz : St.idx p [] 0 = -1 := rfl
  rw [hz, List.length_nil] at HIX
  go_enter Tryz.func68, Tryz.ntmps68
  go_wp2_with (go_at_call 156; (with_reducible refine HIX.out.mono ?_); rintro e w3 ⟨rfl, hB3⟩)
  go_ret
  exact ⟨rfl, .inl ⟨rfl, rfl, rfl⟩, ⟨hB3.os, hB3.tape, hB3.output, hB3.size, fun k hk _ => hB3.block k hk⟩⟩
 ·cases h1
  refine (gonF_del fn lb eg p B b n cap L w hc hn hL (HD b rfl)).mono fun e w' h => ?_
  obtain ⟨h1, h2, h3⟩ := h
  exact ⟨h1, .inr ⟨b, cap, rfl, h2⟩, h3⟩
theorem emptyF_is (x : Gon) (wait day : Int) (bs bd : Nat) (w : World) (h0 : 0 ≤ x.day ∧ x.day ≤ 73048) (h1 : 0 ≤ wait ∧ wait ≤ 1000) (hs : w.cell? ⟨bs, 1, none⟩ = some (.int .i64 wait)) (hd : w.cell? ⟨bd, 0, none⟩ = some (.int .i64 day)) (hl1 : bs < w.heap.size) (hl2 : bd < w.heap.size) :
  Calls Tryz.prog 69 #[.agg #[.string x.dig, .int .i64 x.day], .pointer (some ⟨bs, 0, none⟩), .pointer (some ⟨bd, 0, none⟩)] w fun e w' => e = .returned (.bool (decide (x.day + wait ≤ day))) ∧ Below w.heap.size w w' := by
 obtain ⟨W1, hW1, hX, hz1, hB1⟩ := box w #[.string x.dig, .int .i64 x.day] 112
 have HW1 := Lib.hid hW1; have HB1 := Lib.hid hB1
 have e1 : W1.cell? ⟨w.heap.size, 1, none⟩ = some (.int .i64 x.day) := (hX.cell 1).trans rfl
 have s1 : W1.cell? ⟨bs, 1, none⟩ = some (.int .i64 wait) := (hB1.cell (p := ⟨bs, 1, none⟩) hl1).trans hs
 have d1 : W1.cell? ⟨bd, 0, none⟩ = some (.int .i64 day) := (hB1.cell (p := ⟨bd, 0, none⟩) hl2).trans hd
 have hw : IntKind.i64.wrap (x.day + wait) = x.day + wait := by rw [IntKind.wrap_i64]; omega
 clear hW1 hX hz1 hB1 hs hd hl1 hl2
 go_enter Tryz.func69, Tryz.ntmps69
 go_upto_region 1 with fail
 rw [HW1.out]
 go_wp2_with fail
 go_ret
 exact ⟨rfl, HB1.out⟩
theorem enters_empty : ∀ args w, (callFunc 69 args).run Tryz.prog w = .ok (.enter 69 args) w := enters_of Tryz.func69 (by kernel_rfl) rfl
theorem emptyS_ok (s : Sto) (a : StA) (day : Int) (w : World) (hI : StIn w s a) (r : St.Right s) (hday : St.inB day 0 73048 = true) : Calls Tryz.prog 13 #[.agg #[.int .i64 s.least, .int .i64 s.wait, .slice a.ta s.tiers.length a.tc, .slice a.fa s.files.length a.fc, .slice a.ca s.copies.length a.cc, .slice a.ha s.held.length a.hc, .slice a.ba s.bin.length a.bc], .int .i64 day] w (EmpOk w (St.empty s day) ((s.bin.length : Int) - ((St.empty s day).bin.length : Int))) := by
 obtain ⟨W0, hW0, hP, hz0, hB0⟩ := box w #[.int .i64 s.least, .int .i64 s.wait, .slice a.ta s.tiers.length a.tc, .slice a.fa s.files.length a.fc, .slice a.ca s.copies.length a.cc, .slice a.ha s.held.length a.hc, .slice a.ba s.bin.length a.bc] 28
 obtain ⟨W1, hW1, hD, hz1, hB1⟩ := box W0 #[.int .i64 day] 3
 obtain ⟨W2, hW2, hQ, hz2, hB2⟩ := box W1 #[.int .i64 0, .int .i64 0, .slice none 0 0, .slice none 0 0, .slice none 0 0, .slice none 0 0, .slice none 0 0] 28
 rw [hz0] at hD hz1
 rw [hz1] at hQ hz2
 have hP := (hP.keep hB1).keep hB2
 have hD := hD.keep hB2
 have hBB := below_up hB0 (below_up hB1 hB2)
 have HW0 := Lib.hid hW0; have HW1 := Lib.hid hW1; have HW2 := Lib.hid hW2; have HP := Lib.hid hP; have HD := Lib.hid hD; have HQ := Lib.hid hQ; have HBB := Lib.hid hBB; have HZ2 : Hid (W2.heap.size = w.heap.size + 3) := Lib.hid (by omega)
 have HI2 := Lib.hid (hI.keep hBB)
 obtain ⟨q0, q1, q2, q3, q4, q5, q6⟩ := hP.seven
 have d0 := hD.one
 have HCK := Lib.hid (check_is s a W2 HI2.out)
 have HSZ := Lib.hid hI.sz
 clear hI hW0 hW1 hW2 hP hD hQ hz0 hz1 hz2 hB0 hB1 hB2 hBB
 rw [St.err_iff.2 r] at HCK
 obtain ⟨⟨y00, y0⟩, y1, y2, y3, y4, y5⟩ := St.sizes_iff.1 r.sizes
 have HDY := Lib.hid (fun V => isDayS_is day V)
 rw [hday] at HDY
 have HCP := Lib.hid (fun V (hv : Below W2.heap.size W2 V) => copyStore_is s a V (HI2.out.keep hv) ⟨y1, y2, y3, y4, y5⟩)
 unfold CpyPost at HCP
 have hwt := St.inB_iff.1 y0
 have HWT := Lib.hid hwt
 have HBD : Hid (∀ g ∈ s.bin, 0 ≤ g.day ∧ g.day ≤ 73048) := Lib.hid fun g hg => St.inB_iff.1 (St.binR_iff.1 (r.bin g hg).2).1
 have HS6 : Hid (∀ g ∈ s.bin, g.dig.size ≤ 9223372036854775807) := Lib.hid fun g hg => by have := St.dsz r (r.bin g hg).1; omega
 have HFL : Hid (s.bin.filter (fun y => !decide (y.day + s.wait ≤ day)) = (St.empty s day).bin) := Lib.hid rfl
 have hfl : (St.empty s day).bin.length ≤ s.bin.length := List.length_filter_le _ _
 have HFM : Hid (∀ g ∈ (St.empty s day).bin, g ∈ s.bin) := Lib.hid fun g hg => (List.mem_filter.1 hg).1
 have HRE : Hid (St.empty s day = { s with bin := (St.empty s day).bin }) := Lib.hid rfl
 generalize (St.empty s day).bin = BB at *
 obtain ⟨nb, hnb⟩ : ∃ nb, s.bin.length = nb := ⟨_, rfl⟩
 have HNB := Lib.hid hnb
 rw [hnb] at y5 hfl
 clear r hday y00 y0 y1 y2 y3 y4 hwt hnb
 go_enter Tryz.func13, Tryz.ntmps13
 go_upto_region 1 with fail
 rw [HW0.out, HW1.out, HW2.out]
 go_upto_region 7 with (first
  | (go_at_call 32; (with_reducible refine HCK.out.mono ?_); rintro e w7 ⟨rfl, hv⟩; obtain ⟨q0, q1, q2, q3, q4, q5, q6⟩ := (HP.out.keep hv).seven; have d0 := (HD.out.keep hv).one)
  | (go_at_call 64; (with_reducible refine (HDY.out _).mono ?_); rintro e w6 ⟨rfl, rfl⟩)
  | (go_at_call 51; (with_reducible refine (HCP.out _ hv).mono ?_); rintro e w8 ⟨b, rfl, hOwn, hB8⟩)
  | (refine wpList_store_row rfl 28 _ _ rfl w.heap.size #[.int .i64 s.least, .int .i64 s.wait, .slice b.ta s.tiers.length b.tc, .slice b.fa s.files.length b.fc, .slice b.ca s.copies.length b.cc, .slice b.ha s.held.length b.hc, .slice b.ba s.bin.length b.bc] rfl rfl 28 _ (HP.out.keep (below_up hv hB8)) infoSto rfl (by simp [Value.oneCell']) ?_))
 have hlt4 : w.heap.size + 2 < w7.heap.size := by have := HZ2.out; have := hv.size; omega
 have hv8 := below_up hv hB8
 have hPv := Blk.setRowAt (HP.out.keep hv8) #[.int .i64 s.least, .int .i64 s.wait, .slice b.ta s.tiers.length b.tc, .slice b.fa s.files.length b.fc, .slice b.ca s.copies.length b.cc, .slice b.ha s.held.length b.hc, .slice b.ba s.bin.length b.bc]
 have hQv := (HQ.out.keep hv8).setRowOther (b' := w.heap.size) (by omega) #[.int .i64 s.least, .int .i64 s.wait, .slice b.ta s.tiers.length b.tc, .slice b.fa s.files.length b.fc, .slice b.ca s.copies.length b.cc, .slice b.ha s.held.length b.hc, .slice b.ba s.bin.length b.bc]
 have hDv := (HD.out.keep hv8).setRowOther (b' := w.heap.size) (by omega) #[.int .i64 s.least, .int .i64 s.wait, .slice b.ta s.tiers.length b.tc, .slice b.fa s.files.length b.fc, .slice b.ca s.copies.length b.cc, .slice b.ha s.held.length b.hc, .slice b.ba s.bin.length b.bc]
 have hBv := below_setRow (below_up HBB.out hv8) (Nat.le_refl w.heap.size) #[.int .i64 s.least, .int .i64 s.wait, .slice b.ta s.tiers.length b.tc, .slice b.fa s.files.length b.fc, .slice b.ca s.copies.length b.cc, .slice b.ha s.held.length b.hc, .slice b.ba s.bin.length b.bc]
 have hOv := hOwn.setRow (b := w.heap.size) (by omega) #[.int .i64 s.least, .int .i64 s.wait, .slice b.ta s.tiers.length b.tc, .slice b.fa s.files.length b.fc, .slice b.ca s.copies.length b.cc, .slice b.ha s.held.length b.hc, .slice b.ba s.bin.length b.bc]
 have hVz : w.heap.size + 3 ≤ (w8.setRow w.heap.size #[.int .i64 s.least, .int .i64 s.wait, .slice b.ta s.tiers.length b.tc, .slice b.fa s.files.length b.fc, .slice b.ca s.copies.length b.cc, .slice b.ha s.held.length b.hc, .slice b.ba s.bin.length b.bc]).heap.size := by have := hB8.size; simp; omega
 obtain ⟨V, hV⟩ : ∃ V, w8.setRow w.heap.size #[.int .i64 s.least, .int .i64 s.wait, .slice b.ta s.tiers.length b.tc, .slice b.fa s.files.length b.fc, .slice b.ca s.copies.length b.cc, .slice b.ha s.held.length b.hc, .slice b.ba s.bin.length b.bc] = V := ⟨_, rfl⟩
 rw [hV] at hPv hQv hDv hBv hOv hVz ⊢
 clear hV q0 q1 q2 q3 q4 q5 q6 d0 hOwn hv8 hB8 hv
 have HPv := Lib.hid hPv; have HDv := Lib.hid hDv; have HOv := Lib.hid hOv; have HBv := Lib.hid hBv; have HQv := Lib.hid hQv
 have hob := hOv.bi
 rw [HNB.out] at hob
 have HOB := Lib.hid hob.lt
 have hbc := hob.caps
 have HDL := Lib.hid (gonF_delV 69 #[.pointer (some ⟨w.heap.size, 0, none⟩), .pointer (some ⟨w.heap.size + 1, 0, none⟩)] enters_empty (fun y => decide (y.day + s.wait ≤ day)) w7.heap.size nb b.bc b.ba s.bin V hob (by omega) HNB.out (fun g hg U x hx hgr => by
  have hgb := HOB.out g (by rw [hg]; rfl)
  have hPU : Blk U w.heap.size #[.int .i64 s.least, .int .i64 s.wait, .slice b.ta s.tiers.length b.tc, .slice b.fa s.files.length b.fc, .slice b.ca s.copies.length b.cc, .slice b.ha s.held.length b.hc, .slice b.ba s.bin.length b.bc] 28 := hPv.of_block (hgr.block _ (by omega) (by intro e; cases e; omega))
  have hDU : Blk U (w.heap.size + 1) #[.int .i64 day] 3 := hDv.of_block (hgr.block _ (by omega) (by intro e; cases e; omega))
  have hsU := hgr.size
  exact emptyF_is x s.wait day w.heap.size (w.heap.size + 1) U (HBD.out x hx) HWT.out hPU.seven.2.1 hDU.one (by omega) (by omega)))
 rw [HFL.out] at HDL
 obtain ⟨q0, q1, q2, q3, q4, q5, q6⟩ := hPv.seven
 rw [HNB.out] at q6
 clear hPv hQv hDv hBv hob
 have qf := HPv.out.free
 go_upto_region 8 with fail
 go_upto_region 9 with (first
  | (go_at_call 68; (with_reducible refine HDL.out.mono ?_); rintro e x1 ⟨rfl, ho1, hg1⟩; have hox := ho1.caps; have l1 := hox.1; have l2 := hox.2)
  | (go_at_call 67; (with_reducible refine (clnG_clip _ _ _ _ l1 l2).mono ?_); rintro e wc ⟨rfl, rfl⟩; have hP1 : Blk x1 w.heap.size #[.int .i64 s.least, .int .i64 s.wait, .slice b.ta s.tiers.length b.tc, .slice b.fa s.files.length b.fc, .slice b.ca s.copies.length b.cc, .slice b.ha s.held.length b.hc, .slice b.ba s.bin.length b.bc] 28 := HPv.out.of_block (hg1.block _ (by omega) (by intro e; have := (HOB.out w.heap.size e.symm).1; omega)); obtain ⟨q0, q1, q2, q3, q4, q5, q6⟩ := hP1.seven; have qf := hP1.free))
 have hPx := hP1.set 6 (.slice b.ba BB.length BB.length)
 have hQx : Blk (x1.setCell ⟨w.heap.size, 6, none⟩ (.slice b.ba BB.length BB.length)) (w.heap.size + 2) #[.int .i64 0, .int .i64 0, .slice none 0 0, .slice none 0 0, .slice none 0 0, .slice none 0 0, .slice none 0 0] 28 := by
  have h := HQv.out.of_block (hg1.block _ (by omega) (by intro e; have := (HOB.out _ e.symm).1; omega))
  exact h.setOther (a := ⟨w.heap.size, 6, none⟩) (by simp <;> omega) _
 obtain ⟨X, hX⟩ : ∃ X, x1.setCell ⟨w.heap.size, 6, none⟩ (.slice b.ba BB.length BB.length) = X := ⟨_, rfl⟩
 rw [hX] at hPx hQx ⊢
 have HX := Lib.hid hX
 clear hX q0 q1 q2 q3 q4 q5 q6 hP1
 obtain ⟨q0, q1, q2, q3, q4, q5, q6⟩ := hPx.seven
 have HPx := Lib.hid hPx; have HQx := Lib.hid hQx
 obtain ⟨r0, r1, r2, r3, r4, r5, r6⟩ := hQx.drew.seven
 have rf := hQx.drew.free
 have rf' : ∀ i, X.frozen? ⟨w.heap.size + 1 + 1, i, none⟩ = false := fun i => rf i
 have r0 : X.cell? ⟨w.heap.size + 1 + 1, 0, none⟩ = _ := r0
 have r1 : X.cell? ⟨w.heap.size + 1 + 1, 1, none⟩ = _ := r1
 have r2 : X.cell? ⟨w.heap.size + 1 + 1, 2, none⟩ = _ := r2
 have r3 : X.cell? ⟨w.heap.size + 1 + 1, 3, none⟩ = _ := r3
 have r4 : X.cell? ⟨w.heap.size + 1 + 1, 4, none⟩ = _ := r4
 have r5 : X.cell? ⟨w.heap.size + 1 + 1, 5, none⟩ = _ := r5
 have r6 : X.cell? ⟨w.heap.size + 1 + 1, 6, none⟩ = _ := r6
 clear hPx hQx
 go_region
 have bB := HOv.out.bi
 rw [HNB.out] at bB
 have hlt : w.heap.size < w7.heap.size := by omega
 have hlt2 : w.heap.size + 1 + 1 < w7.heap.size := by omega
 have t1 := (HOv.out.ti.beside bB (by decide) hg1).next (i := 6) (u := .slice b.ba BB.length BB.length) (Below.refl _ _) hlt
 have t2 := (HOv.out.fi.beside bB (by decide) hg1).next (i := 6) (u := .slice b.ba BB.length BB.length) (Below.refl _ _) hlt
 have t3 := (HOv.out.co.beside bB (by decide) hg1).next (i := 6) (u := .slice b.ba BB.length BB.length) (Below.refl _ _) hlt
 have t4 := (HOv.out.he.beside bB (by decide) hg1).next (i := 6) (u := .slice b.ba BB.length BB.length) (Below.refl _ _) hlt
 have t5 := ho1.clip.next (i := 6) (u := .slice b.ba BB.length BB.length) (Below.refl _ _) hlt
 have hB1 := (below_ownE HBv.out (bB.down (show w.heap.size ≤ w7.heap.size by omega)) hg1 (by omega)).setCell (p := ⟨w.heap.size, 6, none⟩) (Nat.le_refl _) (.slice b.ba BB.length BB.length)
 rw [HX.out] at t1 t2 t3 t4 t5 hB1
 have t1 := t1.seven hlt2 0 1 2 3 4 5 6 (.int .i64 s.least) (.int .i64 s.wait) (.slice b.ta s.tiers.length b.tc) (.slice b.fa s.files.length b.fc) (.slice b.ca s.copies.length b.cc) (.slice b.ha s.held.length b.hc) (.slice b.ba BB.length BB.length)
 have t2 := t2.seven hlt2 0 1 2 3 4 5 6 (.int .i64 s.least) (.int .i64 s.wait) (.slice b.ta s.tiers.length b.tc) (.slice b.fa s.files.length b.fc) (.slice b.ca s.copies.length b.cc) (.slice b.ha s.held.length b.hc) (.slice b.ba BB.length BB.length)
 have t3 := t3.seven hlt2 0 1 2 3 4 5 6 (.int .i64 s.least) (.int .i64 s.wait) (.slice b.ta s.tiers.length b.tc) (.slice b.fa s.files.length b.fc) (.slice b.ca s.copies.length b.cc) (.slice b.ha s.held.length b.hc) (.slice b.ba BB.length BB.length)
 have t4 := t4.seven hlt2 0 1 2 3 4 5 6 (.int .i64 s.least) (.int .i64 s.wait) (.slice b.ta s.tiers.length b.tc) (.slice b.fa s.files.length b.fc) (.slice b.ca s.copies.length b.cc) (.slice b.ha s.held.length b.hc) (.slice b.ba BB.length BB.length)
 have t5 := t5.seven hlt2 0 1 2 3 4 5 6 (.int .i64 s.least) (.int .i64 s.wait) (.slice b.ta s.tiers.length b.tc) (.slice b.fa s.files.length b.fc) (.slice b.ca s.copies.length b.cc) (.slice b.ha s.held.length b.hc) (.slice b.ba BB.length BB.length)
 have hB2 := below_seven hB1 (show w.heap.size ≤ w.heap.size + 1 + 1 by omega) 0 1 2 3 4 5 6 (.int .i64 s.least) (.int .i64 s.wait) (.slice b.ta s.tiers.length b.tc) (.slice b.fa s.files.length b.fc) (.slice b.ca s.copies.length b.cc) (.slice b.ha s.held.length b.hc) (.slice b.ba BB.length BB.length)
 obtain ⟨g0, g1, g2, g3, g4, g5, g6⟩ : _ ∧ _ := (((((((HQx.out.set 0 (.int .i64 s.least)).set 1 (.int .i64 s.wait)).set 2 (.slice b.ta s.tiers.length b.tc)).set 3 (.slice b.fa s.files.length b.fc)).set 4 (.slice b.ca s.copies.length b.cc)).set 5 (.slice b.ha s.held.length b.hc)).set 6 (.slice b.ba BB.length BB.length)).drew.seven
 go_wp2_with fail
 refine bodyPost_ret (v := .tuple #[.agg #[.int .i64 s.least, .int .i64 s.wait, .slice b.ta s.tiers.length b.tc, .slice b.fa s.files.length b.fc, .slice b.ca s.copies.length b.cc, .slice b.ha s.held.length b.hc, .slice b.ba BB.length BB.length], .int .i64 ((nb : Int) - BB.length), .int .i64 0]) (by simp [results, Tryz.results13, go_sem, g0, g1, g2, g3, g4, g5, g6]) rfl ?_
 rw [HRE.out, HNB.out]
 exact ⟨⟨b.ta, b.tc, b.fa, b.fc, b.ca, b.cc, b.ha, b.hc, b.ba, BB.length⟩, rfl, (StOwn.mk (s := { s with bin := BB }) (a := ⟨b.ta, b.tc, b.fa, b.fc, b.ca, b.cc, b.ha, b.hc, b.ba, BB.length⟩) t1 t2 t3 t4 t5).in_ ⟨HSZ.out.tz, HSZ.out.fz, HSZ.out.cz, HSZ.out.hz, fun g hg => HS6.out g (HFM.out g hg)⟩, hB2⟩
namespace St
theorem filD_of {s : Sto} (r : Right s) {f : Fil} (hf : f ∈ s.files) : filD s.files f.dig = f := by
 unfold filD
 cases hq : fileOf s.files f.dig with
 | none =>
   have := List.find?_eq_none.1 hq f hf
   simp at this
   exact absurd (eq_iff.2 rfl) (by rw [this]; decide)
 | some g =>
   obtain ⟨h1, h2⟩ := find_mem hq
   exact r.fup.one h1 hf (eq_iff.1 h2)
theorem neededD_of {s : Sto} (r : Right s) {f : Fil} (hf : f ∈ s.files) : neededD s f.dig = needed s f := by
 unfold neededD; rw [filD_of r hf]
end St
def DigPost (w : World) (L : List ByteArray) (e : Ending) (w' : World) : Prop := ∃ g cap, e = .returned (.slice g L.length cap) ∧ OwnV w' w.heap.size 9 1 (.slice g L.length cap) L.length (St.eS.flat L) ∧ Below w.heap.size w w'
theorem allNeeded_is (s : Sto) (a : StA) (mb : Nat) (w : World) (hI : StIn w s a) (hM : FMap w mb s.files) (r : St.Right s) :
  Calls Tryz.prog 99 #[.agg #[.int .i64 s.least, .int .i64 s.wait, .slice a.ta s.tiers.length a.tc, .slice a.fa s.files.length a.fc, .slice a.ca s.copies.length a.cc, .slice a.ha s.held.length a.hc, .slice a.ba s.bin.length a.bc, .map (some mb)]] w (DigPost w (St.neededL s)) := by
 obtain ⟨W1, hW1, hP, hz1, hB1⟩ := box w #[.int .i64 s.least, .int .i64 s.wait, .slice a.ta s.tiers.length a.tc, .slice a.fa s.files.length a.fc, .slice a.ca s.copies.length a.cc, .slice a.ha s.held.length a.hc, .slice a.ba s.bin.length a.bc, .map (some mb)] 135
 have HW1 := Lib.hid hW1; have HB1 := Lib.hid hB1
 obtain ⟨_, y1, y2, y3, y4, y5⟩ := St.sizes_iff.1 r.sizes
 have HGB : Hid (∀ f ∈ s.files, ∀ V, Below W1.heap.size W1 V → Calls Tryz.prog 171 #[.agg #[.int .i64 s.least, .int .i64 s.wait, .slice a.ta s.tiers.length a.tc, .slice a.fa s.files.length a.fc, .slice a.ca s.copies.length a.cc, .slice a.ha s.held.length a.hc, .slice a.ba s.bin.length a.bc, .map (some mb)], .string f.dig] V fun e w' => e = .returned (.bool (St.needed s f)) ∧ Below V.heap.size V w') := Lib.hid fun f hf V hv => by
  have h16 := St.dig16 (r.dig f hf).1
  have := needed_is s a mb f.dig V ((hI.keep hB1).keep hv) ((hM.keep hB1).keep hv) r (by omega)
  rwa [St.neededD_of r hf] at this
 have HI := Lib.hid hI
 have hfl0 := hI.fl
 have HCL : Hid (∀ V, Below W1.heap.size W1 V → V.cell? ⟨w.heap.size, 0, none⟩ = some (.int .i64 s.least) ∧ V.cell? ⟨w.heap.size, 1, none⟩ = some (.int .i64 s.wait) ∧ V.cell? ⟨w.heap.size, 2, none⟩ = some (.slice a.ta s.tiers.length a.tc) ∧ V.cell? ⟨w.heap.size, 3, none⟩ = some (.slice a.fa s.files.length a.fc) ∧ V.cell? ⟨w.heap.size, 4, none⟩ = some (.slice a.ca s.copies.length a.cc) ∧ V.cell? ⟨w.heap.size, 5, none⟩ = some (.slice a.ha s.held.length a.hc) ∧ V.cell? ⟨w.heap.size, 6, none⟩ = some (.slice a.ba s.bin.length a.bc) ∧ V.cell? ⟨w.heap.size, 7, none⟩ = some (.map (some mb))) := Lib.hid fun V hv => (hP.keep hv).eight
 have HGL : Hid (St.neededL s = (s.files.filter (St.needed s)).map (·.dig)) := Lib.hid rfl
 obtain ⟨m0, m1, m2, m3, m4, m5, m6, m7⟩ := HCL.out _ (Below.refl _ _)
 have HS1 := Lib.hid hz1
 clear hI hM r hW1 hP hz1 hB1 m0 m1 m2 m4 m5 m6 m7 y1 y3 y4 y5
 obtain ⟨nf, hnf⟩ : ∃ nf, s.files.length = nf := ⟨_, rfl⟩
 have HNF := Lib.hid hnf
 rw [hnf] at hfl0 y2 HCL m3 HW1 HGB ⊢
 clear hnf
 go_enter Tryz.func99, Tryz.ntmps99
 go_wp2_with fail
 rw [HW1.out]
 go_wp2_with fail
 clear m3
 go_loopg [3, 10] nf (fun gk v i wr => ∃ j : Nat, j ≤ nf ∧ gk = nf - j ∧ i = .int .i64 j ∧ wr.ownsRow W1.heap.size 9 1 v (((s.files.take j).filter (St.needed s)).map (·.dig)).length (St.eS.flat (((s.files.take j).filter (St.needed s)).map (·.dig))) ∧ Below W1.heap.size W1 wr)
 case atStart => exact ⟨0, by omega, rfl, rfl, World.ownsRow_nil _ _ _ _, Below.refl _ _⟩
 case round =>
  obtain ⟨j, hj, rfl, rfl, hown, hB⟩ := hrel
  by_cases hlt : j < nf
  ·obtain ⟨x, hx⟩ : ∃ x, s.files[j]? = some x := ⟨_, List.getElem?_eq_getElem (by rw [HNF.out]; exact hlt)⟩
   obtain ⟨b, off, ha, hb, hcell⟩ := ((HI.out.keep (below_up HB1.out hB)).fi) (by rw [HNF.out]; omega)
   have c0 : wr.cell? ⟨b, off + j * 4, none⟩ = some (.string x.dig) := hcell j x hx 0 (.string x.dig) rfl
   have c1 : wr.cell? ⟨b, off + j * 4 + 1, none⟩ = some (.int .i64 x.size) := hcell j x hx 1 (.int .i64 x.size) rfl
   have c2 : wr.cell? ⟨b, off + j * 4 + 2, none⟩ = some (.int .i64 x.kind) := hcell j x hx 2 (.int .i64 x.kind) rfl
   have c3 : wr.cell? ⟨b, off + j * 4 + 3, none⟩ = some (.string x.frm) := hcell j x hx 3 (.string x.frm) rfl
   clear hcell
   have hft := congrArg (List.map (·.dig)) (St.filter_take (p := St.needed s) hx)
   rw [List.map_append] at hft
   have hfl : (((s.files.take j).filter (St.needed s)).map (·.dig)).length ≤ s.files.length := by rw [List.length_map]; exact St.filter_len (p := St.needed s) (L := s.files) j
   rw [HNF.out] at hfl
   have hmem := List.mem_of_getElem? hx
   obtain ⟨W3, hW3, hX3, hz3, hB3⟩ := box wr #[.string x.dig, .int .i64 x.size, .int .i64 x.kind, .string x.frm] 30
   have HW3 := Lib.hid hW3
   have HAW := Lib.hid (below_up hB hB3)
   have hown3 := own_keepE hown hB3
   have HX : Hid (∀ V, Below W3.heap.size W3 V → V.cell? ⟨wr.heap.size, 0, none⟩ = some (.string x.dig) ∧ V.cell? ⟨wr.heap.size, 1, none⟩ = some (.int .i64 x.size) ∧ V.cell? ⟨wr.heap.size, 2, none⟩ = some (.int .i64 x.kind) ∧ V.cell? ⟨wr.heap.size, 3, none⟩ = some (.string x.frm)) := Lib.hid fun V hv => (hX3.keep hv).four
   have HGX := Lib.hid (HGB.out x hmem)
   have hj0 : (0 : Int) ≤ (j : Int) := by omega
   have hj1 : (j : Int) < (nf : Int) := by omega
   have HFT := Lib.hid hft
   generalize (((s.files.take j).filter (St.needed s)).map (·.dig)) = G at *
   generalize hgd : St.needed s x = gd at *
   have hv : Below W3.heap.size W3 W3 := Below.refl _ _
   obtain ⟨e0, e1, e2, e3⟩ := HX.out _ hv
   obtain ⟨n0, n1, n2, n3, n4, n5, n6, n7⟩ := HCL.out _ (below_up HAW.out hv)
   have HOW := Lib.hid hown3
   clear hx hB hX3 hz3 hB3 hW3 hown hown3 hft hmem HGB hgd
   rw [ha] at HGX HCL n3 ⊢
   go_upto_region 5 with fail
   rw [HW3.out]
   clear c0 c1 c2 c3
   cases gd
   ·go_wp2_with (go_at_call 171; (with_reducible refine (HGX.out _ (below_up HAW.out hv)).mono ?_); rintro e w5 ⟨rfl, hq⟩; have hv := below_up hv hq; obtain ⟨e0, e1, e2, e3⟩ := HX.out _ hv)
    rw [← ha]
    go_roundg (nf - (j + 1))
    case rel => exact ⟨j + 1, by omega, rfl, by go_num, by rw [HFT.out, if_neg (by decide), List.map_nil, List.append_nil]; exact own_keepE HOW.out hv, below_up HAW.out hv⟩
    case measure => omega
   ·obtain ⟨FL, hFL⟩ : ∃ FL, St.eS.flat G = FL := ⟨_, rfl⟩
    obtain ⟨m, hm⟩ : ∃ m, G.length = m := ⟨_, rfl⟩
    have HFL : Hid (St.eS.flat (G ++ [x.dig]) = FL ++ [.string x.dig]) := Lib.hid (by rw [Enc.flat_snoc, hFL]; rfl)
    have HM : Hid ((G ++ [x.dig]).length = m + 1) := Lib.hid (by rw [List.length_append, hm]; rfl)
    have HOX := HOW
    rw [hFL, hm] at HOX
    rw [hm] at hfl
    clear hFL hm HOW
    go_wp2_with (first
     | (go_at_call 171; (with_reducible refine (HGX.out _ (below_up HAW.out hv)).mono ?_); rintro e w5 ⟨rfl, hq⟩; have hv := below_up hv hq; obtain ⟨e0, e1, e2, e3⟩ := HX.out _ hv; have hownp := own_keepE HOX.out hv; have hBp := below_up HAW.out hv; have hvs := hBp.size)
     | (at_builtin; refine list_appS rfl _ _ rfl _ _ m FL (by rfl) (by rfl) hownp (by omega) (by omega) (by rfl) (by simp [Value.oneCell']) ?_; intro g8 cap8 w8 hown8 hgrow8; have hB8 := below_grownE (below_allocs hBp _) (hownp.alloc _) hgrow8 (by simp; omega)))
    rw [← ha]
    go_roundg (nf - (j + 1))
    case rel => exact ⟨j + 1, by omega, rfl, by go_num, by rw [HFT.out, if_pos (by first | rfl | trivial), List.map_cons, List.map_nil, HFL.out, HM.out]; exact hown8, hB8⟩
    case measure => omega
  ·obtain rfl : nf = j := by omega
   rw [← HNF.out, List.take_length, ← HGL.out] at hown
   have HO := Lib.hid ((OwnV.of_own hown).down (show w.heap.size ≤ W1.heap.size by have := HS1.out; omega))
   obtain ⟨g, cap, rfl⟩ := ownV_slice (OwnV.of_own hown)
   obtain ⟨l1, l2⟩ := HO.out.caps
   clear hown
   go_wp2_with (go_at_call 104; (with_reducible refine (clnS_clip _ _ _ _ l1 l2).mono ?_); rintro e wc ⟨rfl, rfl⟩)
   go_ret
   exact ⟨g, _, rfl, HO.out.clip, below_up HB1.out hB⟩
def TlOk {α : Type} (E : Enc α) (w : World) (L : List α) (e : Ending) (w' : World) : Prop := ∃ g cap, e = .returned (.tuple #[.slice g L.length cap, .int .i64 0]) ∧ RowE E w' g L ∧ L.length ≤ cap ∧ cap ≤ 9223372036854775807 ∧ Below w.heap.size w w'
theorem needS_ok (s : Sto) (a : StA) (w : World) (hI : StIn w s a) (r : St.Right s) : Calls Tryz.prog 26 #[.agg #[.int .i64 s.least, .int .i64 s.wait, .slice a.ta s.tiers.length a.tc, .slice a.fa s.files.length a.fc, .slice a.ca s.copies.length a.cc, .slice a.ha s.held.length a.hc, .slice a.ba s.bin.length a.bc]] w (TlOk St.eS w (St.neededL s)) := by
 obtain ⟨W1, hW1, hP, hz1, hB1⟩ := box w #[.int .i64 s.least, .int .i64 s.wait, .slice a.ta s.tiers.length a.tc, .slice a.fa s.files.length a.fc, .slice a.ca s.copies.length a.cc, .slice a.ha s.held.length a.hc, .slice a.ba s.bin.length a.bc] 28
 have HW1 := Lib.hid hW1
 have HI1 := Lib.hid (hI.keep hB1)
 have q0 : W1.cell? ⟨w.heap.size, 0, none⟩ = some (.int .i64 s.least) := (hP.cell 0).trans rfl
 have q1 : W1.cell? ⟨w.heap.size, 1, none⟩ = some (.int .i64 s.wait) := (hP.cell 1).trans rfl
 have q2 : W1.cell? ⟨w.heap.size, 2, none⟩ = some (.slice a.ta s.tiers.length a.tc) := (hP.cell 2).trans rfl
 have q3 : W1.cell? ⟨w.heap.size, 3, none⟩ = some (.slice a.fa s.files.length a.fc) := (hP.cell 3).trans rfl
 have q4 : W1.cell? ⟨w.heap.size, 4, none⟩ = some (.slice a.ca s.copies.length a.cc) := (hP.cell 4).trans rfl
 have q5 : W1.cell? ⟨w.heap.size, 5, none⟩ = some (.slice a.ha s.held.length a.hc) := (hP.cell 5).trans rfl
 have q6 : W1.cell? ⟨w.heap.size, 6, none⟩ = some (.slice a.ba s.bin.length a.bc) := (hP.cell 6).trans rfl
 have HP := Lib.hid hP; have HB1 := Lib.hid hB1
 clear hW1 hP
 obtain ⟨_, y1, y2, y3, y4, y5⟩ := St.sizes_iff.1 r.sizes
 have HCK := Lib.hid (check_is s a W1 HI1.out)
 rw [St.err_iff.2 r] at HCK
 have HLK := Lib.hid (fun V (hv : Below W1.heap.size W1 V) => look_is s a V (HI1.out.keep hv) (by omega))
 have HCL : Hid (∀ W, Below W1.heap.size W1 W → W.cell? ⟨w.heap.size, 0, none⟩ = some (.int .i64 s.least) ∧ W.cell? ⟨w.heap.size, 1, none⟩ = some (.int .i64 s.wait) ∧ W.cell? ⟨w.heap.size, 2, none⟩ = some (.slice a.ta s.tiers.length a.tc) ∧ W.cell? ⟨w.heap.size, 3, none⟩ = some (.slice a.fa s.files.length a.fc) ∧ W.cell? ⟨w.heap.size, 4, none⟩ = some (.slice a.ca s.copies.length a.cc) ∧ W.cell? ⟨w.heap.size, 5, none⟩ = some (.slice a.ha s.held.length a.hc) ∧ W.cell? ⟨w.heap.size, 6, none⟩ = some (.slice a.ba s.bin.length a.bc)) := Lib.hid fun W hb => (HP.out.keep hb).seven
 have HAN := Lib.hid (fun mb V (hv : Below W1.heap.size W1 V) (hM : FMap V mb s.files) => allNeeded_is s a mb V (HI1.out.keep hv) hM r)
 unfold DigPost at HAN
 clear hI r hz1 y1 y2 y3 y4 y5
 go_enter Tryz.func26, Tryz.ntmps26
 go_upto_region 1 with fail
 rw [HW1.out]
 go_wp2_with (first
  | (go_at_call 32; (with_reducible refine HCK.out.mono ?_); rintro e w3 ⟨rfl, hv⟩; obtain ⟨q0, q1, q2, q3, q4, q5, q6⟩ := HCL.out _ hv)
  | (go_at_call 93; (with_reducible refine (HLK.out _ hv).mono ?_); rintro e w4 ⟨mb, rfl, hmb, hM, hq⟩; have hv := below_up hv hq)
  | (go_at_call 99; (with_reducible refine (HAN.out mb _ hv hM).mono ?_); rintro e w5 ⟨g, cap, rfl, ho, hq⟩; have hv := below_up hv hq))
 go_ret2
 exact ⟨g, cap, rfl, RowE.ofV (E := St.eS) (ca := cap) ho, ho.caps.1, ho.caps.2, below_up HB1.out hv⟩
theorem infoLck : (Tryz.prog.info? 70).map (fun i => (i.zero, i.size, i.bytes)) = some (some (.agg #[.string ByteArray.empty, .int .i64 0, .int .i64 0]), 3, 32) := by kernel_rfl

theorem dig_nothing : Hx.dig [] = ⟨#[99, 98, 102, 50, 57, 99, 101, 52, 56, 52, 50, 50, 50, 51, 50, 53]⟩ := by decide +kernel
theorem awake_is (w : World) (hDB : Hx.DB w) : Calls Tryz.prog 48 #[] w fun e w' => e = .returned (.bool true) ∧ Below w.heap.size w w' := by
 have HDG := Lib.hid (digest_is ⟨#[]⟩ (by decide) w hDB)
 rw [show Hx.dig (⟨#[]⟩ : ByteArray).data.toList = ⟨#[99, 98, 102, 50, 57, 99, 101, 52, 56, 52, 50, 50, 50, 51, 50, 53]⟩ from dig_nothing] at HDG
 clear hDB
 go_enter Tryz.func48, Tryz.ntmps48
 go_wp2_with (go_at_call 30; (with_reducible refine HDG.out.mono ?_); rintro e w3 ⟨rfl, hB3⟩)
 go_ret
 exact ⟨rfl, hB3⟩
theorem fillNew (w : World) (c cs : Array Value) (t : TypeId) : ∃ X, (w.alloc (.cells c t)).setRow w.heap.size cs = X ∧ Blk X w.heap.size cs t ∧ X.heap.size = w.heap.size + 1 ∧ Below w.heap.size w X :=
 ⟨_, rfl, Blk.setRowAt (Blk.new _ _ _) _, by simp, below_setRow ((Below.refl _ _).alloc (Nat.le_refl _) _) (Nat.le_refl _) _⟩
theorem storeBin_err (s : Sto) (a : StA) (d : ByteArray) (day : Int) (w : World) (hI : StIn w s a) (hDB : Hx.DB w) (q : Int) (hq0 : q ≠ 0) (HR : ∀ V, StIn V s a → Calls Tryz.prog 12 #[.agg #[.int .i64 s.least, .int .i64 s.wait, .slice a.ta s.tiers.length a.tc, .slice a.fa s.files.length a.fc, .slice a.ca s.copies.length a.cc, .slice a.ha s.held.length a.hc, .slice a.ba s.bin.length a.bc], .string d, .int .i64 day] V (StoErr V q)) :
  Calls Tryz.prog 7 #[.agg #[.int .i64 s.least, .int .i64 s.wait, .slice a.ta s.tiers.length a.tc, .slice a.fa s.files.length a.fc, .slice a.ca s.copies.length a.cc, .slice a.ha s.held.length a.hc, .slice a.ba s.bin.length a.bc], .string d, .int .i64 day] w fun e w' => e = .returned (.bool true) ∧ Below w.heap.size w w' := by
 obtain ⟨W1, hW1, hX1, hz1, hB1⟩ := box w #[.int .i64 s.least, .int .i64 s.wait, .slice a.ta s.tiers.length a.tc, .slice a.fa s.files.length a.fc, .slice a.ca s.copies.length a.cc, .slice a.ha s.held.length a.hc, .slice a.ba s.bin.length a.bc] 28
 have HW1 := Lib.hid hW1; have HB1 := Lib.hid hB1; have HZ1 := Lib.hid hz1
 have HIA := Lib.hid (hI.keep hB1)
 have HAW := Lib.hid (awake_is W1 (Hx.db_below hDB hB1))
 have HX1 := Lib.hid hX1
 obtain ⟨q0, q1, q2, q3, q4, q5, q6⟩ := hX1.seven
 clear hW1 hX1 hz1 hB1 hI hDB
 have HRL := Lib.hid HR
 unfold StoErr at HRL
 have hq1 : (q != 0) = true := by simpa using hq0
 clear HR hq0
 go_enter Tryz.func7, Tryz.ntmps7
 go_upto_region 1 with fail
 rw [HW1.out]
 go_upto_region 4 with (first
  | (go_at_call 48; (with_reducible refine HAW.out.mono ?_); rintro e w2 ⟨rfl, hv⟩; obtain ⟨q0, q1, q2, q3, q4, q5, q6⟩ := (HX1.out.keep hv).seven)
  | (go_at_call 12; (with_reducible refine (HRL.out _ (HIA.out.keep hv)).mono ?_); rintro e w3 ⟨rfl, hB3⟩)
  | (refine wpList_store_row rfl 28 _ _ rfl w3.heap.size #[.int .i64 0, .int .i64 0, .slice none 0 0, .slice none 0 0, .slice none 0 0, .slice none 0 0, .slice none 0 0] rfl rfl 28 #[.int .i64 0, .int .i64 0, .slice none 0 0, .slice none 0 0, .slice none 0 0, .slice none 0 0, .slice none 0 0] (heap_alloc_new w3 _) infoSto rfl (by simp [Value.oneCell']) ?_))
 obtain ⟨X, hX, hXB, hXz, hXW⟩ := fillNew w3 #[.int .i64 0, .int .i64 0, .slice none 0 0, .slice none 0 0, .slice none 0 0, .slice none 0 0, .slice none 0 0] #[.int .i64 0, .int .i64 0, .slice none 0 0, .slice none 0 0, .slice none 0 0, .slice none 0 0, .slice none 0 0] 28
 rw [hX]
 have HBZ := Lib.hid (below_up HB1.out (below_up hv (below_up hB3 hXW)))
 clear q0 q1 q2 q3 q4 q5 q6 hX hXB hXz hXW
 go_wp2_with fail
 go_ret
 exact ⟨rfl, HBZ.out⟩
theorem storeBin_ok (s : Sto) (a : StA) (d : ByteArray) (day : Int) (w : World) (hI : StIn w s a) (hDB : Hx.DB w) (r : St.Right s) (hd : St.hasK id s.held d = true) (hday : St.inB day 0 73048 = true) :
  Calls Tryz.prog 7 #[.agg #[.int .i64 s.least, .int .i64 s.wait, .slice a.ta s.tiers.length a.tc, .slice a.fa s.files.length a.fc, .slice a.ca s.copies.length a.cc, .slice a.ha s.held.length a.hc, .slice a.ba s.bin.length a.bc], .string d, .int .i64 day] w fun e w' => e = .returned (.bool true) ∧ Below w.heap.size w w' := by
 obtain ⟨W1, hW1, hX1, hz1, hB1⟩ := box w #[.int .i64 s.least, .int .i64 s.wait, .slice a.ta s.tiers.length a.tc, .slice a.fa s.files.length a.fc, .slice a.ca s.copies.length a.cc, .slice a.ha s.held.length a.hc, .slice a.ba s.bin.length a.bc] 28
 have HW1 := Lib.hid hW1; have HB1 := Lib.hid hB1; have HZ1 := Lib.hid hz1
 have HIA := Lib.hid (hI.keep hB1)
 have HAW := Lib.hid (awake_is W1 (Hx.db_below hDB hB1))
 have HX1 := Lib.hid hX1
 obtain ⟨q0, q1, q2, q3, q4, q5, q6⟩ := hX1.seven
 clear hW1 hX1 hz1 hB1 hI hDB
 obtain ⟨l1, l2, l3, l4⟩ := St.bin_law r hd hday
 have rt := St.right_release r hd hday
 have hwt : 0 ≤ s.wait ∧ s.wait ≤ 1000 := St.inB_iff.1 (St.sizes_iff.1 r.sizes).1.2
 have hdd := St.inB_iff.1 hday
 have HRL := Lib.hid (fun V (h : StIn V s a) => releaseS_ok s a d day V h r hd hday)
 unfold StoOk at HRL
 generalize St.release s d day = t at *
 have HND := Lib.hid (fun V b (h : StIn V t b) => needS_ok t b V h rt)
 have HEM := Lib.hid (fun V b n (h : StIn V t b) (hn : St.inB n 0 73048 = true) => emptyS_ok t b n V h rt hn)
 have HNE := Lib.hid (fun V (b : StA) n (h : StIn V (St.empty t n) b) => needS_ok (St.empty t n) b V h (St.right_empty rt n))
 have HHO := Lib.hid (fun V b (h : StIn V t b) => holdS_ok t b d V h rt l3)
 rw [l4] at HHO
 unfold StoOk at HHO
 unfold TlOk at HND HNE
 unfold EmpOk at HEM
 have HSA := Lib.hid (fun V b (h : StIn V s a) (h2 : StIn V s b) => sameP_any s s a b V h h2 true (by simp))
 have hc1 : St.hasS (St.neededL t) d = true := by
  unfold St.hasS; exact List.any_eq_true.2 ⟨d, l1, by simp [St.eq]⟩
 have HC2 : Hid (∀ n : Int, St.hasS (St.neededL (St.empty t n)) d = decide (n < day + s.wait)) := Lib.hid fun n => by
  rw [Bool.eq_iff_iff, decide_eq_true_iff, ← l2 n]
  unfold St.hasS
  rw [List.any_eq_true]
  constructor
  ·rintro ⟨x, hx, hxd⟩
   rw [← St.eq_iff.1 hxd]; exact hx
  ·intro h
   exact ⟨d, h, St.eq_iff.2 rfl⟩
 have HC1 := Lib.hid (fun V g c (R : RowE St.eS V g (St.neededL t)) (hl : (St.neededL t).length ≤ c ∧ c ≤ 9223372036854775807) => containsS_is (St.neededL t) g c d V R hl)
 rw [hc1] at HC1
 have hw1 : IntKind.i64.wrap (day + s.wait) = day + s.wait := by rw [IntKind.wrap_i64]; omega
 have hw2 : IntKind.i64.wrap (day + s.wait - 1) = day + s.wait - 1 := by rw [IntKind.wrap_i64]; omega
 clear r hd hday l1 l2 l3 l4 rt hwt hdd hc1
 go_enter Tryz.func7, Tryz.ntmps7
 go_upto_region 1 with fail
 rw [HW1.out]
 go_upto_region 4 with (first
  | (go_at_call 48; (with_reducible refine HAW.out.mono ?_); rintro e w2 ⟨rfl, hv⟩; obtain ⟨q0, q1, q2, q3, q4, q5, q6⟩ := (HX1.out.keep hv).seven)
  | (go_at_call 12; (with_reducible refine (HRL.out _ (HIA.out.keep hv)).mono ?_); rintro e w3 ⟨b, rfl, hI3, hB3⟩)
  | (refine wpList_store_row rfl 28 _ _ rfl w3.heap.size #[.int .i64 t.least, .int .i64 t.wait, .slice b.ta t.tiers.length b.tc, .slice b.fa t.files.length b.fc, .slice b.ca t.copies.length b.cc, .slice b.ha t.held.length b.hc, .slice b.ba t.bin.length b.bc] rfl rfl 28 #[.int .i64 0, .int .i64 0, .slice none 0 0, .slice none 0 0, .slice none 0 0, .slice none 0 0, .slice none 0 0] (heap_alloc_new w3 _) infoSto rfl (by simp [Value.oneCell']) ?_))
 obtain ⟨X, hX, hXB, hXz, hXW⟩ := fillNew w3 #[.int .i64 0, .int .i64 0, .slice none 0 0, .slice none 0 0, .slice none 0 0, .slice none 0 0, .slice none 0 0] #[.int .i64 t.least, .int .i64 t.wait, .slice b.ta t.tiers.length b.tc, .slice b.fa t.files.length b.fc, .slice b.ca t.copies.length b.cc, .slice b.ha t.held.length b.hc, .slice b.ba t.bin.length b.bc] 28
 rw [hX]
 have HIT := Lib.hid (hI3.keep hXW)
 have hvX := below_up hv (below_up hB3 hXW)
 have HXS := Lib.hid (HX1.out.keep hvX)
 have HIS := Lib.hid (HIA.out.keep hvX)
 have HBX := Lib.hid (below_up HB1.out hvX)
 have HXB := Lib.hid hXB
 clear q0 q1 q2 q3 q4 q5 q6 hX hI3 hvX hXz hXW hB3 hv
 obtain ⟨p0, p1, p2, p3, p4, p5, p6⟩ := hXB.seven
 clear hXB
 go_upto_region 9 with (first
  | (go_at_call 26; (with_reducible refine (HND.out _ _ HIT.out).mono ?_); rintro e w5 ⟨g1, c1, rfl, R1, m1, m2, hq⟩)
  | (go_at_call 49; (with_reducible refine (HC1.out _ g1 c1 R1 ⟨m1, m2⟩).mono ?_); rintro e w6 ⟨rfl, rfl⟩))
 clear p0 p1 p2 p3 p4 p5 p6
 obtain ⟨q0, q1, q2, q3, q4, q5, q6⟩ := (HXS.out.keep hq).seven
 obtain ⟨W2, hW2, hX2, hz2, hB2⟩ := box w5 #[.int .i64 (day + s.wait - 1), .int .i64 (day + s.wait)] 3
 have HW2 := Lib.hid hW2; have HX2 := Lib.hid hX2
 have hXW := below_up hq hB2
 have HXW := Lib.hid hXW
 have HIT := Lib.hid (HIT.out.keep hXW); have HIS := Lib.hid (HIS.out.keep hXW); have HXS := Lib.hid (HXS.out.keep hXW); have HXB := Lib.hid (HXB.out.keep hXW)
 have HBX := Lib.hid (below_up HBX.out hXW)
 clear R1 m1 m2 hq hX2 hW2 hz2 hB2 hXW
 go_wp2_with fail
 rw [HW2.out]
 go_loopg [53] 2 (fun gk i wr => ∃ j : Nat, j ≤ 2 ∧ gk = 2 - j ∧ i = .int .i64 j ∧ Below W2.heap.size W2 wr)
 case atStart => exact ⟨0, by omega, rfl, rfl, Below.refl _ _⟩
 case round =>
  obtain ⟨j, hj, rfl, rfl, hB⟩ := hrel
  obtain ⟨q0, q1, q2, q3, q4, q5, q6⟩ := (HXS.out.keep hB).seven
  obtain ⟨p0, p1, p2, p3, p4, p5, p6⟩ := (HXB.out.keep hB).seven
  by_cases hlt : j < 2
  ·obtain ⟨n, hn⟩ : ∃ n : Int, wr.cell? ⟨w5.heap.size, j, none⟩ = some (.int .i64 n) := by
    rw [(HX2.out.keep hB).cell j]
    rcases (show j = 0 ∨ j = 1 by omega) with rfl | rfl
    ·exact ⟨_, rfl⟩
    ·exact ⟨_, rfl⟩
   have hj0 : (0 : Int) ≤ (j : Int) := by omega
   have hj1 : (j : Int) < 2 := by omega
   by_cases hn0 : n < 0
   ·go_wp2_with fail
    go_roundg (2 - (j + 1))
    case rel => exact ⟨j + 1, by omega, rfl, by go_num, hB⟩
    case measure => omega
   ·by_cases hn1 : 73048 < n
    ·go_wp2_with fail
     go_roundg (2 - (j + 1))
     case rel => exact ⟨j + 1, by omega, rfl, by go_num, hB⟩
     case measure => omega
    ·have hnb : St.inB n 0 73048 = true := St.inB_iff.2 (by omega)
     have HE := Lib.hid (fun V b (h : StIn V t b) => HEM.out V b n h hnb)
     have HN := Lib.hid (fun V b (h : StIn V (St.empty t n) b) => HNE.out V b n h)
     have hcc := HC2.out n
     have HC3 := Lib.hid (fun V g c (R : RowE St.eS V g (St.neededL (St.empty t n))) (hl : (St.neededL (St.empty t n)).length ≤ c ∧ c ≤ 9223372036854775807) => containsS_is (St.neededL (St.empty t n)) g c d V R hl)
     rw [hcc] at HC3
     generalize ((t.bin.length : Int) - ((St.empty t n).bin.length : Int)) = cnt at *
     generalize St.neededL (St.empty t n) = NL at *
     generalize St.empty t n = E at *
     clear hnb hcc
     go_upto_region 14 with (first
      | (go_at_call 13; (with_reducible refine (HE.out _ _ (HIT.out.keep hB)).mono ?_); rintro e w6 ⟨c, rfl, hI6, hB6⟩)
      | (refine wpList_store_row rfl 28 _ _ rfl w6.heap.size #[.int .i64 E.least, .int .i64 E.wait, .slice c.ta E.tiers.length c.tc, .slice c.fa E.files.length c.fc, .slice c.ca E.copies.length c.cc, .slice c.ha E.held.length c.hc, .slice c.ba E.bin.length c.bc] rfl rfl 28 #[.int .i64 0, .int .i64 0, .slice none 0 0, .slice none 0 0, .slice none 0 0, .slice none 0 0, .slice none 0 0] (heap_alloc_new w6 _) infoSto rfl (by simp [Value.oneCell']) ?_))
     obtain ⟨Y, hY, hYB, hYz, hYW⟩ := fillNew w6 #[.int .i64 0, .int .i64 0, .slice none 0 0, .slice none 0 0, .slice none 0 0, .slice none 0 0, .slice none 0 0] #[.int .i64 E.least, .int .i64 E.wait, .slice c.ta E.tiers.length c.tc, .slice c.fa E.files.length c.fc, .slice c.ca E.copies.length c.cc, .slice c.ha E.held.length c.hc, .slice c.ba E.bin.length c.bc] 28
     rw [hY]
     have hI6 := hI6.keep hYW
     have hB7 := below_up hB (below_up hB6 hYW)
     clear hY hYz q0 q1 q2 q3 q4 q5 q6 p0 p1 p2 p3 p4 p5 p6 hYW hB6 hB
     obtain ⟨y0, y1, y2, y3, y4, y5, y6⟩ := hYB.seven
     clear hYB
     go_upto_region 15 with (go_at_call 26; (with_reducible refine (HN.out _ _ hI6).mono ?_); rintro e w7 ⟨g2, c2, rfl, R2, m1, m2, hq⟩)
     have hB8 := below_up hB7 hq
     clear y0 y1 y2 y3 y4 y5 y6 hI6
     have q1 : w7.drew.cell? ⟨w.heap.size, 1, none⟩ = some (.int .i64 s.wait) := (HXS.out.keep hB8).drew.seven.2.1
     have HR2 := Lib.hid R2; have HM2 := Lib.hid (And.intro m1 m2); have HB8 := Lib.hid hB8
     have hv : Below w7.heap.size w7 w7.drew := (Below.refl _ _).drew
     clear R2 m1 m2 hB8 hB7 hq
     by_cases hnd : n < day + s.wait
     ·rw [decide_eq_true hnd] at HC3
      go_region_held3 (fun V => V.cell? ⟨w.heap.size, 1, none⟩ = some (.int .i64 s.wait))
       (first | (with_reducible exact q1) | go_keep)
       (first
        | (go_at_call 49; (with_reducible refine (HC3.out _ g2 c2 (HR2.out.keep hv) HM2.out).mono ?_); rintro e wq ⟨rfl, rfl⟩)
        | fail)
      go_wp2_with fail
      go_roundg (2 - (j + 1))
      case rel => exact ⟨j + 1, by omega, rfl, by go_num, below_up HB8.out hv⟩
      case measure => omega
     ·rw [decide_eq_false hnd] at HC3
      go_region_held3 (fun V => V.cell? ⟨w.heap.size, 1, none⟩ = some (.int .i64 s.wait))
       (first | (with_reducible exact q1) | go_keep)
       (first
        | (go_at_call 49; (with_reducible refine (HC3.out _ g2 c2 (HR2.out.keep hv) HM2.out).mono ?_); rintro e wq ⟨rfl, rfl⟩)
        | fail)
      go_wp2_with fail
      go_roundg (2 - (j + 1))
      case rel => exact ⟨j + 1, by omega, rfl, by go_num, below_up HB8.out hv⟩
      case measure => omega
  ·obtain rfl : j = 2 := by omega
   have hI2 := HIT.out.keep hB
   have HBB := Lib.hid (below_up HBX.out hB)
   clear hlt
   go_upto_region 19 with (first
    | (go_at_call 11; (with_reducible refine (HHO.out _ _ hI2).mono ?_); rintro e w6 ⟨c, rfl, hI6, hB6⟩)
    | (refine wpList_store_row rfl 28 _ _ rfl w6.heap.size #[.int .i64 s.least, .int .i64 s.wait, .slice c.ta s.tiers.length c.tc, .slice c.fa s.files.length c.fc, .slice c.ca s.copies.length c.cc, .slice c.ha s.held.length c.hc, .slice c.ba s.bin.length c.bc] rfl rfl 28 #[.int .i64 0, .int .i64 0, .slice none 0 0, .slice none 0 0, .slice none 0 0, .slice none 0 0, .slice none 0 0] (heap_alloc_new w6 _) infoSto rfl (by simp [Value.oneCell']) ?_))
   obtain ⟨Y, hY, hYB, hYz, hYW⟩ := fillNew w6 #[.int .i64 0, .int .i64 0, .slice none 0 0, .slice none 0 0, .slice none 0 0, .slice none 0 0, .slice none 0 0] #[.int .i64 s.least, .int .i64 s.wait, .slice c.ta s.tiers.length c.tc, .slice c.fa s.files.length c.fc, .slice c.ca s.copies.length c.cc, .slice c.ha s.held.length c.hc, .slice c.ba s.bin.length c.bc] 28
   rw [hY]
   have hI6 := Lib.hid (hI6.keep hYW)
   have hB7 := below_up hB6 hYW
   have HB7 := Lib.hid (below_up HBB.out hB7)
   have hIz := Lib.hid ((HIS.out.keep hB).keep hB7)
   clear q0 q1 q2 q3 q4 q5 q6 p0 p1 p2 p3 p4 p5 p6
   obtain ⟨q0, q1, q2, q3, q4, q5, q6⟩ := ((HXS.out.keep hB).keep hB7).seven
   obtain ⟨y0, y1, y2, y3, y4, y5, y6⟩ := hYB.seven
   clear hY hYz hYW hB6 hB7 hB hI2 hYB
   go_wp2_with (go_at_call 33; (with_reducible refine (HSA.out _ _ hIz.out hI6.out).mono ?_); rintro e w8 ⟨rfl, hq⟩)
   go_ret
   exact ⟨rfl, below_up HB7.out hq⟩
theorem storeBin_walk (s : Sto) (a : StA) (d : ByteArray) (day : Int) (w : World) (hI : StIn w s a) (hDB : Hx.DB w) :
  Calls Tryz.prog 7 #[.agg #[.int .i64 s.least, .int .i64 s.wait, .slice a.ta s.tiers.length a.tc, .slice a.fa s.files.length a.fc, .slice a.ca s.copies.length a.cc, .slice a.ha s.held.length a.hc, .slice a.ba s.bin.length a.bc], .string d, .int .i64 day] w fun e w' => e = .returned (.bool true) ∧ Below w.heap.size w w' := by
 by_cases he : St.err s = 0
 ·have r := St.err_iff.1 he
  cases hd : St.hasK id s.held d with
  | false => exact storeBin_err s a d day w hI hDB 7 (by decide) fun V h => releaseS_none s a d day V h r hd
  | true =>
    cases hday : St.inB day 0 73048 with
    | false => exact storeBin_err s a d day w hI hDB 2 (by decide) fun V h => releaseS_range s a d day V h r hd hday
    | true => exact storeBin_ok s a d day w hI hDB r hd hday
 ·exact storeBin_err s a d day w hI hDB (St.err s) he fun V h => releaseS_err s a d day V h he
end Go.Proofs.YthdiccdnggloiaaGreatDoor

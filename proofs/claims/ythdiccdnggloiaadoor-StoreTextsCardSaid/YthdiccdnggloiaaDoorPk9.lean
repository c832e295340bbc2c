/- Parts of the proof, no condition: StStr. -/
import Derived.Test.YthdiccdnggloiaaDoorPk8
import Derived.Test.YthdiccdnggloiaaDoorPk5
set_option maxRecDepth 100000
set_option maxHeartbeats 16000000
set_option linter.unusedSimpArgs false
set_option linter.unusedVariables false
namespace Go.Proofs.YthdiccdnggloiaaDoor
open Go.RowKit Go.Sort Go.Shelf Go.Maps
namespace St
theorem ba_app (a b : List UInt8) : Tx.mk (a ++ b) = Tx.mk a ++ Tx.mk b := (Tx.mk_append a b).symm
theorem mk_ln2 (a b : List UInt8) : Tx.mk (ln [a, b]) = Tx.mk (a ++ [32]) ++ Tx.mk b := by rw [ln2, ba_app]
theorem mk_ln3 (a b c : List UInt8) : Tx.mk (ln [a, b, c]) = Tx.mk (a ++ [32]) ++ Tx.mk b ++ ⟨#[32]⟩ ++ Tx.mk c := by
 rw [ln3, ba_app, ba_app, ba_app]
theorem mk_ln4 (a b c d : List UInt8) : Tx.mk (ln [a, b, c, d]) = Tx.mk (a ++ [32]) ++ Tx.mk b ++ ⟨#[32]⟩ ++ Tx.mk c ++ ⟨#[32]⟩ ++ Tx.mk d := by
 rw [ln4, ba_app, ba_app, ba_app, ba_app, ba_app]
theorem mk_ln5 (a b c d e : List UInt8) : Tx.mk (ln [a, b, c, d, e]) = Tx.mk (a ++ [32]) ++ Tx.mk b ++ ⟨#[32]⟩ ++ Tx.mk c ++ ⟨#[32]⟩ ++ Tx.mk d ++ ⟨#[32]⟩ ++ Tx.mk e := by
 rw [ln5, ba_app, ba_app, ba_app, ba_app, ba_app, ba_app, ba_app]
theorem mk_fZ (s : Sto) : Tx.mk (fZ s) = ⟨#[115, 116, 111, 114, 101, 32]⟩ ++ num s.least ++ ⟨#[32]⟩ ++ num s.wait := mk_ln3 _ _ _
theorem mk_fT (t : Tir) : Tx.mk (fT t) = ⟨#[116, 105, 101, 114, 32]⟩ ++ t.name ++ ⟨#[32]⟩ ++ num t.room ++ ⟨#[32]⟩ ++ num t.cost ++ ⟨#[32]⟩ ++ sw t.away ⟨#[97, 119, 97, 121]⟩ ⟨#[104, 101, 114, 101]⟩ := by
 unfold fT wT
 rw [mk_ln5, sw_list]; rfl
theorem mk_fF1 (f : Fil) (h : f.kind = 1) : Tx.mk (fF f) = ⟨#[102, 105, 108, 101, 32]⟩ ++ f.dig ++ ⟨#[32]⟩ ++ num f.size ++ ⟨#[32]⟩ ++ kindB f.kind := by
 unfold fF wF
 rw [if_pos h, List.append_nil, mk_ln4]; rfl
theorem mk_fF2 (f : Fil) (h : f.kind ≠ 1) : Tx.mk (fF f) = ⟨#[102, 105, 108, 101, 32]⟩ ++ f.dig ++ ⟨#[32]⟩ ++ num f.size ++ ⟨#[32]⟩ ++ kindB f.kind ++ (⟨#[32]⟩ ++ f.frm) := by
 unfold fF wF
 rw [if_neg h]
 show Tx.mk (ln [_, _, _, _, _]) = _
 rw [mk_ln5, ByteArray.append_assoc]; rfl
theorem mk_fC (c : Cop) : Tx.mk (fC c) = ⟨#[99, 111, 112, 121, 32]⟩ ++ c.dig ++ ⟨#[32]⟩ ++ c.tier ++ ⟨#[32]⟩ ++ sw c.good ⟨#[103, 111, 111, 100]⟩ ⟨#[98, 97, 100]⟩ ++ ⟨#[32]⟩ ++ num c.asked := by
 unfold fC wC
 rw [mk_ln5, sw_list]; rfl
theorem mk_fH (d : ByteArray) : Tx.mk (fH d) = ⟨#[104, 101, 108, 100, 32]⟩ ++ d := mk_ln2 _ _
theorem mk_fB (g : Gon) : Tx.mk (fB g) = ⟨#[98, 105, 110, 32]⟩ ++ g.dig ++ ⟨#[32]⟩ ++ num g.day := mk_ln3 _ _ _
theorem sw_size4 (b : Bool) : (sw b ⟨#[97, 119, 97, 121]⟩ ⟨#[104, 101, 114, 101]⟩).size ≤ 4 := by cases b <;> decide
theorem sw_size4' (b : Bool) : (sw b ⟨#[103, 111, 111, 100]⟩ ⟨#[98, 97, 100]⟩).size ≤ 4 := by cases b <;> decide
theorem strs_succ {α : Type} {A : List (List UInt8)} {f : α → List UInt8} {L : List α} {j : Nat} {x : α} (h : L[j]? = some x) : (partL A f L (j + 1)).length = (partL A f L j).length + 1 ∧ (partL A f L (j + 1)).map strV = (partL A f L j).map strV ++ [.string (Tx.mk (f x))] := by
 rw [partL_succ h]
 exact ⟨by simp, by rw [List.map_append]; rfl⟩
theorem A_count {s : Sto} (h : s.tiers.length ≤ 8 ∧ s.files.length ≤ 500 ∧ s.copies.length ≤ 4000 ∧ s.held.length ≤ 500 ∧ s.bin.length ≤ 500) : (A0 s).length = 1 ∧ (A1 s).length ≤ 10 ∧ (A2 s).length ≤ 600 ∧ (A3 s).length ≤ 4700 ∧ (A4 s).length ≤ 5300 ∧ (A5 s).length ≤ 5900 := by
 have e0 : (A0 s).length = 1 := rfl
 have e1 : (A1 s).length = (A0 s).length + s.tiers.length := by unfold A1; simp
 have e2 : (A2 s).length = (A1 s).length + s.files.length := by unfold A2; simp
 have e3 : (A3 s).length = (A2 s).length + s.copies.length := by unfold A3; simp
 have e4 : (A4 s).length = (A3 s).length + s.held.length := by unfold A4; simp
 have e5 : (A5 s).length = (A4 s).length + s.bin.length := by unfold A5; simp
 omega
end St
theorem own_keepS {w w' : World} {B : Nat} {e : TypeId} {k : Nat} {v : Value} {n : Nat} {xs : List Value} (h : w.ownsRow B e k v n xs) (hb : Below w.heap.size w w') : w'.ownsRow B e k v n xs :=
 h.kept (row := none) ⟨hb.os, hb.tape, hb.output, hb.size, fun k hk _ => hb.block k hk⟩ (by cases hv : v.ownBlock; exact .inl rfl; exact .inr (by simp))
theorem below_grownS {B : Nat} {a w w' : World} {v : Value} {n k : Nat} {e : TypeId} {xs : List Value} (h : Below B a w) (ho : w.ownsRow B e k v n xs) (hg : w.grownBy w' v.ownBlock) (hB : B ≤ w.heap.size) : Below B a w' := by
 refine h.trans ⟨hg.os, hg.tape, hg.output, hg.size, fun j hj => ?_⟩
 refine hg.block j (by omega) fun e2 => ?_
 have h1 := (ho.lt j e2.symm).1
 omega
theorem step_append_str {ops : Array Oper} {o : Oper} {a : Act} {V : World} {S : ByteArray} {K : Act → World → Prop} {Q : Exit → Act → World → Prop} {E : Prop} (hgd : o.guard = none) (s x : Operand)
  (ho : o.op = .call { callee := .builtin .append, args := #[s, x], argTypes := #[25, 25] }) (base : Nat) (v : Value) (n : Nat) (xs : List Value) (hs : a.eval s = v) (hx : a.eval x = .slice (some ⟨V.heap.size, 0, none⟩) 1 1)
  (hown : V.ownsRow base 9 1 v n xs) (hn : n ≤ 1000000) (hb : base ≤ V.heap.size)
  (h : ∀ g cap w', w'.ownsRow base 9 1 (.slice (some ⟨g, 0, none⟩) (n + 1) cap) (n + 1) (xs ++ [.string S]) → (V.alloc (.cells #[.string S] 9)).grownBy w' v.ownBlock → K (a.put o.dst (.slice (some ⟨g, 0, none⟩) (n + 1) cap)) w') :
  if Region.wanted o (yielded ops a.tmps) = true then Oper.wp Tryd.prog o a (V.alloc (.cells #[.string S] 9)) K Q else E := by
 obtain ⟨i0, hi0, hi1, hi2, hi3⟩ := info_parts infoStr
 exact step_append_lies _ hgd s x _ ho base 9 i0 (.string ByteArray.empty) 1 16 Tryd.underlying25 hi0 hi1 hi2 hi3 rfl (by decide) v n xs hs (hown.alloc _) ⟨V.heap.size, 0, none⟩ 1 1 [.string S] hx rfl
  (World.news_of_block (cs := #[.string S]) (t := 9) (fr := (0, 0)) (Blk.new V #[.string S] 9)) (by simp [Value.oneCell']) (by decide) (by unfold maxLen; omega) (by omega) (by simp; omega) _ rfl (fun g cap w' h1 h2 _ _ => h g cap w' h1 h2)
theorem list_append_str {ops : Array Oper} {rest : List Oper} {o : Oper} {a : Act} {V : World} {S : ByteArray} {Q : Exit → Act → World → Prop} (hgd : o.guard = none) (s x : Operand)
  (ho : o.op = .call { callee := .builtin .append, args := #[s, x], argTypes := #[25, 25] }) (base : Nat) (v : Value) (n : Nat) (xs : List Value) (hs : a.eval s = v) (hx : a.eval x = .slice (some ⟨V.heap.size, 0, none⟩) 1 1)
  (hown : V.ownsRow base 9 1 v n xs) (hn : n ≤ 1000000) (hb : base ≤ V.heap.size)
  (h : ∀ g cap w', w'.ownsRow base 9 1 (.slice (some ⟨g, 0, none⟩) (n + 1) cap) (n + 1) (xs ++ [.string S]) → (V.alloc (.cells #[.string S] 9)).grownBy w' v.ownBlock → wpList Tryd.prog ops Q rest (a.put o.dst (.slice (some ⟨g, 0, none⟩) (n + 1) cap)) w') :
  wpList Tryd.prog ops Q (o :: rest) a (V.alloc (.cells #[.string S] 9)) := by
 obtain ⟨i0, hi0, hi1, hi2, hi3⟩ := info_parts infoStr
 exact wpList_append_own2 _ hgd s x _ ho base 9 i0 (.string ByteArray.empty) 1 16 Tryd.underlying25 hi0 hi1 hi2 hi3 rfl (by decide) v n xs hs (hown.alloc _) ⟨V.heap.size, 0, none⟩ 1 1 [.string S] hx (by decide) rfl (cell_one_new _ _ _) (by simp [Value.oneCell']) (by unfold maxLen; omega) (by omega) (by simp; omega) (fun g cap w' h1 h2 _ => h g cap w' h1 h2)
theorem storeStr_is (s : Sto) (a : StA) (w : World) (hI : StIn w s a) (hr : St.Right s) :
  Calls Tryd.prog 12 #[.agg #[.int .i64 s.least, .int .i64 s.wait, .slice a.ta s.tiers.length a.tc, .slice a.fa s.files.length a.fc, .slice a.ca s.copies.length a.cc, .slice a.ha s.held.length a.hc, .slice a.ba s.bin.length a.bc]] w fun e w' => e = .returned (.string (Tx.mk (St.text s))) ∧ Below w.heap.size w w' := by
 obtain ⟨W1, hW1, hP, hz1, hB1⟩ := box w #[.int .i64 s.least, .int .i64 s.wait, .slice a.ta s.tiers.length a.tc, .slice a.fa s.files.length a.fc, .slice a.ca s.copies.length a.cc, .slice a.ha s.held.length a.hc, .slice a.ba s.bin.length a.bc] 28
 have HW1 := Lib.hid hW1
 have HI1 := Lib.hid (hI.keep hB1)
 have q0 : W1.cell? ⟨w.heap.size, 0, none⟩ = some (.int .i64 s.least) := (hP.cell 0).trans rfl
 have q1 : W1.cell? ⟨w.heap.size, 1, none⟩ = some (.int .i64 s.wait) := (hP.cell 1).trans rfl
 have q2 : W1.cell? ⟨w.heap.size, 2, none⟩ = some (.slice a.ta s.tiers.length a.tc) := (hP.cell 2).trans rfl
 have q3 : W1.cell? ⟨w.heap.size, 3, none⟩ = some (.slice a.fa s.files.length a.fc) := (hP.cell 3).trans rfl
 have q4 : W1.cell? ⟨w.heap.size, 4, none⟩ = some (.slice a.ca s.copies.length a.cc) := (hP.cell 4).trans rfl
 have q5 : W1.cell? ⟨w.heap.size, 5, none⟩ = some (.slice a.ha s.held.length a.hc) := (hP.cell 5).trans rfl
 have q6 : W1.cell? ⟨w.heap.size, 6, none⟩ = some (.slice a.ba s.bin.length a.bc) := (hP.cell 6).trans rfl
 have HP := Lib.hid hP; have HB1 := Lib.hid hB1
 clear hW1 hP
 obtain ⟨⟨z1, z2⟩, y1, y2, y3, y4, y5⟩ := St.sizes_iff.1 hr.sizes
 have hz1' := St.inB_iff.1 z1
 have hz2' := St.inB_iff.1 z2
 obtain ⟨k0, k1, k2, k3, k4, k5⟩ := St.A_count ⟨y1, y2, y3, y4, y5⟩
 obtain ⟨_, _, _, _, _, l5⟩ := St.A_len hr
 have htl := hI.tl; have hfl := hI.fl; have hcl := hI.cl; have hhl := hI.hl; have hbl := hI.bl
 have HR := Lib.hid hr
 have HTXT : Hid (St.text s = St.linesT (St.A5 s)) := Lib.hid rfl
 have HS1 : Hid (St.A1 s = St.partL (St.A0 s) St.fT s.tiers s.tiers.length) := Lib.hid (St.partL_all _ _ _).symm
 have HS2 : Hid (St.A2 s = St.partL (St.A1 s) St.fF s.files s.files.length) := Lib.hid (St.partL_all _ _ _).symm
 have HS3 : Hid (St.A3 s = St.partL (St.A2 s) St.fC s.copies s.copies.length) := Lib.hid (St.partL_all _ _ _).symm
 have HS4 : Hid (St.A4 s = St.partL (St.A3 s) St.fH s.held s.held.length) := Lib.hid (St.partL_all _ _ _).symm
 have HS5 : Hid (St.A5 s = St.partL (St.A4 s) St.fB s.bin s.bin.length) := Lib.hid (St.partL_all _ _ _).symm
 have HA0 : Hid (St.A0 s = St.partL (St.A0 s) St.fT s.tiers 0) := Lib.hid (St.partL_zero _ _ _).symm
 have HA1 : Hid (St.A1 s = St.partL (St.A1 s) St.fF s.files 0) := Lib.hid (St.partL_zero _ _ _).symm
 have HA2 : Hid (St.A2 s = St.partL (St.A2 s) St.fC s.copies 0) := Lib.hid (St.partL_zero _ _ _).symm
 have HA3 : Hid (St.A3 s = St.partL (St.A3 s) St.fH s.held 0) := Lib.hid (St.partL_zero _ _ _).symm
 have HA4 : Hid (St.A4 s = St.partL (St.A4 s) St.fB s.bin 0) := Lib.hid (St.partL_zero _ _ _).symm
 have HK1 : Hid (∀ j, j ≤ s.tiers.length → (St.partL (St.A0 s) St.fT s.tiers j).length ≤ 6000) := Lib.hid fun j h => by rw [St.partL_len h]; omega
 have HK2 : Hid (∀ j, j ≤ s.files.length → (St.partL (St.A1 s) St.fF s.files j).length ≤ 6000) := Lib.hid fun j h => by rw [St.partL_len h]; omega
 have HK3 : Hid (∀ j, j ≤ s.copies.length → (St.partL (St.A2 s) St.fC s.copies j).length ≤ 6000) := Lib.hid fun j h => by rw [St.partL_len h]; omega
 have HK4 : Hid (∀ j, j ≤ s.held.length → (St.partL (St.A3 s) St.fH s.held j).length ≤ 6000) := Lib.hid fun j h => by rw [St.partL_len h]; omega
 have HK5 : Hid (∀ j, j ≤ s.bin.length → (St.partL (St.A4 s) St.fB s.bin j).length ≤ 6000) := Lib.hid fun j h => by rw [St.partL_len h]; omega
 have HKZ := Lib.hid k5
 have HL0 := Lib.hid l5
 obtain ⟨i0, hi0, hi1, hi2, hi3⟩ := info_parts infoStr
 have HI0 := Lib.hid hi0; have HI1' := Lib.hid hi1; have HI2 := Lib.hid hi2; have HI3 := Lib.hid hi3
 clear hi0 hi1 hi2 hi3
 clear hI hr z1 z2 l5 k0 k1 k2 k3 k4 k5
 obtain ⟨nt, hnt⟩ : ∃ nt, s.tiers.length = nt := ⟨_, rfl⟩
 obtain ⟨nf, hnf⟩ : ∃ nf, s.files.length = nf := ⟨_, rfl⟩
 obtain ⟨nc, hnc⟩ : ∃ nc, s.copies.length = nc := ⟨_, rfl⟩
 obtain ⟨nh, hnh⟩ : ∃ nh, s.held.length = nh := ⟨_, rfl⟩
 obtain ⟨nb, hnb⟩ : ∃ nb, s.bin.length = nb := ⟨_, rfl⟩
 have HNT := Lib.hid hnt; have HNF := Lib.hid hnf; have HNC := Lib.hid hnc; have HNH := Lib.hid hnh; have HNB := Lib.hid hnb
 rw [hnt] at q2 htl y1 HW1 HP HS1 HK1 ⊢
 rw [hnf] at q3 hfl y2 HW1 HP HS2 HK2 ⊢
 rw [hnc] at q4 hcl y3 HW1 HP HS3 HK3 ⊢
 rw [hnh] at q5 hhl y4 HW1 HP HS4 HK4 ⊢
 rw [hnb] at q6 hbl y5 HW1 HP HS5 HK5 ⊢
 clear hnt hnf hnc hnh hnb
 have HCL : Hid (∀ W, Below W1.heap.size W1 W → W.cell? ⟨w.heap.size, 0, none⟩ = some (.int .i64 s.least) ∧ W.cell? ⟨w.heap.size, 1, none⟩ = some (.int .i64 s.wait) ∧ W.cell? ⟨w.heap.size, 2, none⟩ = some (.slice a.ta nt a.tc) ∧ W.cell? ⟨w.heap.size, 3, none⟩ = some (.slice a.fa nf a.fc) ∧ W.cell? ⟨w.heap.size, 4, none⟩ = some (.slice a.ca nc a.cc) ∧ W.cell? ⟨w.heap.size, 5, none⟩ = some (.slice a.ha nh a.hc) ∧ W.cell? ⟨w.heap.size, 6, none⟩ = some (.slice a.ba nb a.bc)) := Lib.hid fun W hb =>
  have k := HP.out.keep hb
  ⟨(k.cell 0).trans rfl, (k.cell 1).trans rfl, (k.cell 2).trans rfl, (k.cell 3).trans rfl, (k.cell 4).trans rfl, (k.cell 5).trans rfl, (k.cell 6).trans rfl⟩
 clear q0 q1 q2 q3 q4 q5 q6
 have hw1 : W1.heap.size = w.heap.size + 1 := hz1
 have HZ1 := Lib.hid hz1
 clear hz1 hw1
 go_enter Tryd.func12, Tryd.ntmps12
 go_wp2_with fail
 rw [HW1.out]
 have HIA : Hid (∀ V, Calls Tryd.prog 47 #[.int .i64 s.least] V fun e w' => e = .returned (.string (St.num s.least)) ∧ Below V.heap.size V w') := Lib.hid fun V => toldN_is s.least (by omega) V
 have HIC : Hid (∀ V, Calls Tryd.prog 47 #[.int .i64 s.wait] V fun e w' => e = .returned (.string (St.num s.wait)) ∧ Below V.heap.size V w') := Lib.hid fun V => toldN_is s.wait (by omega) V
 have n1 := St.num_size (n := s.least) (by omega)
 have n2 := St.num_size (n := s.wait) (by omega)
 have HMK := Lib.hid (St.mk_fZ s)
 generalize St.num s.least = NA at *
 generalize St.num s.wait = NB at *
 have HCE : Hid (∀ V, Below W1.heap.size W1 V → V.cell? ⟨w.heap.size, 0, none⟩ = some (.int .i64 s.least) ∧ V.cell? ⟨w.heap.size, 1, none⟩ = some (.int .i64 s.wait)) := Lib.hid fun V hv => ⟨(HCL.out V hv).1, (HCL.out V hv).2.1⟩
 have hv : Below W1.heap.size W1 W1.drew := (Below.refl _ _).drew
 have a1 : ∀ W, (Op.stringOp .add ((⟨#[115, 116, 111, 114, 101, 32]⟩ : ByteArray)) (NA)).run Tryd.prog W = .ok (.string (((⟨#[115, 116, 111, 114, 101, 32]⟩ : ByteArray)) ++ (NA))) W := fun W => run_string_add_sum W _ _ (by simp only [ByteArray.size_append', ByteArray.size_mk']; simp; omega)
 have a2 : ∀ W, (Op.stringOp .add ((⟨#[115, 116, 111, 114, 101, 32]⟩ : ByteArray) ++ NA) (⟨#[32]⟩)).run Tryd.prog W = .ok (.string (((⟨#[115, 116, 111, 114, 101, 32]⟩ : ByteArray) ++ NA) ++ (⟨#[32]⟩))) W := fun W => run_string_add_sum W _ _ (by simp only [ByteArray.size_append', ByteArray.size_mk']; simp; omega)
 have a3 : ∀ W, (Op.stringOp .add ((⟨#[115, 116, 111, 114, 101, 32]⟩ : ByteArray) ++ NA ++ ⟨#[32]⟩) (NB)).run Tryd.prog W = .ok (.string (((⟨#[115, 116, 111, 114, 101, 32]⟩ : ByteArray) ++ NA ++ ⟨#[32]⟩) ++ (NB))) W := fun W => run_string_add_sum W _ _ (by simp only [ByteArray.size_append', ByteArray.size_mk']; simp; omega)
 obtain ⟨d0, d1⟩ := HCE.out _ hv
 go_region_held3 (fun w' => w'.cell? ⟨w.heap.size, 0, none⟩ = some (.int .i64 s.least) ∧ w'.cell? ⟨w.heap.size, 1, none⟩ = some (.int .i64 s.wait))
  (first | (with_reducible exact ⟨d0, d1⟩) | go_keep)
  (first
   | (go_at_call 47; (with_reducible refine (HIA.out _).mono ?_); rintro e wq ⟨rfl, hq⟩; have hv := below_up hv hq; obtain ⟨d0, d1⟩ := HCE.out _ hv)
   | (go_at_call 47; (with_reducible refine (HIC.out _).mono ?_); rintro e wq ⟨rfl, hq⟩; have hv := below_up hv hq; obtain ⟨d0, d1⟩ := HCE.out _ hv))
 obtain ⟨W5, hW5, hX5, hz5, hB5⟩ := box wq #[.string ((⟨#[115, 116, 111, 114, 101, 32]⟩ : ByteArray) ++ NA ++ ⟨#[32]⟩ ++ NB)] 9
 have HW5 := Lib.hid hW5
 have hownZ := ownsRow_new wq W1.heap.size 9 #[.string ((⟨#[115, 116, 111, 114, 101, 32]⟩ : ByteArray) ++ NA ++ ⟨#[32]⟩ ++ NB)] hv.size (by unfold maxLen; simp)
 rw [hW5] at hownZ
 have HOZ : Hid (W5.ownsRow W1.heap.size 9 1 (.slice (some ⟨wq.heap.size, 0, none⟩) 1 1) (St.partL (St.A0 s) St.fT s.tiers 0).length ((St.partL (St.A0 s) St.fT s.tiers 0).map strV)) := Lib.hid (by
  rw [← HA0.out]
  have e : (St.A0 s).map strV = [.string ((⟨#[115, 116, 111, 114, 101, 32]⟩ : ByteArray) ++ NA ++ ⟨#[32]⟩ ++ NB)] := by
   show [Value.string (Tx.mk (St.fZ s))] = _
   rw [HMK.out]
  rw [e]
  exact hownZ)
 have HBZ := Lib.hid (below_up hv hB5)
 obtain ⟨m0, m1, m2, m3, m4, m5, m6⟩ := HCL.out _ HBZ.out
 rw [HW5.out]
 clear m0 m1 m3 m4 m5 m6 hW5 hX5 hz5 hB5 hownZ hv d0 d1 a1 a2 a3 n1 n2
 go_wp2_with fail
 clear m2 HIA HIC HMK HCE
 go_loopg [3, 28] nt (fun gk v i wr => ∃ j : Nat, j ≤ nt ∧ gk = nt - j ∧ i = .int .i64 j ∧ wr.ownsRow W1.heap.size 9 1 v (St.partL (St.A0 s) St.fT s.tiers j).length ((St.partL (St.A0 s) St.fT s.tiers j).map strV) ∧ Below W1.heap.size W1 wr)
 case atStart => exact ⟨0, by omega, rfl, rfl, HOZ.out, HBZ.out⟩
 case round =>
  obtain ⟨j, hj, rfl, rfl, hown, hB⟩ := hrel
  by_cases hlt : j < nt
  ·obtain ⟨x, hx⟩ : ∃ x, s.tiers[j]? = some x := ⟨_, List.getElem?_eq_getElem (by rw [HNT.out]; exact hlt)⟩
   obtain ⟨b, off, ha, hb, hcell⟩ := ((HI1.out.keep hB).ti) (by rw [HNT.out]; omega)
   have c0 : wr.cell? ⟨b, off + j * 4, none⟩ = some (.string x.name) := hcell j x hx 0 (.string x.name) rfl
   have c1 : wr.cell? ⟨b, off + j * 4 + 1, none⟩ = some (.int .i64 x.room) := hcell j x hx 1 (.int .i64 x.room) rfl
   have c2 : wr.cell? ⟨b, off + j * 4 + 2, none⟩ = some (.int .i64 x.cost) := hcell j x hx 2 (.int .i64 x.cost) rfl
   have c3 : wr.cell? ⟨b, off + j * 4 + 3, none⟩ = some (.bool x.away) := hcell j x hx 3 (.bool x.away) rfl
   clear hcell
   obtain ⟨g1, g2, g3⟩ := St.tier_good HR.out (List.mem_of_getElem? hx)
   have g0 := St.name40 g1
   have hk := HK1.out j hj
   have hnx := St.strs_succ (A := St.A0 s) (f := St.fT) hx
   rw [St.mk_fT] at hnx
   obtain ⟨W3, hW3, hX3, hz3, hB3⟩ := box wr #[.string x.name, .int .i64 x.room, .int .i64 x.cost, .bool x.away] 53
   have HW3 := Lib.hid hW3
   have HAW := Lib.hid (below_up hB hB3)
   have hs1 := hB.size
   have hs3 := hB3.size
   have hne : some wr.heap.size ≠ u3.ownBlock := fun e => by have := (hown.lt _ e.symm).2; omega
   have hown3 := own_keepS hown hB3.drew
   have HIA := Lib.hid (fun V => toldN_is x.room (by omega) V)
   have HIC := Lib.hid (fun V => toldN_is x.cost (by omega) V)
   have HWD := Lib.hid (fun V => eitherR_is x.away ⟨#[97, 119, 97, 121]⟩ ⟨#[104, 101, 114, 101]⟩ V)
   have HCE : Hid (∀ V, Below W3.heap.size W3 V → V.cell? ⟨wr.heap.size, 0, none⟩ = some (.string x.name) ∧ V.cell? ⟨wr.heap.size, 1, none⟩ = some (.int .i64 x.room) ∧ V.cell? ⟨wr.heap.size, 2, none⟩ = some (.int .i64 x.cost) ∧ V.cell? ⟨wr.heap.size, 3, none⟩ = some (.bool x.away)) := Lib.hid fun V hv =>
    have k := hX3.keep hv
    ⟨(k.cell 0).trans rfl, (k.cell 1).trans rfl, (k.cell 2).trans rfl, (k.cell 3).trans rfl⟩
   have HCG : Hid (∀ V V', Below W3.heap.size W3 V → V.grownBy V' u3.ownBlock → V'.cell? ⟨wr.heap.size, 0, none⟩ = some (.string x.name) ∧ V'.cell? ⟨wr.heap.size, 1, none⟩ = some (.int .i64 x.room) ∧ V'.cell? ⟨wr.heap.size, 2, none⟩ = some (.int .i64 x.cost) ∧ V'.cell? ⟨wr.heap.size, 3, none⟩ = some (.bool x.away)) := Lib.hid fun V V' hv hk =>
    have k := (hX3.keep hv).grown hk hne
    ⟨(k.cell 0).trans rfl, (k.cell 1).trans rfl, (k.cell 2).trans rfl, (k.cell 3).trans rfl⟩
   have n1 := St.num_size (n := x.room) (by omega)
   have n2 := St.num_size (n := x.cost) (by omega)
   have n3 := St.sw_size4 x.away
   have hj0 : (0 : Int) ≤ (j : Int) := by omega
   have hj1 : (j : Int) < (nt : Int) := by omega
   generalize (St.partL (St.A0 s) St.fT s.tiers j).length = n at *
   generalize (St.partL (St.A0 s) St.fT s.tiers j).map strV = XS at *
   generalize St.num x.room = NA at *
   generalize St.num x.cost = NB at *
   generalize St.sw x.away ⟨#[97, 119, 97, 121]⟩ ⟨#[104, 101, 114, 101]⟩ = NW at *
   generalize x.name = NM at *
   have HNX := Lib.hid hnx
   have a1 : ∀ W, (Op.stringOp .add ((⟨#[116, 105, 101, 114, 32]⟩ : ByteArray)) (NM)).run Tryd.prog W = .ok (.string (((⟨#[116, 105, 101, 114, 32]⟩ : ByteArray)) ++ (NM))) W := fun W => run_string_add_sum W _ _ (by simp only [ByteArray.size_append', ByteArray.size_mk']; simp; omega)
   have a2 : ∀ W, (Op.stringOp .add ((⟨#[116, 105, 101, 114, 32]⟩ : ByteArray) ++ NM) ((⟨#[32]⟩ : ByteArray))).run Tryd.prog W = .ok (.string (((⟨#[116, 105, 101, 114, 32]⟩ : ByteArray) ++ NM) ++ ((⟨#[32]⟩ : ByteArray)))) W := fun W => run_string_add_sum W _ _ (by simp only [ByteArray.size_append', ByteArray.size_mk']; simp; omega)
   have a3 : ∀ W, (Op.stringOp .add ((⟨#[116, 105, 101, 114, 32]⟩ : ByteArray) ++ NM ++ ⟨#[32]⟩) (NA)).run Tryd.prog W = .ok (.string (((⟨#[116, 105, 101, 114, 32]⟩ : ByteArray) ++ NM ++ ⟨#[32]⟩) ++ (NA))) W := fun W => run_string_add_sum W _ _ (by simp only [ByteArray.size_append', ByteArray.size_mk']; simp; omega)
   have a4 : ∀ W, (Op.stringOp .add ((⟨#[116, 105, 101, 114, 32]⟩ : ByteArray) ++ NM ++ ⟨#[32]⟩ ++ NA) ((⟨#[32]⟩ : ByteArray))).run Tryd.prog W = .ok (.string (((⟨#[116, 105, 101, 114, 32]⟩ : ByteArray) ++ NM ++ ⟨#[32]⟩ ++ NA) ++ ((⟨#[32]⟩ : ByteArray)))) W := fun W => run_string_add_sum W _ _ (by simp only [ByteArray.size_append', ByteArray.size_mk']; simp; omega)
   have a5 : ∀ W, (Op.stringOp .add ((⟨#[116, 105, 101, 114, 32]⟩ : ByteArray) ++ NM ++ ⟨#[32]⟩ ++ NA ++ ⟨#[32]⟩) (NB)).run Tryd.prog W = .ok (.string (((⟨#[116, 105, 101, 114, 32]⟩ : ByteArray) ++ NM ++ ⟨#[32]⟩ ++ NA ++ ⟨#[32]⟩) ++ (NB))) W := fun W => run_string_add_sum W _ _ (by simp only [ByteArray.size_append', ByteArray.size_mk']; simp; omega)
   have a6 : ∀ W, (Op.stringOp .add ((⟨#[116, 105, 101, 114, 32]⟩ : ByteArray) ++ NM ++ ⟨#[32]⟩ ++ NA ++ ⟨#[32]⟩ ++ NB) ((⟨#[32]⟩ : ByteArray))).run Tryd.prog W = .ok (.string (((⟨#[116, 105, 101, 114, 32]⟩ : ByteArray) ++ NM ++ ⟨#[32]⟩ ++ NA ++ ⟨#[32]⟩ ++ NB) ++ ((⟨#[32]⟩ : ByteArray)))) W := fun W => run_string_add_sum W _ _ (by simp only [ByteArray.size_append', ByteArray.size_mk']; simp; omega)
   have a7 : ∀ W, (Op.stringOp .add ((⟨#[116, 105, 101, 114, 32]⟩ : ByteArray) ++ NM ++ ⟨#[32]⟩ ++ NA ++ ⟨#[32]⟩ ++ NB ++ ⟨#[32]⟩) (NW)).run Tryd.prog W = .ok (.string (((⟨#[116, 105, 101, 114, 32]⟩ : ByteArray) ++ NM ++ ⟨#[32]⟩ ++ NA ++ ⟨#[32]⟩ ++ NB ++ ⟨#[32]⟩) ++ (NW))) W := fun W => run_string_add_sum W _ _ (by simp only [ByteArray.size_append', ByteArray.size_mk']; simp; omega)
   clear hx hB hX3 hz3 hB3 hW3 hnx hown g1
   have hv : Below W3.heap.size W3 W3.drew := (Below.refl _ _).drew
   obtain ⟨e0, e1, e2, e3⟩ := HCE.out _ (Below.refl _ _)
   obtain ⟨d0, d1, d2, d3⟩ := HCE.out _ hv
   rw [ha]
   go_upto_region 5 with fail
   rw [HW3.out]
   clear c0 c1 c2 c3
   go_region_held3 (fun w' => w'.cell? ⟨wr.heap.size, 0, none⟩ = some (.string NM) ∧ w'.cell? ⟨wr.heap.size, 1, none⟩ = some (.int .i64 x.room) ∧ w'.cell? ⟨wr.heap.size, 2, none⟩ = some (.int .i64 x.cost) ∧ w'.cell? ⟨wr.heap.size, 3, none⟩ = some (.bool x.away))
    (first | (with_reducible exact ⟨d0, d1, d2, d3⟩) | go_keep)
    (first
     | (go_at_call 47; (with_reducible refine (HIA.out _).mono ?_); rintro e wq ⟨rfl, hq⟩; have hv := below_up hv hq; obtain ⟨d0, d1, d2, d3⟩ := HCE.out _ hv; have hownr := own_keepS hown3 hq)
     | (go_at_call 47; (with_reducible refine (HIC.out _).mono ?_); rintro e wq ⟨rfl, hq⟩; have hv := below_up hv hq; obtain ⟨d0, d1, d2, d3⟩ := HCE.out _ hv; have hownt := own_keepS hownr hq; have hsq := hv.size)
     | (go_at_call 48; (with_reducible refine (HWD.out _).mono ?_); rintro e wo ⟨rfl, rfl⟩; have hownq := hownt)
     | (refine step_append_str rfl _ _ rfl _ _ n XS (by rfl) (by rfl) hownq (by omega) (by omega) ?_; intro g8 cap8 w8 hown8 hgrow8; obtain ⟨d0, d1, d2, d3⟩ := HCG.out _ _ (below_allocs hv _) hgrow8; have hB8 := below_grownS (below_allocs (below_up HAW.out hv) _) (hownq.alloc _) hgrow8 (by simp; omega))
     | fail)
   go_wp2_with fail
   rw [← ha]
   go_roundg (nt - (j + 1))
   case rel => exact ⟨j + 1, by omega, rfl, by go_num, by rw [HNX.out.1, HNX.out.2]; exact hown8, hB8⟩
   case measure => omega
  ·obtain rfl : nt = j := by omega
   rw [← HS1.out, HA1.out] at hown
   have HOZ := Lib.hid hown
   have HBZ := Lib.hid hB
   obtain ⟨m0, m1, m2, m3, m4, m5, m6⟩ := HCL.out _ hB
   clear m0 m1 m2 m4 m5 m6 hown hB
   go_wp2_with fail
   clear m3
   go_loopg [3, 57] nf (fun gk v i wr => ∃ j : Nat, j ≤ nf ∧ gk = nf - j ∧ i = .int .i64 j ∧ wr.ownsRow W1.heap.size 9 1 v (St.partL (St.A1 s) St.fF s.files j).length ((St.partL (St.A1 s) St.fF s.files j).map strV) ∧ Below W1.heap.size W1 wr)
   case atStart => exact ⟨0, by omega, rfl, rfl, HOZ.out, HBZ.out⟩
   case round =>
    obtain ⟨j, hj, rfl, rfl, hown, hB⟩ := hrel
    by_cases hlt : j < nf
    ·obtain ⟨x, hx⟩ : ∃ x, s.files[j]? = some x := ⟨_, List.getElem?_eq_getElem (by rw [HNF.out]; exact hlt)⟩
     obtain ⟨b, off, ha, hb, hcell⟩ := ((HI1.out.keep hB).fi) (by rw [HNF.out]; omega)
     have c0 : wr.cell? ⟨b, off + j * 4, none⟩ = some (.string x.dig) := hcell j x hx 0 (.string x.dig) rfl
     have c1 : wr.cell? ⟨b, off + j * 4 + 1, none⟩ = some (.int .i64 x.size) := hcell j x hx 1 (.int .i64 x.size) rfl
     have c2 : wr.cell? ⟨b, off + j * 4 + 2, none⟩ = some (.int .i64 x.kind) := hcell j x hx 2 (.int .i64 x.kind) rfl
     have c3 : wr.cell? ⟨b, off + j * 4 + 3, none⟩ = some (.string x.frm) := hcell j x hx 3 (.string x.frm) rfl
     clear hcell
     obtain ⟨g1, g2, g3, g4⟩ := St.file_good HR.out (List.mem_of_getElem? hx)
     have hk := HK2.out j hj
     have hnx := St.strs_succ (A := St.A1 s) (f := St.fF) hx
     have hm1 := St.mk_fF1 x
     have hm2 := St.mk_fF2 x
     obtain ⟨W3, hW3, hX3, hz3, hB3⟩ := box wr #[.string x.dig, .int .i64 x.size, .int .i64 x.kind, .string x.frm] 47
     have HW3 := Lib.hid hW3
     have HAW := Lib.hid (below_up hB hB3)
     have hs1 := hB.size
     have hs3 := hB3.size
     have hown3 := own_keepS hown hB3.drew
     have HIA := Lib.hid (fun V => toldN_is x.size (by omega) V)
     have HKW := Lib.hid (fun V => kindWordR_is x.kind g3 V)
     have HCE : Hid (∀ V, Below W3.heap.size W3 V → V.cell? ⟨wr.heap.size, 0, none⟩ = some (.string x.dig) ∧ V.cell? ⟨wr.heap.size, 1, none⟩ = some (.int .i64 x.size) ∧ V.cell? ⟨wr.heap.size, 2, none⟩ = some (.int .i64 x.kind) ∧ V.cell? ⟨wr.heap.size, 3, none⟩ = some (.string x.frm)) := Lib.hid fun V hv =>
      have k := hX3.keep hv
      ⟨(k.cell 0).trans rfl, (k.cell 1).trans rfl, (k.cell 2).trans rfl, (k.cell 3).trans rfl⟩
     have n1 := St.num_size (n := x.size) (by omega)
     have n3 := St.kindB_size x.kind
     have hj0 : (0 : Int) ≤ (j : Int) := by omega
     have hj1 : (j : Int) < (nf : Int) := by omega
     generalize (St.partL (St.A1 s) St.fF s.files j).length = n at *
     generalize (St.partL (St.A1 s) St.fF s.files j).map strV = XS at *
     generalize St.num x.size = NA at *
     generalize St.kindB x.kind = NK at *
     generalize x.dig = DG at *
     generalize x.frm = FR at *
     have HNX := Lib.hid hnx; have HM1 := Lib.hid hm1; have HM2 := Lib.hid hm2
     have a1 : ∀ W, (Op.stringOp .add ((⟨#[102, 105, 108, 101, 32]⟩ : ByteArray)) (DG)).run Tryd.prog W = .ok (.string (((⟨#[102, 105, 108, 101, 32]⟩ : ByteArray)) ++ (DG))) W := fun W => run_string_add_sum W _ _ (by simp only [ByteArray.size_append', ByteArray.size_mk']; simp; omega)
     have a2 : ∀ W, (Op.stringOp .add ((⟨#[102, 105, 108, 101, 32]⟩ : ByteArray) ++ DG) ((⟨#[32]⟩ : ByteArray))).run Tryd.prog W = .ok (.string (((⟨#[102, 105, 108, 101, 32]⟩ : ByteArray) ++ DG) ++ ((⟨#[32]⟩ : ByteArray)))) W := fun W => run_string_add_sum W _ _ (by simp only [ByteArray.size_append', ByteArray.size_mk']; simp; omega)
     have a3 : ∀ W, (Op.stringOp .add ((⟨#[102, 105, 108, 101, 32]⟩ : ByteArray) ++ DG ++ ⟨#[32]⟩) (NA)).run Tryd.prog W = .ok (.string (((⟨#[102, 105, 108, 101, 32]⟩ : ByteArray) ++ DG ++ ⟨#[32]⟩) ++ (NA))) W := fun W => run_string_add_sum W _ _ (by simp only [ByteArray.size_append', ByteArray.size_mk']; simp; omega)
     have a4 : ∀ W, (Op.stringOp .add ((⟨#[102, 105, 108, 101, 32]⟩ : ByteArray) ++ DG ++ ⟨#[32]⟩ ++ NA) ((⟨#[32]⟩ : ByteArray))).run Tryd.prog W = .ok (.string (((⟨#[102, 105, 108, 101, 32]⟩ : ByteArray) ++ DG ++ ⟨#[32]⟩ ++ NA) ++ ((⟨#[32]⟩ : ByteArray)))) W := fun W => run_string_add_sum W _ _ (by simp only [ByteArray.size_append', ByteArray.size_mk']; simp; omega)
     have a5 : ∀ W, (Op.stringOp .add ((⟨#[102, 105, 108, 101, 32]⟩ : ByteArray) ++ DG ++ ⟨#[32]⟩ ++ NA ++ ⟨#[32]⟩) (NK)).run Tryd.prog W = .ok (.string (((⟨#[102, 105, 108, 101, 32]⟩ : ByteArray) ++ DG ++ ⟨#[32]⟩ ++ NA ++ ⟨#[32]⟩) ++ (NK))) W := fun W => run_string_add_sum W _ _ (by simp only [ByteArray.size_append', ByteArray.size_mk']; simp; omega)
     clear hx hB hX3 hz3 hB3 hW3 hnx hown hm1 hm2
     have hv : Below W3.heap.size W3 W3.drew := (Below.refl _ _).drew
     obtain ⟨e0, e1, e2, e3⟩ := HCE.out _ (Below.refl _ _)
     obtain ⟨d0, d1, d2, d3⟩ := HCE.out _ hv
     rw [ha]
     go_upto_region 10 with fail
     rw [HW3.out]
     clear c0 c1 c2 c3
     go_region_held3 (fun w' => w'.cell? ⟨wr.heap.size, 0, none⟩ = some (.string DG) ∧ w'.cell? ⟨wr.heap.size, 1, none⟩ = some (.int .i64 x.size) ∧ w'.cell? ⟨wr.heap.size, 2, none⟩ = some (.int .i64 x.kind))
      (first | (with_reducible exact ⟨d0, d1, d2⟩) | go_keep)
      (first
       | (go_at_call 47; (with_reducible refine (HIA.out _).mono ?_); rintro e wq ⟨rfl, hq⟩; have hv := below_up hv hq; obtain ⟨d0, d1, d2, d3⟩ := HCE.out _ hv; have hownq := own_keepS hown3 hq)
       | (go_at_call 49; (with_reducible refine (HKW.out _).mono ?_); rintro e wo ⟨rfl, rfl⟩))
     have hsq := hv.size
     clear a1 a2 a3 a4 a5
     by_cases hk1 : x.kind = 1
     ·have hkb : (x.kind != 1) = false := by simpa using hk1
      have hM := HM1.out hk1
      have HNY := HNX
      rw [hM] at HNY
      clear hM d0 d1 d3 e0 e1 e2 e3 g4
      generalize x.kind = kd at *
      subst hk1
      go_wp2_with (at_builtin; refine list_append_str rfl _ _ rfl _ _ n XS (by rfl) (by rfl) hownq (by omega) (by omega) ?_; intro g8 cap8 w8 hown8 hgrow8; have hB8 := below_grownS (below_allocs (below_up HAW.out hv) _) (hownq.alloc _) hgrow8 (by simp; omega))
      rw [← ha]
      go_roundg (nf - (j + 1))
      case rel => exact ⟨j + 1, by omega, rfl, by go_num, by rw [HNY.out.1, HNY.out.2]; exact hown8, hB8⟩
      case measure => omega
     ·have hkb : (x.kind != 1) = true := by simpa using hk1
      have hM := HM2.out hk1
      have HNY := HNX
      rw [hM] at HNY
      have hg4 := g4 hk1
      clear hM d0 d1 e0 e1 e2 e3 g4
      go_wp2_with (at_builtin; refine list_append_str rfl _ _ rfl _ _ n XS (by rfl) (by rfl) hownq (by omega) (by omega) ?_; intro g8 cap8 w8 hown8 hgrow8; have hB8 := below_grownS (below_allocs (below_up HAW.out hv) _) (hownq.alloc _) hgrow8 (by simp; omega))
      rw [← ha]
      go_roundg (nf - (j + 1))
      case rel => exact ⟨j + 1, by omega, rfl, by go_num, by rw [HNY.out.1, HNY.out.2]; exact hown8, hB8⟩
      case measure => omega
    ·obtain rfl : nf = j := by omega
     rw [← HS2.out, HA2.out] at hown
     have HOZ := Lib.hid hown
     have HBZ := Lib.hid hB
     obtain ⟨m0, m1, m2, m3, m4, m5, m6⟩ := HCL.out _ hB
     clear m0 m1 m2 m3 m5 m6 hown hB
     go_wp2_with fail
     clear m4
     go_loopg [3, 90] nc (fun gk v i wr => ∃ j : Nat, j ≤ nc ∧ gk = nc - j ∧ i = .int .i64 j ∧ wr.ownsRow W1.heap.size 9 1 v (St.partL (St.A2 s) St.fC s.copies j).length ((St.partL (St.A2 s) St.fC s.copies j).map strV) ∧ Below W1.heap.size W1 wr)
     case atStart => exact ⟨0, by omega, rfl, rfl, HOZ.out, HBZ.out⟩
     case round =>
      obtain ⟨j, hj, rfl, rfl, hown, hB⟩ := hrel
      by_cases hlt : j < nc
      ·obtain ⟨x, hx⟩ : ∃ x, s.copies[j]? = some x := ⟨_, List.getElem?_eq_getElem (by rw [HNC.out]; exact hlt)⟩
       obtain ⟨b, off, ha, hb, hcell⟩ := ((HI1.out.keep hB).co) (by rw [HNC.out]; omega)
       have c0 : wr.cell? ⟨b, off + j * 4, none⟩ = some (.string x.dig) := hcell j x hx 0 (.string x.dig) rfl
       have c1 : wr.cell? ⟨b, off + j * 4 + 1, none⟩ = some (.string x.tier) := hcell j x hx 1 (.string x.tier) rfl
       have c2 : wr.cell? ⟨b, off + j * 4 + 2, none⟩ = some (.bool x.good) := hcell j x hx 2 (.bool x.good) rfl
       have c3 : wr.cell? ⟨b, off + j * 4 + 3, none⟩ = some (.int .i64 x.asked) := hcell j x hx 3 (.int .i64 x.asked) rfl
       clear hcell
       obtain ⟨g1, g2, g3⟩ := St.cop_good HR.out (List.mem_of_getElem? hx)
       have hk := HK3.out j hj
       have hnx := St.strs_succ (A := St.A2 s) (f := St.fC) hx
       rw [St.mk_fC] at hnx
       obtain ⟨W3, hW3, hX3, hz3, hB3⟩ := box wr #[.string x.dig, .string x.tier, .bool x.good, .int .i64 x.asked] 62
       have HW3 := Lib.hid hW3
       have HAW := Lib.hid (below_up hB hB3)
       have hs1 := hB.size
       have hs3 := hB3.size
       have hne : some wr.heap.size ≠ u3.ownBlock := fun e => by have := (hown.lt _ e.symm).2; omega
       have hown3 := own_keepS hown hB3.drew
       have HIA := Lib.hid (fun V => toldN_is x.asked (by omega) V)
       have HWD := Lib.hid (fun V => eitherR_is x.good ⟨#[103, 111, 111, 100]⟩ ⟨#[98, 97, 100]⟩ V)
       have HCE : Hid (∀ V, Below W3.heap.size W3 V → V.cell? ⟨wr.heap.size, 0, none⟩ = some (.string x.dig) ∧ V.cell? ⟨wr.heap.size, 1, none⟩ = some (.string x.tier) ∧ V.cell? ⟨wr.heap.size, 2, none⟩ = some (.bool x.good) ∧ V.cell? ⟨wr.heap.size, 3, none⟩ = some (.int .i64 x.asked)) := Lib.hid fun V hv =>
        have k := hX3.keep hv
        ⟨(k.cell 0).trans rfl, (k.cell 1).trans rfl, (k.cell 2).trans rfl, (k.cell 3).trans rfl⟩
       have HCG : Hid (∀ V V', Below W3.heap.size W3 V → V.grownBy V' u3.ownBlock → V'.cell? ⟨wr.heap.size, 0, none⟩ = some (.string x.dig) ∧ V'.cell? ⟨wr.heap.size, 1, none⟩ = some (.string x.tier) ∧ V'.cell? ⟨wr.heap.size, 2, none⟩ = some (.bool x.good) ∧ V'.cell? ⟨wr.heap.size, 3, none⟩ = some (.int .i64 x.asked)) := Lib.hid fun V V' hv hk =>
        have k := (hX3.keep hv).grown hk hne
        ⟨(k.cell 0).trans rfl, (k.cell 1).trans rfl, (k.cell 2).trans rfl, (k.cell 3).trans rfl⟩
       have n1 := St.num_size (n := x.asked) (by omega)
       have n3 := St.sw_size4' x.good
       have hj0 : (0 : Int) ≤ (j : Int) := by omega
       have hj1 : (j : Int) < (nc : Int) := by omega
       generalize (St.partL (St.A2 s) St.fC s.copies j).length = n at *
       generalize (St.partL (St.A2 s) St.fC s.copies j).map strV = XS at *
       generalize St.num x.asked = NA at *
       generalize St.sw x.good ⟨#[103, 111, 111, 100]⟩ ⟨#[98, 97, 100]⟩ = NW at *
       generalize x.dig = DG at *
       generalize x.tier = TR at *
       have HNX := Lib.hid hnx
       have a1 : ∀ W, (Op.stringOp .add ((⟨#[99, 111, 112, 121, 32]⟩ : ByteArray)) (DG)).run Tryd.prog W = .ok (.string (((⟨#[99, 111, 112, 121, 32]⟩ : ByteArray)) ++ (DG))) W := fun W => run_string_add_sum W _ _ (by simp only [ByteArray.size_append', ByteArray.size_mk']; simp; omega)
       have a2 : ∀ W, (Op.stringOp .add ((⟨#[99, 111, 112, 121, 32]⟩ : ByteArray) ++ DG) ((⟨#[32]⟩ : ByteArray))).run Tryd.prog W = .ok (.string (((⟨#[99, 111, 112, 121, 32]⟩ : ByteArray) ++ DG) ++ ((⟨#[32]⟩ : ByteArray)))) W := fun W => run_string_add_sum W _ _ (by simp only [ByteArray.size_append', ByteArray.size_mk']; simp; omega)
       have a3 : ∀ W, (Op.stringOp .add ((⟨#[99, 111, 112, 121, 32]⟩ : ByteArray) ++ DG ++ ⟨#[32]⟩) (TR)).run Tryd.prog W = .ok (.string (((⟨#[99, 111, 112, 121, 32]⟩ : ByteArray) ++ DG ++ ⟨#[32]⟩) ++ (TR))) W := fun W => run_string_add_sum W _ _ (by simp only [ByteArray.size_append', ByteArray.size_mk']; simp; omega)
       have a4 : ∀ W, (Op.stringOp .add ((⟨#[99, 111, 112, 121, 32]⟩ : ByteArray) ++ DG ++ ⟨#[32]⟩ ++ TR) ((⟨#[32]⟩ : ByteArray))).run Tryd.prog W = .ok (.string (((⟨#[99, 111, 112, 121, 32]⟩ : ByteArray) ++ DG ++ ⟨#[32]⟩ ++ TR) ++ ((⟨#[32]⟩ : ByteArray)))) W := fun W => run_string_add_sum W _ _ (by simp only [ByteArray.size_append', ByteArray.size_mk']; simp; omega)
       have a5 : ∀ W, (Op.stringOp .add ((⟨#[99, 111, 112, 121, 32]⟩ : ByteArray) ++ DG ++ ⟨#[32]⟩ ++ TR ++ ⟨#[32]⟩) (NW)).run Tryd.prog W = .ok (.string (((⟨#[99, 111, 112, 121, 32]⟩ : ByteArray) ++ DG ++ ⟨#[32]⟩ ++ TR ++ ⟨#[32]⟩) ++ (NW))) W := fun W => run_string_add_sum W _ _ (by simp only [ByteArray.size_append', ByteArray.size_mk']; simp; omega)
       have a6 : ∀ W, (Op.stringOp .add ((⟨#[99, 111, 112, 121, 32]⟩ : ByteArray) ++ DG ++ ⟨#[32]⟩ ++ TR ++ ⟨#[32]⟩ ++ NW) ((⟨#[32]⟩ : ByteArray))).run Tryd.prog W = .ok (.string (((⟨#[99, 111, 112, 121, 32]⟩ : ByteArray) ++ DG ++ ⟨#[32]⟩ ++ TR ++ ⟨#[32]⟩ ++ NW) ++ ((⟨#[32]⟩ : ByteArray)))) W := fun W => run_string_add_sum W _ _ (by simp only [ByteArray.size_append', ByteArray.size_mk']; simp; omega)
       have a7 : ∀ W, (Op.stringOp .add ((⟨#[99, 111, 112, 121, 32]⟩ : ByteArray) ++ DG ++ ⟨#[32]⟩ ++ TR ++ ⟨#[32]⟩ ++ NW ++ ⟨#[32]⟩) (NA)).run Tryd.prog W = .ok (.string (((⟨#[99, 111, 112, 121, 32]⟩ : ByteArray) ++ DG ++ ⟨#[32]⟩ ++ TR ++ ⟨#[32]⟩ ++ NW ++ ⟨#[32]⟩) ++ (NA))) W := fun W => run_string_add_sum W _ _ (by simp only [ByteArray.size_append', ByteArray.size_mk']; simp; omega)
       clear hx hB hX3 hz3 hB3 hW3 hnx hown
       have hv : Below W3.heap.size W3 W3.drew := (Below.refl _ _).drew
       obtain ⟨e0, e1, e2, e3⟩ := HCE.out _ (Below.refl _ _)
       obtain ⟨d0, d1, d2, d3⟩ := HCE.out _ hv
       rw [ha]
       go_upto_region 18 with fail
       rw [HW3.out]
       clear c0 c1 c2 c3
       go_region_held3 (fun w' => w'.cell? ⟨wr.heap.size, 0, none⟩ = some (.string DG) ∧ w'.cell? ⟨wr.heap.size, 1, none⟩ = some (.string TR) ∧ w'.cell? ⟨wr.heap.size, 2, none⟩ = some (.bool x.good) ∧ w'.cell? ⟨wr.heap.size, 3, none⟩ = some (.int .i64 x.asked))
        (first | (with_reducible exact ⟨d0, d1, d2, d3⟩) | go_keep)
        (first
         | (go_at_call 47; (with_reducible refine (HIA.out _).mono ?_); rintro e wq ⟨rfl, hq⟩; have hv := below_up hv hq; obtain ⟨d0, d1, d2, d3⟩ := HCE.out _ hv; have hownq := own_keepS hown3 hq; have hsq := hv.size)
         | (go_at_call 48; (with_reducible refine (HWD.out _).mono ?_); rintro e wo ⟨rfl, rfl⟩)
         | (refine step_append_str rfl _ _ rfl _ _ n XS (by rfl) (by rfl) hownq (by omega) (by omega) ?_; intro g8 cap8 w8 hown8 hgrow8; obtain ⟨d0, d1, d2, d3⟩ := HCG.out _ _ (below_allocs hv _) hgrow8; have hB8 := below_grownS (below_allocs (below_up HAW.out hv) _) (hownq.alloc _) hgrow8 (by simp; omega))
         | fail)
       go_wp2_with fail
       rw [← ha]
       go_roundg (nc - (j + 1))
       case rel => exact ⟨j + 1, by omega, rfl, by go_num, by rw [HNX.out.1, HNX.out.2]; exact hown8, hB8⟩
       case measure => omega
      ·obtain rfl : nc = j := by omega
       rw [← HS3.out, HA3.out] at hown
       have HOZ := Lib.hid hown
       have HBZ := Lib.hid hB
       obtain ⟨m0, m1, m2, m3, m4, m5, m6⟩ := HCL.out _ hB
       clear m0 m1 m2 m3 m4 m6 hown hB
       go_wp2_with fail
       clear m5
       go_loopg [3, 118] nh (fun gk v i wr => ∃ j : Nat, j ≤ nh ∧ gk = nh - j ∧ i = .int .i64 j ∧ wr.ownsRow W1.heap.size 9 1 v (St.partL (St.A3 s) St.fH s.held j).length ((St.partL (St.A3 s) St.fH s.held j).map strV) ∧ Below W1.heap.size W1 wr)
       case atStart => exact ⟨0, by omega, rfl, rfl, HOZ.out, HBZ.out⟩
       case round =>
        obtain ⟨j, hj, rfl, rfl, hown, hB⟩ := hrel
        by_cases hlt : j < nh
        ·obtain ⟨x, hx⟩ : ∃ x, s.held[j]? = some x := ⟨_, List.getElem?_eq_getElem (by rw [HNH.out]; exact hlt)⟩
         obtain ⟨b, off, ha, hb, hcell⟩ := ((HI1.out.keep hB).he) (by rw [HNH.out]; omega)
         have c0 : wr.cell? ⟨b, off + j, none⟩ = some (.string x) := by have := hcell _ x hx 0 (.string x) rfl; rw [show off + j * St.eS.k + 0 = off + j by simp [St.eS]] at this; exact this
         have g1 := St.kind16 HR.out (HR.out.held x (List.mem_of_getElem? hx))
         have hk := HK4.out j hj
         have hnx := St.strs_succ (A := St.A3 s) (f := St.fH) hx
         rw [St.mk_fH] at hnx
         have hs1 := hB.size
         have HAW := Lib.hid hB
         have hv : Below wr.heap.size wr wr := Below.refl _ _
         have hj0 : (0 : Int) ≤ (j : Int) := by omega
         have hj1 : (j : Int) < (nh : Int) := by omega
         generalize (St.partL (St.A3 s) St.fH s.held j).length = n at *
         generalize (St.partL (St.A3 s) St.fH s.held j).map strV = XS at *
         have HNX := Lib.hid hnx
         clear hx hcell hB hnx
         rw [ha]
         go_wp2_with (at_builtin; refine list_append_str rfl _ _ rfl _ _ n XS (by rfl) (by rfl) hown (by omega) (by omega) ?_; intro g8 cap8 w8 hown8 hgrow8; have hB8 := below_grownS (below_allocs (below_up HAW.out hv) _) (hown.alloc _) hgrow8 (by simp; omega))
         rw [← ha]
         go_roundg (nh - (j + 1))
         case rel => exact ⟨j + 1, by omega, rfl, by go_num, by rw [HNX.out.1, HNX.out.2]; exact hown8, hB8⟩
         case measure => omega
        ·obtain rfl : nh = j := by omega
         rw [← HS4.out, HA4.out] at hown
         have HOZ := Lib.hid hown
         have HBZ := Lib.hid hB
         obtain ⟨m0, m1, m2, m3, m4, m5, m6⟩ := HCL.out _ hB
         clear m0 m1 m2 m3 m4 m5 hown hB
         go_wp2_with fail
         clear m6
         go_loopg [3, 131] nb (fun gk v i wr => ∃ j : Nat, j ≤ nb ∧ gk = nb - j ∧ i = .int .i64 j ∧ wr.ownsRow W1.heap.size 9 1 v (St.partL (St.A4 s) St.fB s.bin j).length ((St.partL (St.A4 s) St.fB s.bin j).map strV) ∧ Below W1.heap.size W1 wr)
         case atStart => exact ⟨0, by omega, rfl, rfl, HOZ.out, HBZ.out⟩
         case round =>
          obtain ⟨j, hj, rfl, rfl, hown, hB⟩ := hrel
          by_cases hlt : j < nb
          ·obtain ⟨x, hx⟩ : ∃ x, s.bin[j]? = some x := ⟨_, List.getElem?_eq_getElem (by rw [HNB.out]; exact hlt)⟩
           obtain ⟨b, off, ha, hb, hcell⟩ := ((HI1.out.keep hB).bi) (by rw [HNB.out]; omega)
           have c0 : wr.cell? ⟨b, off + j * 2, none⟩ = some (.string x.dig) := hcell j x hx 0 (.string x.dig) rfl
           have c1 : wr.cell? ⟨b, off + j * 2 + 1, none⟩ = some (.int .i64 x.day) := hcell j x hx 1 (.int .i64 x.day) rfl
           obtain ⟨_, g1, g2⟩ := St.fB_len HR.out (List.mem_of_getElem? hx)
           have g3 := St.kind16 HR.out (HR.out.bin x (List.mem_of_getElem? hx)).1
           have hk := HK5.out j hj
           have hnx := St.strs_succ (A := St.A4 s) (f := St.fB) hx
           rw [St.mk_fB] at hnx
           obtain ⟨W3, hW3, hX3, hz3, hB3⟩ := box wr #[.string x.dig, .int .i64 x.day] 88
           have HW3 := Lib.hid hW3
           have HAW := Lib.hid (below_up hB hB3)
           have hs1 := hB.size
           have hs3 := hB3.size
           have hne : some wr.heap.size ≠ u3.ownBlock := fun e => by have := (hown.lt _ e.symm).2; omega
           have hown3 := own_keepS hown hB3.drew
           have HIA := Lib.hid (fun V => toldN_is x.day (by omega) V)
           have HCE : Hid (∀ V, Below W3.heap.size W3 V → V.cell? ⟨wr.heap.size, 0, none⟩ = some (.string x.dig) ∧ V.cell? ⟨wr.heap.size, 1, none⟩ = some (.int .i64 x.day)) := Lib.hid fun V hv =>
            have k := hX3.keep hv
            ⟨(k.cell 0).trans rfl, (k.cell 1).trans rfl⟩
           have HCG : Hid (∀ V V', Below W3.heap.size W3 V → V.grownBy V' u3.ownBlock → V'.cell? ⟨wr.heap.size, 0, none⟩ = some (.string x.dig) ∧ V'.cell? ⟨wr.heap.size, 1, none⟩ = some (.int .i64 x.day)) := Lib.hid fun V V' hv hk =>
            have k := (hX3.keep hv).grown hk hne
            ⟨(k.cell 0).trans rfl, (k.cell 1).trans rfl⟩
           have n1 := St.num_size (n := x.day) (by omega)
           have hj0 : (0 : Int) ≤ (j : Int) := by omega
           have hj1 : (j : Int) < (nb : Int) := by omega
           generalize (St.partL (St.A4 s) St.fB s.bin j).length = n at *
           generalize (St.partL (St.A4 s) St.fB s.bin j).map strV = XS at *
           generalize St.num x.day = NA at *
           generalize x.dig = DG at *
           have HNX := Lib.hid hnx
           have a1 : ∀ W, (Op.stringOp .add ((⟨#[98, 105, 110, 32]⟩ : ByteArray)) (DG)).run Tryd.prog W = .ok (.string (((⟨#[98, 105, 110, 32]⟩ : ByteArray)) ++ (DG))) W := fun W => run_string_add_sum W _ _ (by simp only [ByteArray.size_append', ByteArray.size_mk']; simp; omega)
           have a2 : ∀ W, (Op.stringOp .add ((⟨#[98, 105, 110, 32]⟩ : ByteArray) ++ DG) ((⟨#[32]⟩ : ByteArray))).run Tryd.prog W = .ok (.string (((⟨#[98, 105, 110, 32]⟩ : ByteArray) ++ DG) ++ ((⟨#[32]⟩ : ByteArray)))) W := fun W => run_string_add_sum W _ _ (by simp only [ByteArray.size_append', ByteArray.size_mk']; simp; omega)
           have a3 : ∀ W, (Op.stringOp .add ((⟨#[98, 105, 110, 32]⟩ : ByteArray) ++ DG ++ ⟨#[32]⟩) (NA)).run Tryd.prog W = .ok (.string (((⟨#[98, 105, 110, 32]⟩ : ByteArray) ++ DG ++ ⟨#[32]⟩) ++ (NA))) W := fun W => run_string_add_sum W _ _ (by simp only [ByteArray.size_append', ByteArray.size_mk']; simp; omega)
           clear hx hcell hB hX3 hz3 hB3 hW3 hnx hown
           have hv : Below W3.heap.size W3 W3.drew := (Below.refl _ _).drew
           obtain ⟨e0, e1⟩ := HCE.out _ (Below.refl _ _)
           obtain ⟨d0, d1⟩ := HCE.out _ hv
           rw [ha]
           go_upto_region 28 with fail
           rw [HW3.out]
           clear c0 c1
           go_region_held3 (fun w' => w'.cell? ⟨wr.heap.size, 0, none⟩ = some (.string DG) ∧ w'.cell? ⟨wr.heap.size, 1, none⟩ = some (.int .i64 x.day))
            (first | (with_reducible exact ⟨d0, d1⟩) | go_keep)
            (first
             | (go_at_call 47; (with_reducible refine (HIA.out _).mono ?_); rintro e wq ⟨rfl, hq⟩; have hv := below_up hv hq; obtain ⟨d0, d1⟩ := HCE.out _ hv; have hownq := own_keepS hown3 hq; have hsq := hv.size)
             | (refine step_append_str rfl _ _ rfl _ _ n XS (by rfl) (by rfl) hownq (by omega) (by omega) ?_; intro g8 cap8 w8 hown8 hgrow8; obtain ⟨d0, d1⟩ := HCG.out _ _ (below_allocs hv _) hgrow8; have hB8 := below_grownS (below_allocs (below_up HAW.out hv) _) (hownq.alloc _) hgrow8 (by simp; omega))
             | fail)
           go_wp2_with fail
           rw [← ha]
           go_roundg (nb - (j + 1))
           case rel => exact ⟨j + 1, by omega, rfl, by go_num, by rw [HNX.out.1, HNX.out.2]; exact hown8, hB8⟩
           case measure => omega
          ·obtain rfl : nb = j := by omega
           rw [← HS5.out] at hown
           have hkz := HKZ.out
           have hln := HL0.out
           have HJN : Hid (∀ g cap W, W.ownsRow W1.heap.size 9 1 (.slice (some ⟨g, 0, none⟩) ((St.A5 s).length + 1) cap) ((St.A5 s).length + 1) ((St.A5 s).map strV ++ [.string ⟨#[]⟩]) → Calls Tryd.prog 50 #[.slice (some ⟨g, 0, none⟩) ((St.A5 s).length + 1) cap, .string ⟨#[10]⟩] W fun e w' => e = .returned (.string (Tx.mk (St.text s))) ∧ Below W.heap.size W w') := Lib.hid fun g cap W ho => by
            have e1 : (St.A5 s).map strV ++ [.string ⟨#[]⟩] = (St.A5 s ++ [[]]).map strV := by rw [List.map_append]; rfl
            have e2 : Lib.join (St.A5 s ++ [[]]) [10] = St.text s := St.join_lines _
            rw [e1] at ho
            have h := join_is (St.A5 s ++ [[]]) [10] W1.heap.size _ ((St.A5 s).length + 1) W ho (by omega) (by rw [e2, HTXT.out]; omega)
            rw [e2] at h
            exact h
           have hs1 := hB.size
           have HBZ := Lib.hid hB
           obtain ⟨TX, hTX⟩ : ∃ TX, Tx.mk (St.text s) = TX := ⟨_, rfl⟩
           rw [hTX] at HJN
           have HTX := Lib.hid hTX
           clear hTX hB
           generalize (St.A5 s).length = n at *
           generalize (St.A5 s).map strV = XS at *
           go_wp2_with (first
            | (at_builtin; refine list_append_str rfl _ _ rfl _ _ n XS (by rfl) (by rfl) hown (by omega) (by omega) ?_; intro g8 cap8 w8 hown8 hgrow8; have hB8 := below_grownS (below_allocs HBZ.out _) (hown.alloc _) hgrow8 (by simp; omega))
            | (go_at_call 50; (refine (HJN.out g8 cap8 w8 hown8).mono ?_); rintro e w9 ⟨rfl, hB9⟩))
           go_ret
           exact ⟨by rw [HTX.out]; rfl, below_up HB1.out (below_up hB8 hB9)⟩
end Go.Proofs.YthdiccdnggloiaaDoor

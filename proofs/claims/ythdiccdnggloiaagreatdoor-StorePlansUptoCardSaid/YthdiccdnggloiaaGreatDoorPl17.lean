/- Parts of the proof, no condition: StEv2. -/
import Derived.Test.YthdiccdnggloiaaGreatDoorPl16
set_option maxRecDepth 100000
set_option maxHeartbeats 16000000
set_option linter.unusedSimpArgs false
set_option linter.unusedVariables false
namespace Go.Proofs.YthdiccdnggloiaaGreatDoor
open Go.RowKit Go.Sort Go.Shelf Go.Maps
def Apart (v v' : Value) : Prop := ∀ b, v.ownBlock = some b → v'.ownBlock = some b → False
theorem Apart.symm {v v' : Value} (h : Apart v v') : Apart v' v := fun b h1 h2 => h b h2 h1
theorem apart_nil (v : Value) (n c : Nat) : Apart (.slice none n c) v := fun b h => by cases h
theorem apart_new {W : World} {v v' : Value} {B k n g m cap : Nat} {e : TypeId} {xs : List Value} (h : Apart v v') (hn : NewOr W v.ownBlock g) (ho : W.ownsRow B e k v' n xs) : Apart (.slice (some ⟨g, 0, none⟩) m cap) v' := by
 intro b h1 h2
 have h1 : some g = some b := h1
 injection h1 with h1
 subst h1
 rcases hn with hn | hn
 ·exact h g hn h2
 ·have := (ho.lt g h2).2; omega
theorem own_apart {W w' : World} {v v' : Value} {B k n : Nat} {e : TypeId} {xs : List Value} (ho : W.ownsRow B e k v' n xs) (h : Apart v v') (hg : W.grownBy w' v.ownBlock) : w'.ownsRow B e k v' n xs :=
 ho.kept hg (by
  cases hv : v'.ownBlock with
  | none => exact .inl rfl
  | some b => exact .inr fun e => h b e.symm hv)
theorem list_app2 {ops : Array Oper} {rest : List Oper} {o : Oper} {a : Act} {V : World} {cs : Array Value} {Q : Exit → Act → World → Prop} (hgd : o.guard = none) (s x : Operand)
  (ho : o.op = .call { callee := .builtin .append, args := #[s, x], argTypes := #[24, 24] }) (base : Nat) (v : Value) (n : Nat) (xs : List Value) (hs : a.eval s = v) (hx : a.eval x = .slice (some ⟨V.heap.size, 0, none⟩) 1 1)
  (v' : Value) (n' : Nat) (xs' : List Value) (hown' : V.ownsRow base 74 4 v' n' xs') (hap : Apart v v')
  (hown : V.ownsRow base 74 4 v n xs) (hn : n ≤ 1000000) (hb : base ≤ V.heap.size) (hcs : cs.toList.length = 1 * 4) (h1 : ∀ u ∈ cs.toList, u.oneCell' = true)
  (h : ∀ g cap w', w'.ownsRow base 74 4 (.slice (some ⟨g, 0, none⟩) (n + 1) cap) (n + 1) (xs ++ cs.toList) → (V.alloc (.cells cs 74)).grownBy w' v.ownBlock → w'.ownsRow base 74 4 v' n' xs' → Apart (.slice (some ⟨g, 0, none⟩) (n + 1) cap) v' → wpList Tryz.prog ops Q rest (a.put o.dst (.slice (some ⟨g, 0, none⟩) (n + 1) cap)) w') :
  wpList Tryz.prog ops Q (o :: rest) a (V.alloc (.cells cs 74)) := by
 obtain ⟨i0, hi0, hi1, hi2, hi3⟩ := info_parts infoCop
 exact wpList_append_own2 _ hgd s x _ ho base 74 i0 (.agg #[.string ByteArray.empty, .string ByteArray.empty, .bool false, .int .i64 0]) 4 48 Tryz.underlying24 hi0 hi1 hi2 hi3 rfl (by decide) v n xs hs (hown.alloc _) ⟨V.heap.size, 0, none⟩ 1 1 cs.toList hx (by decide) hcs
  (World.news_of_block (cs := cs) (t := 74) (fr := (0, 0)) (Blk.new V cs 74)) h1 (by unfold maxLen; omega) (by omega) (by simp; omega) (fun g cap w' h1 h2 h3 => h g cap w' h1 h2 (own_apart (hown'.alloc _) hap h2) (apart_new hap h3 (hown'.alloc _)))
def EvPost (s : Sto) (t : Tir) (bytes : Int) (w : World) (e : Ending) (w' : World) : Prop :=
 ∃ L g cap, St.Goers s t.name L ∧ e = .returned (.tuple #[.slice g (St.run s.files bytes L (t.room - St.used s.files t.name s.copies)).1.length cap, .bool (decide (bytes ≤ (St.run s.files bytes L (t.room - St.used s.files t.name s.copies)).2))]) ∧
   OwnV w' w.heap.size 52 4 (.slice g (St.run s.files bytes L (t.room - St.used s.files t.name s.copies)).1.length cap) (St.run s.files bytes L (t.room - St.used s.files t.name s.copies)).1.length (St.eM.flat ((St.run s.files bytes L (t.room - St.used s.files t.name s.copies)).1.map (St.drop_ t.name))) ∧ Below w.heap.size w w'
theorem evPost_of {s : Sto} {t : Tir} {bytes f0 f : Int} {w w' : World} {L R : List Cop} {g : Option Addr} {cap mm : Nat} {ok : Bool} (hG : St.Goers s t.name L) (hf : t.room - St.used s.files t.name s.copies = f0) (hrun : St.run s.files bytes L f0 = (R, f)) (hmm : (R.map (St.drop_ t.name)).length = mm) (hok : ok = decide (bytes ≤ f))
  (ho : OwnV w' w.heap.size 52 4 (.slice g mm cap) mm (St.eM.flat (R.map (St.drop_ t.name)))) (hb : Below w.heap.size w w') : EvPost s t bytes w (.returned (.tuple #[.slice g mm cap, .bool ok])) w' := by
 subst hf
 rw [List.length_map] at hmm
 subst hmm
 refine ⟨L, g, cap, hG, ?_, ?_, hb⟩
 ·rw [hrun, hok]
 ·rw [hrun]; exact ho
theorem evict_is (s : Sto) (a : StA) (mb : Nat) (t : Tir) (ht : t ∈ s.tiers) (bytes : Int) (hby : 0 ≤ bytes ∧ bytes ≤ 1000000000000) (w : World) (hI : StIn w s a) (hM : FMap w mb s.files) (r : St.Right s) :
  Calls Tryz.prog 94 #[.agg #[.int .i64 s.least, .int .i64 s.wait, .slice a.ta s.tiers.length a.tc, .slice a.fa s.files.length a.fc, .slice a.ca s.copies.length a.cc, .slice a.ha s.held.length a.hc, .slice a.ba s.bin.length a.bc, .map (some mb)], .agg #[.string t.name, .int .i64 t.room, .int .i64 t.cost, .bool t.away], .int .i64 bytes] w (EvPost s t bytes w) := by
 obtain ⟨W0, hW0, hP, hz0, hB0⟩ := box w #[.int .i64 s.least, .int .i64 s.wait, .slice a.ta s.tiers.length a.tc, .slice a.fa s.files.length a.fc, .slice a.ca s.copies.length a.cc, .slice a.ha s.held.length a.hc, .slice a.ba s.bin.length a.bc, .map (some mb)] 135
 obtain ⟨W1, hW1, hT, hz1, hB1⟩ := box W0 #[.string t.name, .int .i64 t.room, .int .i64 t.cost, .bool t.away] 46
 have HW0 := Lib.hid hW0; have HW1 := Lib.hid hW1
 rw [hz0] at hT hz1
 have HB1 := Lib.hid (below_up hB0 hB1)
 obtain ⟨_, y1, y2, y3, y4, y5⟩ := St.sizes_iff.1 r.sizes
 have HGB := Lib.hid (fun c (hc : c ∈ s.copies) V (hv : Below W1.heap.size W1 V) => isGarbage_is s a mb c hc V ((hI.keep HB1.out).keep hv) ((hM.keep HB1.out).keep hv) r)
 have HMK := Lib.hid (fun c (hc : c ∈ s.copies) V (hv : Below W1.heap.size W1 V) => makeable_is s a mb c.dig V ((hI.keep HB1.out).keep hv) ((hM.keep HB1.out).keep hv) r (by have := St.cop_dig r hc; omega))
 have hSZ := St.szs_of (F := s.files) (fun f hf => (r.dig f hf).2)
 have htg := St.tier_good r ht
 have HF0 : Hid (0 ≤ t.room - St.used s.files t.name s.copies ∧ t.room - St.used s.files t.name s.copies ≤ 1000000000000) := Lib.hid ⟨r.room t ht, by have := St.used_bd hSZ t.name s.copies; omega⟩
 have HFR := Lib.hid (fun V (hv : Below W1.heap.size W1 V) => free_is s a t mb V ((hI.keep HB1.out).keep hv) ((hM.keep HB1.out).keep hv) r.fup hSZ y3 htg.2.1)
 have HSZ := Lib.hid hSZ
 have HFU := Lib.hid (fun j => St.Up.sub (St.cop_up r) (List.Sublist.trans (List.filter_sublist (p := St.evB s t.name)) (List.take_sublist j s.copies)))
 have HI := Lib.hid hI; have HM := Lib.hid hM; have HR := Lib.hid r
 have hcl := hI.cl
 have HCL : Hid (∀ V, Below W1.heap.size W1 V → V.cell? ⟨w.heap.size, 0, none⟩ = some (.int .i64 s.least) ∧ V.cell? ⟨w.heap.size, 1, none⟩ = some (.int .i64 s.wait) ∧ V.cell? ⟨w.heap.size, 2, none⟩ = some (.slice a.ta s.tiers.length a.tc) ∧ V.cell? ⟨w.heap.size, 3, none⟩ = some (.slice a.fa s.files.length a.fc) ∧ V.cell? ⟨w.heap.size, 4, none⟩ = some (.slice a.ca s.copies.length a.cc) ∧ V.cell? ⟨w.heap.size, 5, none⟩ = some (.slice a.ha s.held.length a.hc) ∧ V.cell? ⟨w.heap.size, 6, none⟩ = some (.slice a.ba s.bin.length a.bc) ∧ V.cell? ⟨w.heap.size, 7, none⟩ = some (.map (some mb))) := Lib.hid fun V hv => ((hP.keep hB1).keep hv).eight
 have HTL : Hid (∀ V, Below W1.heap.size W1 V → V.cell? ⟨w.heap.size + 1, 0, none⟩ = some (.string t.name) ∧ V.cell? ⟨w.heap.size + 1, 1, none⟩ = some (.int .i64 t.room) ∧ V.cell? ⟨w.heap.size + 1, 2, none⟩ = some (.int .i64 t.cost) ∧ V.cell? ⟨w.heap.size + 1, 3, none⟩ = some (.bool t.away)) := Lib.hid fun V hv => (hT.keep hv).four
 obtain ⟨m0, m1, m2, m3, m4, m5, m6, m7⟩ := HCL.out _ (Below.refl _ _)
 have HS1 := Lib.hid hz1
 clear hI hM r hW0 hW1 hP hT hz0 hz1 hB0 hB1 m0 m1 m2 m3 m5 m6 m7 y1 y2 y4 y5 hSZ htg
 obtain ⟨nc, hnc⟩ : ∃ nc, s.copies.length = nc := ⟨_, rfl⟩
 have HNC := Lib.hid hnc
 rw [hnc] at hcl y3 HCL m4 HW0 HGB HMK HFR ⊢
 clear hnc
 go_enter Tryz.func94, Tryz.ntmps94
 go_wp2_with fail
 rw [HW0.out, HW1.out]
 go_wp2_with fail
 clear m4
 go_loopg [8, 9, 20] nc (fun gk v v' i wr => ∃ j : Nat, j ≤ nc ∧ gk = nc - j ∧ i = .int .i64 j ∧ wr.ownsRow W1.heap.size 74 4 v ((s.copies.take j).filter (St.evA s t.name)).length (St.eC.flat ((s.copies.take j).filter (St.evA s t.name))) ∧ wr.ownsRow W1.heap.size 74 4 v' ((s.copies.take j).filter (St.evB s t.name)).length (St.eC.flat ((s.copies.take j).filter (St.evB s t.name))) ∧ Apart v v' ∧ (((s.copies.take j).filter (St.evB s t.name)).length = 0 → v' = .slice none 0 0) ∧ Below W1.heap.size W1 wr)
 case atStart => exact ⟨0, by omega, rfl, rfl, World.ownsRow_nil _ _ _ _, World.ownsRow_nil _ _ _ _, apart_nil _ _ _, fun _ => rfl, Below.refl _ _⟩
 case round =>
  obtain ⟨j, hj, rfl, rfl, hown, hownB, hap, hnil, hB⟩ := hrel
  by_cases hlt : j < nc
  ·obtain ⟨x, hx⟩ : ∃ x, s.copies[j]? = some x := ⟨_, List.getElem?_eq_getElem (by rw [HNC.out]; exact hlt)⟩
   obtain ⟨b, off, ha, hb, hcell⟩ := ((HI.out.keep (below_up HB1.out hB)).co) (by rw [HNC.out]; omega)
   have c0 : wr.cell? ⟨b, off + j * 4, none⟩ = some (.string x.dig) := hcell j x hx 0 (.string x.dig) rfl
   have c1 : wr.cell? ⟨b, off + j * 4 + 1, none⟩ = some (.string x.tier) := hcell j x hx 1 (.string x.tier) rfl
   have c2 : wr.cell? ⟨b, off + j * 4 + 2, none⟩ = some (.bool x.good) := hcell j x hx 2 (.bool x.good) rfl
   have c3 : wr.cell? ⟨b, off + j * 4 + 3, none⟩ = some (.int .i64 x.asked) := hcell j x hx 3 (.int .i64 x.asked) rfl
   clear hcell
   have hft := St.filter_take (p := St.evA s t.name) hx
   have hftB := St.filter_take (p := St.evB s t.name) hx
   have hfl := St.filter_len (p := St.evA s t.name) (L := s.copies) j
   have hflB := St.filter_len (p := St.evB s t.name) (L := s.copies) j
   rw [HNC.out] at hfl hflB
   have hmem := List.mem_of_getElem? hx
   obtain ⟨W3, hW3, hX3, hz3, hB3⟩ := box wr #[.string x.dig, .string x.tier, .bool x.good, .int .i64 x.asked] 74
   have HW3 := Lib.hid hW3
   have HAW := Lib.hid (below_up hB hB3)
   have HX : Hid (∀ V, Below W3.heap.size W3 V → V.cell? ⟨wr.heap.size, 0, none⟩ = some (.string x.dig) ∧ V.cell? ⟨wr.heap.size, 1, none⟩ = some (.string x.tier) ∧ V.cell? ⟨wr.heap.size, 2, none⟩ = some (.bool x.good) ∧ V.cell? ⟨wr.heap.size, 3, none⟩ = some (.int .i64 x.asked)) := Lib.hid fun V hv => (hX3.keep hv).four
   have HGX := Lib.hid (HGB.out x hmem)
   have HMX := Lib.hid (HMK.out x hmem)
   have hj0 : (0 : Int) ≤ (j : Int) := by omega
   have hj1 : (j : Int) < (nc : Int) := by omega
   obtain ⟨bq, hbq⟩ : ∃ bq, (x.tier.toList == t.name.toList) = bq := ⟨_, rfl⟩
   have hbn : (x.tier.toList != t.name.toList) = !bq := by rw [← hbq]; rfl
   have heA : St.evA s t.name x = (bq && St.garbage s x) := by unfold St.evA St.eq; rw [hbq]
   have heB : St.evB s t.name x = (bq && (!St.garbage s x && St.mkb s x.dig)) := by unfold St.evB St.eq; rw [hbq]
   rw [heA] at hft
   rw [heB] at hftB
   generalize ((s.copies.take j).filter (St.evA s t.name)) = G at *
   generalize ((s.copies.take j).filter (St.evB s t.name)) = K at *
   generalize St.garbage s x = gd at *
   generalize St.mkb s x.dig = md at *
   have HFA := Lib.hid hft; have HFB := Lib.hid hftB
   have hv : Below W3.heap.size W3 W3 := Below.refl _ _
   have HOA := Lib.hid (own_keepE hown hB3); have HOB := Lib.hid (own_keepE hownB hB3); have HAP := Lib.hid hap; have HNL := Lib.hid hnil
   obtain ⟨e0, e1, e2, e3⟩ := HX.out _ hv
   obtain ⟨n0, n1, n2, n3, n4, n5, n6, n7⟩ := HCL.out _ (below_up HAW.out hv)
   obtain ⟨t0, t1, t2, t3⟩ := HTL.out _ (below_up HAW.out hv)
   clear hx hB hX3 hz3 hB3 hW3 hown hownB hap hnil hft hftB hmem HGB HMK heA heB
   rw [ha] at HGX HMX HCL n4 ⊢
   go_upto_region 5 with fail
   rw [HW3.out]
   clear c0 c1 c2 c3
   cases bq
   ·go_wp2_with fail
    rw [← ha]
    go_roundg (nc - (j + 1))
    case rel => exact ⟨j + 1, by omega, rfl, by go_num, by rw [HFA.out, if_neg (by simp), List.append_nil]; exact HOA.out, by rw [HFB.out, if_neg (by simp), List.append_nil]; exact HOB.out, HAP.out, by rw [HFB.out, if_neg (by simp), List.append_nil]; exact HNL.out, HAW.out⟩
    case measure => omega
   ·cases gd
    ·cases md
     ·go_wp2_with (first
       | (go_at_call 165; (with_reducible refine (HGX.out _ (below_up HAW.out hv)).mono ?_); rintro e w5 ⟨rfl, hq⟩; have hv := below_up hv hq; obtain ⟨e0, e1, e2, e3⟩ := HX.out _ hv; obtain ⟨n0, n1, n2, n3, n4, n5, n6, n7⟩ := HCL.out _ (below_up HAW.out hv); have hBp := below_up HAW.out hv; have hvs := hBp.size)
       | (go_at_call 166; (with_reducible refine (HMX.out _ (below_up HAW.out hv)).mono ?_); rintro e w5 ⟨rfl, hq⟩; have hv := below_up hv hq; obtain ⟨e0, e1, e2, e3⟩ := HX.out _ hv; obtain ⟨n0, n1, n2, n3, n4, n5, n6, n7⟩ := HCL.out _ (below_up HAW.out hv); have hBp := below_up HAW.out hv; have hvs := hBp.size))
      rw [← ha]
      go_roundg (nc - (j + 1))
      case rel => exact ⟨j + 1, by omega, rfl, by go_num, by rw [HFA.out, if_neg (by simp), List.append_nil]; exact own_keepE HOA.out hv, by rw [HFB.out, if_neg (by simp), List.append_nil]; exact own_keepE HOB.out hv, HAP.out, by rw [HFB.out, if_neg (by simp), List.append_nil]; exact HNL.out, hBp⟩
      case measure => omega
     ·obtain ⟨FL, hFL⟩ : ∃ FL, St.eC.flat K = FL := ⟨_, rfl⟩
      obtain ⟨m, hm⟩ : ∃ m, K.length = m := ⟨_, rfl⟩
      have HFL : Hid (St.eC.flat (K ++ [x]) = FL ++ [.string x.dig, .string x.tier, .bool x.good, .int .i64 x.asked]) := Lib.hid (by rw [Enc.flat_snoc, hFL]; rfl)
      have HLM : Hid ((K ++ [x]).length = m + 1) := Lib.hid (by rw [List.length_append, hm]; rfl)
      have HOX := HOB
      rw [hFL, hm] at HOX
      rw [hm] at hflB
      clear hFL hm HOB
      go_wp2_with (first
       | (go_at_call 165; (with_reducible refine (HGX.out _ (below_up HAW.out hv)).mono ?_); rintro e w5 ⟨rfl, hq⟩; have hv := below_up hv hq; obtain ⟨e0, e1, e2, e3⟩ := HX.out _ hv; obtain ⟨n0, n1, n2, n3, n4, n5, n6, n7⟩ := HCL.out _ (below_up HAW.out hv); have hBp := below_up HAW.out hv; have hvs := hBp.size)
       | (go_at_call 166; (with_reducible refine (HMX.out _ (below_up HAW.out hv)).mono ?_); rintro e w5 ⟨rfl, hq⟩; have hv := below_up hv hq; obtain ⟨e0, e1, e2, e3⟩ := HX.out _ hv; obtain ⟨n0, n1, n2, n3, n4, n5, n6, n7⟩ := HCL.out _ (below_up HAW.out hv); have hBp := below_up HAW.out hv; have hvs := hBp.size)
       | (at_builtin; refine list_app2 rfl _ _ rfl _ _ m FL (by rfl) (by rfl) _ _ _ (own_keepE HOA.out hv) HAP.out.symm (own_keepE HOX.out hv) (by omega) (by omega) (by rfl) (by simp [Value.oneCell']) ?_; intro g8 cap8 w8 hown8 hgrow8 hoth8 hap8; have hB8 := below_grownE (below_allocs hBp _) ((own_keepE HOX.out hv).alloc _) hgrow8 (by simp; omega)))
      rw [← ha]
      go_roundg (nc - (j + 1))
      case rel => exact ⟨j + 1, by omega, rfl, by go_num, by rw [HFA.out, if_neg (by simp), List.append_nil]; exact hoth8, by rw [HFB.out, if_pos (by simp), HFL.out, HLM.out]; exact hown8, hap8.symm, fun h => by (rw [HFB.out, if_pos (by simp), HLM.out] at h; omega), hB8⟩
      case measure => omega
    ·obtain ⟨FL, hFL⟩ : ∃ FL, St.eC.flat G = FL := ⟨_, rfl⟩
     obtain ⟨m, hm⟩ : ∃ m, G.length = m := ⟨_, rfl⟩
     have HFL : Hid (St.eC.flat (G ++ [x]) = FL ++ [.string x.dig, .string x.tier, .bool x.good, .int .i64 x.asked]) := Lib.hid (by rw [Enc.flat_snoc, hFL]; rfl)
     have HLM : Hid ((G ++ [x]).length = m + 1) := Lib.hid (by rw [List.length_append, hm]; rfl)
     have HOX := HOA
     rw [hFL, hm] at HOX
     rw [hm] at hfl
     clear hFL hm HOA
     go_wp2_with (first
      | (go_at_call 165; (with_reducible refine (HGX.out _ (below_up HAW.out hv)).mono ?_); rintro e w5 ⟨rfl, hq⟩; have hv := below_up hv hq; obtain ⟨e0, e1, e2, e3⟩ := HX.out _ hv; obtain ⟨n0, n1, n2, n3, n4, n5, n6, n7⟩ := HCL.out _ (below_up HAW.out hv); have hBp := below_up HAW.out hv; have hvs := hBp.size)
      | (at_builtin; refine list_app2 rfl _ _ rfl _ _ m FL (by rfl) (by rfl) _ _ _ (own_keepE HOB.out hv) HAP.out (own_keepE HOX.out hv) (by omega) (by omega) (by rfl) (by simp [Value.oneCell']) ?_; intro g8 cap8 w8 hown8 hgrow8 hoth8 hap8; have hB8 := below_grownE (below_allocs hBp _) ((own_keepE HOX.out hv).alloc _) hgrow8 (by simp; omega)))
     rw [← ha]
     go_roundg (nc - (j + 1))
     case rel => exact ⟨j + 1, by omega, rfl, by go_num, by rw [HFA.out, if_pos (by simp), HFL.out, HLM.out]; exact hown8, by rw [HFB.out, if_neg (by simp), List.append_nil]; exact hoth8, hap8, by rw [HFB.out, if_neg (by simp), List.append_nil]; exact HNL.out, hB8⟩
     case measure => omega
  ·obtain rfl : nc = j := by omega
   rw [← HNC.out, List.take_length] at hown hownB hnil
   obtain ⟨K, hK⟩ : ∃ K, St.evK s t.name = K := ⟨_, rfl⟩
   obtain ⟨G, hG⟩ : ∃ G, St.evG s t.name = G := ⟨_, rfl⟩
   have hKU : St.Up St.ckey K := by rw [← hK]; exact St.Up.sub (St.cop_up HR.out) List.filter_sublist
   have hKm : ∀ x ∈ K, x ∈ s.copies := fun x hx => by rw [← hK] at hx; exact (List.mem_filter.1 hx).1
   have hGm : ∀ x ∈ G, x ∈ s.copies := fun x hx => by rw [← hG] at hx; exact (List.mem_filter.1 hx).1
   have hGl : G.length ≤ s.copies.length := by rw [← hG]; exact List.length_filter_le _ _
   have hKl : K.length ≤ s.copies.length := by rw [← hK]; exact List.length_filter_le _ _
   rw [show s.copies.filter (St.evB s t.name) = K from hK] at hownB hnil
   rw [show s.copies.filter (St.evA s t.name) = G from hG] at hown
   have HK := Lib.hid hK; have HG := Lib.hid hG
   rw [HNC.out] at hGl hKl
   have HKM := Lib.hid hKm; have HGM := Lib.hid hGm
   obtain ⟨ng, hng⟩ : ∃ ng, G.length = ng := ⟨_, rfl⟩
   have HNG := Lib.hid hng
   have hv := hB
   have hvs := hv.size
   obtain ⟨n0, n1, n2, n3, n4, n5, n6, n7⟩ := HCL.out _ hv
   obtain ⟨t0, t1, t2, t3⟩ := HTL.out _ hv
   rw [hng] at hown hGl
   clear hK hG hKm hGm hng hB
   by_cases hz : K.length = 0
   ·obtain rfl := hnil hz
    obtain rfl := List.eq_nil_of_length_eq_zero hz
    obtain ⟨A, ca, rfl, l1, l2⟩ := (OwnV.of_own hown).form
    have HOG := Lib.hid (OwnV.of_own hown)
    clear hownB hap hnil hKU hown hz
    go_wp2_with (first
     | (go_at_call 167; refine (stCp_sort0 _ _ _ _).mono ?_; rintro e w6 ⟨rfl, rfl⟩)
     | (go_at_call 97; (with_reducible refine (HFR.out _ hv).mono ?_); rintro e w7 ⟨rfl, hq⟩; have hv0 := hq; have hv := below_up hv hq; obtain ⟨n0, n1, n2, n3, n4, n5, n6, n7⟩ := HCL.out _ hv; obtain ⟨t0, t1, t2, t3⟩ := HTL.out _ hv; have hvs7 := hv.size; have HOH := Lib.hid (HOG.out.keep hv0))
     | (at_builtin; refine list_cat0 rfl _ _ rfl A ng ca (by rfl) (by rfl) l1 ?_))
    obtain ⟨L, hLd⟩ : ∃ L, L = G := ⟨_, rfl⟩
    have hGO : St.Goers s t.name L := by rw [hLd]; exact ⟨[], by rw [HG.out, List.append_nil], by rw [HK.out], List.Pairwise.nil⟩
    have hLm : ∀ y ∈ L, y ∈ s.copies := by rw [hLd]; exact HGM.out
    have hLn : L.length = ng := by rw [hLd]; exact HNG.out
    have hLv : OwnV w7 W1.heap.size 74 4 (.slice A (ng) ca) (ng) (St.eC.flat L) := by rw [hLd]; exact HOH.out
    obtain ⟨N, hN⟩ : ∃ N, ng = N := ⟨_, rfl⟩
    have hN8 : N ≤ 8000 := by omega
    rw [hN] at hLv hLn ⊢
    have HGO := Lib.hid hGO; have HLM := Lib.hid hLm; have HLN := Lib.hid hLn
    obtain ⟨f0, hf0⟩ : ∃ f0, t.room - St.used s.files t.name s.copies = f0 := ⟨_, rfl⟩
    have hf0b := HF0.out
    rw [hf0] at hf0b
    have HFE := Lib.hid hf0
    rw [hf0]
    have HB8 := Lib.hid hv
    have HLV := Lib.hid hLv
    clear hGO hLm hLn hLd hf0 hLv hN
    go_wp2_with fail
    go_loopg [12, 13, 60] N (fun gk fv lv i wr => ∃ (j : Nat) (f : Int), j ≤ N ∧ gk = N - j ∧ i = .int .i64 j ∧ fv = .int .i64 f ∧ 0 ≤ f ∧ f ≤ 1000000000000 + 1000000000 * (j : Int) ∧ St.run s.files bytes L f0 = (L.take j ++ (St.run s.files bytes (L.drop j) f).1, (St.run s.files bytes (L.drop j) f).2) ∧ wr.ownsRow W1.heap.size 52 4 lv ((L.take j).map (St.drop_ t.name)).length (St.eM.flat ((L.take j).map (St.drop_ t.name))) ∧ OwnV wr W1.heap.size 74 4 (.slice A N ca) N (St.eC.flat L) ∧ Below W1.heap.size W1 wr)
    case atStart => exact ⟨0, f0, by omega, rfl, rfl, rfl, hf0b.1, by omega, rfl, World.ownsRow_nil _ _ _ _, HLV.out, HB8.out⟩
    case round =>
     obtain ⟨j, f, hj, rfl, rfl, rfl, hf1, hf2, hrun, hown, hrow, hB⟩ := hrel
     have HRUN := Lib.hid hrun
     by_cases hlt : j < N
     ·obtain ⟨x, hx⟩ : ∃ x, L[j]? = some x := ⟨_, List.getElem?_eq_getElem (by rw [HLN.out]; exact hlt)⟩
      have hre : RowE St.eC wr A L := RowE.ofV (E := St.eC) (ca := ca) (by rw [HLN.out]; exact hrow)
      obtain ⟨b, off, ha, hb, hcell⟩ := hre (by rw [HLN.out]; omega)
      have c0 : wr.cell? ⟨b, off + j * 4, none⟩ = some (.string x.dig) := hcell j x hx 0 (.string x.dig) rfl
      have c1 : wr.cell? ⟨b, off + j * 4 + 1, none⟩ = some (.string x.tier) := hcell j x hx 1 (.string x.tier) rfl
      have c2 : wr.cell? ⟨b, off + j * 4 + 2, none⟩ = some (.bool x.good) := hcell j x hx 2 (.bool x.good) rfl
      have c3 : wr.cell? ⟨b, off + j * 4 + 3, none⟩ = some (.int .i64 x.asked) := hcell j x hx 3 (.int .i64 x.asked) rfl
      clear hcell
      have hdr : L.drop j = x :: L.drop (j + 1) := by
       rw [List.drop_eq_getElem_cons (by rw [HLN.out]; exact hlt)]
       congr 1
       exact Option.some.inj ((List.getElem?_eq_getElem (by rw [HLN.out]; exact hlt)).symm.trans hx)
      have htk : L.take (j + 1) = L.take j ++ [x] := by rw [List.take_add_one, hx]; rfl
      have hmem := HLM.out x (List.mem_of_getElem? hx)
      obtain ⟨W3, hW3, hX3, hz3, hB3⟩ := box wr #[.string x.dig, .string x.tier, .bool x.good, .int .i64 x.asked] 74
      have HW3 := Lib.hid hW3
      have HAW := Lib.hid (below_up hB hB3)
      have HX : Hid (∀ V, Below W3.heap.size W3 V → V.cell? ⟨wr.heap.size, 0, none⟩ = some (.string x.dig) ∧ V.cell? ⟨wr.heap.size, 1, none⟩ = some (.string x.tier) ∧ V.cell? ⟨wr.heap.size, 2, none⟩ = some (.bool x.good) ∧ V.cell? ⟨wr.heap.size, 3, none⟩ = some (.int .i64 x.asked)) := Lib.hid fun V hv => (hX3.keep hv).four
      have hown3 := own_keepE hown hB3
      have hrow3 := hrow.keep hB3
      have h16 := St.cop_dig HR.out hmem
      obtain ⟨fl, hlk, hf⟩ := FMap.kind (HM.out.keep (below_up HB1.out HAW.out)) HR.out.fup (d := x.dig) (by omega)
      have hfs := fldSize fl.dig fl.frm fl.size fl.kind
      have hfz : 0 ≤ fl.size ∧ fl.size ≤ 1000000000 := by rw [hf, St.filD_size]; exact St.size_bd HSZ.out x.dig
      have hsz : St.sizeOf s.files x.dig = fl.size := by rw [hf, St.filD_size]
      have HRN := Lib.hid (fun h : ¬ bytes ≤ f => (congrArg (fun l => St.run s.files bytes l f) hdr).trans (St.run_next h))
      rw [hsz] at HRN
      have HTK := Lib.hid htk
      have hj0 : (0 : Int) ≤ (j : Int) := by omega
      have hj1 : (j : Int) < (N : Int) := by omega
      have hj8 : (j : Int) ≤ 8000 := by omega
      have hv : Below W3.heap.size W3 W3 := Below.refl _ _
      obtain ⟨e0, e1, e2, e3⟩ := HX.out _ hv
      obtain ⟨n0, n1, n2, n3, n4, n5, n6, n7⟩ := HCL.out _ (below_up HAW.out hv)
      obtain ⟨t0, t1, t2, t3⟩ := HTL.out _ (below_up HAW.out hv)
      obtain ⟨m, hm⟩ : ∃ m, ((L.take j).map (St.drop_ t.name)).length = m := ⟨_, rfl⟩
      have hm8 : m ≤ 8000 := by rw [← hm, List.length_map, List.length_take]; omega
      obtain ⟨FL, hFL⟩ : ∃ FL, St.eM.flat ((L.take j).map (St.drop_ t.name)) = FL := ⟨_, rfl⟩
      have HMF := Lib.hid (And.intro hm hFL)
      rw [hm, hFL] at hown3
      clear hx hB hX3 hz3 hB3 hW3 hown hrow hdr htk hmem hf hrun h16 hm hFL hsz
      rw [ha]
      by_cases hge : bytes ≤ f
      ·have hrun := HRUN.out
       rw [St.run_stop hge, List.append_nil] at hrun
       have HRU := Lib.hid hrun
       have HO := Lib.hid ((OwnV.of_own hown3).down (show w.heap.size ≤ W1.heap.size by have := HS1.out; omega))
       obtain ⟨g, cap, rfl⟩ := ownV_slice (OwnV.of_own hown3)
       obtain ⟨l1, l2⟩ := HO.out.caps
       have HBZ := Lib.hid (below_up HB1.out HAW.out)
       clear hown3 hrun hrow3 hre HRUN
       have hgb : decide (bytes ≤ f) = true := decide_eq_true hge
       have hgt : (bytes ≤ f) = True := eq_true hge
       go_upto_region 17 with fail
       rw [HW3.out]
       clear c0 c1 c2 c3
       go_wp2_with (go_at_call 123; (with_reducible refine (clnM_clip _ _ _ _ l1 l2).mono ?_); rintro e wc ⟨rfl, rfl⟩)
       go_ret2
       exact evPost_of HGO.out HFE.out HRU.out HMF.out.1 (by simp [hge]) (by rw [HMF.out.2]; exact HO.out.clip) HBZ.out
      ·have hrun : St.run s.files bytes L f0 = (L.take (j + 1) ++ (St.run s.files bytes (L.drop (j + 1)) (f + fl.size)).1, (St.run s.files bytes (L.drop (j + 1)) (f + fl.size)).2) := by
        rw [HRUN.out, HRN.out hge, HTK.out, List.append_assoc]; rfl
       have HRU := Lib.hid hrun
       have HM1 : Hid (((L.take (j + 1)).map (St.drop_ t.name)).length = m + 1) := Lib.hid (by rw [HTK.out, List.map_append, List.length_append, HMF.out.1]; rfl)
       have HF1 : Hid (St.eM.flat ((L.take (j + 1)).map (St.drop_ t.name)) = FL ++ [.int .i64 2, .string x.dig, .string t.name, .string ByteArray.empty]) := Lib.hid (by rw [HTK.out, List.map_append, Enc.flat_append, HMF.out.2]; rfl)
       have HRW := Lib.hid (hrow3.keep ((Below.refl _ _).alloc (Nat.le_refl _) (.cells #[.int .i64 2, .string x.dig, .string t.name, .string ByteArray.empty] 52)))
       clear hrun hrow3
       clear hre HRUN
       have hgb : decide (bytes ≤ f) = false := decide_eq_false hge
       have hgt : (bytes ≤ f) = False := eq_false hge
       go_upto_region 17 with fail
       rw [HW3.out]
       clear c0 c1 c2 c3
       go_wp2_with (at_builtin; refine list_appM rfl _ _ rfl _ _ m FL (by rfl) (by rfl) hown3 (by omega) (by have := HAW.out.size; omega) (by rfl) (by simp [Value.oneCell']) ?_; intro g8 cap8 w8 hown8 hgrow8; have hB8 := below_grownE (below_allocs HAW.out _) (hown3.alloc _) hgrow8 (by have := HAW.out.size; simp; omega))
       have hro := own_far HRW.out (hown3.alloc _) (by decide) hgrow8
       rw [← ha]
       go_roundg (N - (j + 1))
       case rel => exact ⟨j + 1, f + fl.size, by omega, rfl, by go_num, rfl, by omega, by omega, HRU.out, by rw [HM1.out, HF1.out]; exact hown8, hro, hB8⟩
       case measure => omega
     ·obtain rfl : N = j := by omega
      have hrun := HRUN.out
      rw [← HLN.out, List.take_length, List.drop_length] at hrun
      rw [← HLN.out, List.take_length] at hown
      obtain ⟨mm, hmm⟩ : ∃ mm, (L.map (St.drop_ t.name)).length = mm := ⟨_, rfl⟩
      rw [hmm] at hown
      have HO := Lib.hid ((OwnV.of_own hown).down (show w.heap.size ≤ W1.heap.size by have := HS1.out; omega))
      obtain ⟨g, cap, rfl⟩ := ownV_slice (OwnV.of_own hown)
      obtain ⟨l1, l2⟩ := HO.out.caps
      have HMM2 := Lib.hid hmm
      clear hmm
      have HRU := Lib.hid hrun
      have HBZ := Lib.hid (below_up HB1.out hB)
      clear hown hrun hrow hB HRUN
      go_wp2_with (go_at_call 123; (with_reducible refine (clnM_clip _ _ _ _ l1 l2).mono ?_); rintro e wc ⟨rfl, rfl⟩)
      go_ret2
      rw [← HFE.out]
      exact evPost_of HGO.out rfl (by rw [HFE.out]; exact HRU.out.trans (by rw [St.run, List.append_nil])) HMM2.out rfl HO.out.clip HBZ.out
   ·rcases OwnV.of_own hownB with ⟨_, h0, _⟩ | ⟨gk, capk, rfl, hOK⟩
    ·exact absurd h0 hz
    ·have hSK : SRow St.eC wr W1.heap.size 74 gk capk K.length K := ⟨hOK, rfl⟩
     have HST := Lib.hid (evSort_is K hKU (by omega) _ _ _ _ hSK)
     have HGK := Lib.hid hOK.lt.1
     obtain ⟨nk, hnk⟩ : ∃ nk, K.length = nk := ⟨_, rfl⟩
     rw [hnk] at HST hKl hz hap ⊢
     have HOG := Lib.hid hown; have HAP := Lib.hid hap.symm
     clear hownB hnil hKU hSK hOK hnk hown hap
     go_wp2_with (first
      | (go_at_call 167; (with_reducible refine HST.out.mono ?_); rintro e w6 ⟨rfl, M, hp6, hs6, hS6, hG6⟩; have hoG6 := own_apart HOG.out HAP.out hG6; have hv := hv.grown hG6 hv.size (fun b e => by cases e; exact HGK.out); have HSO := Lib.hid (And.intro hp6 hs6); clear hp6 hs6 hG6; obtain ⟨n0, n1, n2, n3, n4, n5, n6, n7⟩ := HCL.out _ hv; obtain ⟨t0, t1, t2, t3⟩ := HTL.out _ hv)
      | (go_at_call 97; (with_reducible refine (HFR.out _ hv).mono ?_); rintro e w7 ⟨rfl, hq⟩; have hv := below_up hv hq; have hS7 := hS6.keep hq; have hoG7 := own_keepE hoG6 hq; obtain ⟨n0, n1, n2, n3, n4, n5, n6, n7⟩ := HCL.out _ hv; obtain ⟨t0, t1, t2, t3⟩ := HTL.out _ hv; have hvs7 := hv.size)
      | (at_builtin; refine list_catC rfl _ _ rfl _ _ ng (St.eC.flat G) (by rfl) _ nk _ M (by rfl) (by omega) hS7 hoG7 (by omega) (by omega) ?_; intro g8 cap8 w8 hown8 hgrow8; have hB8 := below_grownE hv hoG7 hgrow8 (by omega)))
     have HGO8 : Hid (St.Goers s t.name (G ++ M)) := Lib.hid ⟨M, by rw [HG.out], by rw [HK.out]; exact HSO.out.1, HSO.out.2⟩
     have HMM : Hid (∀ y ∈ G ++ M, y ∈ s.copies) := Lib.hid fun y hy => by
      rcases List.mem_append.1 hy with h | h
      ·exact HGM.out y h
      ·exact HKM.out y (HSO.out.1.mem_iff.1 h)
     have hml : M.length = nk := hS7.len
     have HOH : Hid (OwnV w8 W1.heap.size 74 4 (.slice (some ⟨g8, 0, none⟩) (ng + nk) cap8) (ng + nk) (St.eC.flat (G ++ M))) := Lib.hid (by rw [Enc.flat_append]; exact OwnV.of_own hown8)
     have HNG2 := HNG
     clear hown8 hgrow8 hS7 hoG7 n0 n1 n2 n3 n4 n5 n6 n7 t0 t1 t2 t3 hv
     obtain ⟨A, hA⟩ : ∃ A, (some ⟨g8, 0, none⟩ : Option Addr) = A := ⟨_, rfl⟩
     rw [hA] at HOH ⊢
     obtain ⟨ca, hca⟩ : ∃ ca, cap8 = ca := ⟨_, rfl⟩
     rw [hca] at HOH ⊢
     obtain ⟨N0, hN0⟩ : ∃ N0, ng + nk = N0 := ⟨_, rfl⟩
     have hNc : (ng : Int) + (nk : Int) = (N0 : Int) := by omega
     have hNl : (G ++ M).length = N0 := by rw [List.length_append, HNG.out, hml]; exact hN0
     have hN9 : N0 ≤ 8000 := by omega
     rw [hN0] at HOH ⊢
     rw [hNc]
     clear hA hca hNc hN0
     obtain ⟨L, hLd⟩ : ∃ L, L = G ++ M := ⟨_, rfl⟩
     have hGO : St.Goers s t.name L := by rw [hLd]; exact HGO8.out
     have hLm : ∀ y ∈ L, y ∈ s.copies := by rw [hLd]; exact HMM.out
     have hLn : L.length = N0 := by rw [hLd]; exact hNl
     have hLv : OwnV w8 W1.heap.size 74 4 (.slice A (N0) ca) (N0) (St.eC.flat L) := by rw [hLd]; exact HOH.out
     obtain ⟨N, hN⟩ : ∃ N, N0 = N := ⟨_, rfl⟩
     have hN8 : N ≤ 8000 := by omega
     rw [hN] at hLv hLn ⊢
     have HGO := Lib.hid hGO; have HLM := Lib.hid hLm; have HLN := Lib.hid hLn
     obtain ⟨f0, hf0⟩ : ∃ f0, t.room - St.used s.files t.name s.copies = f0 := ⟨_, rfl⟩
     have hf0b := HF0.out
     rw [hf0] at hf0b
     have HFE := Lib.hid hf0
     rw [hf0]
     have HB8 := Lib.hid hB8
     have HLV := Lib.hid hLv
     clear hGO hLm hLn hLd hf0 hLv hN
     go_wp2_with fail
     go_loopg [12, 13, 60] N (fun gk fv lv i wr => ∃ (j : Nat) (f : Int), j ≤ N ∧ gk = N - j ∧ i = .int .i64 j ∧ fv = .int .i64 f ∧ 0 ≤ f ∧ f ≤ 1000000000000 + 1000000000 * (j : Int) ∧ St.run s.files bytes L f0 = (L.take j ++ (St.run s.files bytes (L.drop j) f).1, (St.run s.files bytes (L.drop j) f).2) ∧ wr.ownsRow W1.heap.size 52 4 lv ((L.take j).map (St.drop_ t.name)).length (St.eM.flat ((L.take j).map (St.drop_ t.name))) ∧ OwnV wr W1.heap.size 74 4 (.slice A N ca) N (St.eC.flat L) ∧ Below W1.heap.size W1 wr)
     case atStart => exact ⟨0, f0, by omega, rfl, rfl, rfl, hf0b.1, by omega, rfl, World.ownsRow_nil _ _ _ _, HLV.out, HB8.out⟩
     case round =>
      obtain ⟨j, f, hj, rfl, rfl, rfl, hf1, hf2, hrun, hown, hrow, hB⟩ := hrel
      have HRUN := Lib.hid hrun
      by_cases hlt : j < N
      ·obtain ⟨x, hx⟩ : ∃ x, L[j]? = some x := ⟨_, List.getElem?_eq_getElem (by rw [HLN.out]; exact hlt)⟩
       have hre : RowE St.eC wr A L := RowE.ofV (E := St.eC) (ca := ca) (by rw [HLN.out]; exact hrow)
       obtain ⟨b, off, ha, hb, hcell⟩ := hre (by rw [HLN.out]; omega)
       have c0 : wr.cell? ⟨b, off + j * 4, none⟩ = some (.string x.dig) := hcell j x hx 0 (.string x.dig) rfl
       have c1 : wr.cell? ⟨b, off + j * 4 + 1, none⟩ = some (.string x.tier) := hcell j x hx 1 (.string x.tier) rfl
       have c2 : wr.cell? ⟨b, off + j * 4 + 2, none⟩ = some (.bool x.good) := hcell j x hx 2 (.bool x.good) rfl
       have c3 : wr.cell? ⟨b, off + j * 4 + 3, none⟩ = some (.int .i64 x.asked) := hcell j x hx 3 (.int .i64 x.asked) rfl
       clear hcell
       have hdr : L.drop j = x :: L.drop (j + 1) := by
        rw [List.drop_eq_getElem_cons (by rw [HLN.out]; exact hlt)]
        congr 1
        exact Option.some.inj ((List.getElem?_eq_getElem (by rw [HLN.out]; exact hlt)).symm.trans hx)
       have htk : L.take (j + 1) = L.take j ++ [x] := by rw [List.take_add_one, hx]; rfl
       have hmem := HLM.out x (List.mem_of_getElem? hx)
       obtain ⟨W3, hW3, hX3, hz3, hB3⟩ := box wr #[.string x.dig, .string x.tier, .bool x.good, .int .i64 x.asked] 74
       have HW3 := Lib.hid hW3
       have HAW := Lib.hid (below_up hB hB3)
       have HX : Hid (∀ V, Below W3.heap.size W3 V → V.cell? ⟨wr.heap.size, 0, none⟩ = some (.string x.dig) ∧ V.cell? ⟨wr.heap.size, 1, none⟩ = some (.string x.tier) ∧ V.cell? ⟨wr.heap.size, 2, none⟩ = some (.bool x.good) ∧ V.cell? ⟨wr.heap.size, 3, none⟩ = some (.int .i64 x.asked)) := Lib.hid fun V hv => (hX3.keep hv).four
       have hown3 := own_keepE hown hB3
       have hrow3 := hrow.keep hB3
       have h16 := St.cop_dig HR.out hmem
       obtain ⟨fl, hlk, hf⟩ := FMap.kind (HM.out.keep (below_up HB1.out HAW.out)) HR.out.fup (d := x.dig) (by omega)
       have hfs := fldSize fl.dig fl.frm fl.size fl.kind
       have hfz : 0 ≤ fl.size ∧ fl.size ≤ 1000000000 := by rw [hf, St.filD_size]; exact St.size_bd HSZ.out x.dig
       have hsz : St.sizeOf s.files x.dig = fl.size := by rw [hf, St.filD_size]
       have HRN := Lib.hid (fun h : ¬ bytes ≤ f => (congrArg (fun l => St.run s.files bytes l f) hdr).trans (St.run_next h))
       rw [hsz] at HRN
       have HTK := Lib.hid htk
       have hj0 : (0 : Int) ≤ (j : Int) := by omega
       have hj1 : (j : Int) < (N : Int) := by omega
       have hj8 : (j : Int) ≤ 8000 := by omega
       have hv : Below W3.heap.size W3 W3 := Below.refl _ _
       obtain ⟨e0, e1, e2, e3⟩ := HX.out _ hv
       obtain ⟨n0, n1, n2, n3, n4, n5, n6, n7⟩ := HCL.out _ (below_up HAW.out hv)
       obtain ⟨t0, t1, t2, t3⟩ := HTL.out _ (below_up HAW.out hv)
       obtain ⟨m, hm⟩ : ∃ m, ((L.take j).map (St.drop_ t.name)).length = m := ⟨_, rfl⟩
       have hm8 : m ≤ 8000 := by rw [← hm, List.length_map, List.length_take]; omega
       obtain ⟨FL, hFL⟩ : ∃ FL, St.eM.flat ((L.take j).map (St.drop_ t.name)) = FL := ⟨_, rfl⟩
       have HMF := Lib.hid (And.intro hm hFL)
       rw [hm, hFL] at hown3
       clear hx hB hX3 hz3 hB3 hW3 hown hrow hdr htk hmem hf hrun h16 hm hFL hsz
       rw [ha]
       by_cases hge : bytes ≤ f
       ·have hrun := HRUN.out
        rw [St.run_stop hge, List.append_nil] at hrun
        have HRU := Lib.hid hrun
        have HO := Lib.hid ((OwnV.of_own hown3).down (show w.heap.size ≤ W1.heap.size by have := HS1.out; omega))
        obtain ⟨g, cap, rfl⟩ := ownV_slice (OwnV.of_own hown3)
        obtain ⟨l1, l2⟩ := HO.out.caps
        have HBZ := Lib.hid (below_up HB1.out HAW.out)
        clear hown3 hrun hrow3 hre HRUN
        have hgb : decide (bytes ≤ f) = true := decide_eq_true hge
        have hgt : (bytes ≤ f) = True := eq_true hge
        go_upto_region 17 with fail
        rw [HW3.out]
        clear c0 c1 c2 c3
        go_wp2_with (go_at_call 123; (with_reducible refine (clnM_clip _ _ _ _ l1 l2).mono ?_); rintro e wc ⟨rfl, rfl⟩)
        go_ret2
        exact evPost_of HGO.out HFE.out HRU.out HMF.out.1 (by simp [hge]) (by rw [HMF.out.2]; exact HO.out.clip) HBZ.out
       ·have hrun : St.run s.files bytes L f0 = (L.take (j + 1) ++ (St.run s.files bytes (L.drop (j + 1)) (f + fl.size)).1, (St.run s.files bytes (L.drop (j + 1)) (f + fl.size)).2) := by
         rw [HRUN.out, HRN.out hge, HTK.out, List.append_assoc]; rfl
        have HRU := Lib.hid hrun
        have HM1 : Hid (((L.take (j + 1)).map (St.drop_ t.name)).length = m + 1) := Lib.hid (by rw [HTK.out, List.map_append, List.length_append, HMF.out.1]; rfl)
        have HF1 : Hid (St.eM.flat ((L.take (j + 1)).map (St.drop_ t.name)) = FL ++ [.int .i64 2, .string x.dig, .string t.name, .string ByteArray.empty]) := Lib.hid (by rw [HTK.out, List.map_append, Enc.flat_append, HMF.out.2]; rfl)
        have HRW := Lib.hid (hrow3.keep ((Below.refl _ _).alloc (Nat.le_refl _) (.cells #[.int .i64 2, .string x.dig, .string t.name, .string ByteArray.empty] 52)))
        clear hrun hrow3
        clear hre HRUN
        have hgb : decide (bytes ≤ f) = false := decide_eq_false hge
        have hgt : (bytes ≤ f) = False := eq_false hge
        go_upto_region 17 with fail
        rw [HW3.out]
        clear c0 c1 c2 c3
        go_wp2_with (at_builtin; refine list_appM rfl _ _ rfl _ _ m FL (by rfl) (by rfl) hown3 (by omega) (by have := HAW.out.size; omega) (by rfl) (by simp [Value.oneCell']) ?_; intro g8 cap8 w8 hown8 hgrow8; have hB8 := below_grownE (below_allocs HAW.out _) (hown3.alloc _) hgrow8 (by have := HAW.out.size; simp; omega))
        have hro := own_far HRW.out (hown3.alloc _) (by decide) hgrow8
        rw [← ha]
        go_roundg (N - (j + 1))
        case rel => exact ⟨j + 1, f + fl.size, by omega, rfl, by go_num, rfl, by omega, by omega, HRU.out, by rw [HM1.out, HF1.out]; exact hown8, hro, hB8⟩
        case measure => omega
      ·obtain rfl : N = j := by omega
       have hrun := HRUN.out
       rw [← HLN.out, List.take_length, List.drop_length] at hrun
       rw [← HLN.out, List.take_length] at hown
       obtain ⟨mm, hmm⟩ : ∃ mm, (L.map (St.drop_ t.name)).length = mm := ⟨_, rfl⟩
       rw [hmm] at hown
       have HO := Lib.hid ((OwnV.of_own hown).down (show w.heap.size ≤ W1.heap.size by have := HS1.out; omega))
       obtain ⟨g, cap, rfl⟩ := ownV_slice (OwnV.of_own hown)
       obtain ⟨l1, l2⟩ := HO.out.caps
       have HMM2 := Lib.hid hmm
       clear hmm
       have HRU := Lib.hid hrun
       have HBZ := Lib.hid (below_up HB1.out hB)
       clear hown hrun hrow hB HRUN
       go_wp2_with (go_at_call 123; (with_reducible refine (clnM_clip _ _ _ _ l1 l2).mono ?_); rintro e wc ⟨rfl, rfl⟩)
       go_ret2
       rw [← HFE.out]
       exact evPost_of HGO.out rfl (by rw [HFE.out]; exact HRU.out.trans (by rw [St.run, List.append_nil])) HMM2.out rfl HO.out.clip HBZ.out
end Go.Proofs.YthdiccdnggloiaaGreatDoor

/- Parts of the proof, no condition: StEv3, StTnc, StHasPC, StMvc. -/
import Derived.Test.YthdiccdnggloiaaGreatDoorPl17
import Derived.Test.YthdiccdnggloiaaGreatDoorPl9
import Derived.Test.YthdiccdnggloiaaGreatDoorPl7
import Derived.Test.YthdiccdnggloiaaGreatDoorPl14
import Derived.Test.YthdiccdnggloiaaGreatDoorPl5
import Derived.Test.YthdiccdnggloiaaGreatDoorPl13
import Derived.Deep.RegionHeld3
set_option maxRecDepth 100000
set_option maxHeartbeats 16000000
set_option linter.unusedSimpArgs false
set_option linter.unusedVariables false
namespace Go.Proofs.YthdiccdnggloiaaGreatDoor
open Go.RowKit Go.Sort Go.Shelf Go.Maps
def EvRun (s : Sto) (t : Tir) (bytes : Int) (R : List Cop) (ok : Bool) : Prop := ∃ L f, St.Goers s t.name L ∧ St.run s.files bytes L (t.room - St.used s.files t.name s.copies) = (R, f) ∧ ok = decide (bytes ≤ f)
open Classical in
def VMap (w : World) (b : Nat) (N : List ByteArray) (fv : ByteArray → Value) : Prop :=
 ∃ D : DataW Value, w.ownsMap Tryz.prog 9 St.rdF b N.length D ∧ Tidy D ∧ ∀ (d : ByteArray) z, D.atKey (St.kl d) z = if d ∈ N then .held (fv d) else z
theorem VMap.lt {w : World} {b : Nat} {N : List ByteArray} {fv : ByteArray → Value} (h : VMap w b N fv) : b < w.heap.size := by
 obtain ⟨D, h1, _⟩ := h; exact h1.lt
theorem VMap.made (w : World) (fv : ByteArray → Value) : VMap (w.alloc (.map #[] 0)) w.heap.size [] fv :=
 ⟨.map [], World.ownsMap_made w _ _ _, (World.ownsMap_made w Tryz.prog 9 St.rdF).tidy (string_keyed Tryz.underlying9), fun d z => by simp [DataW.atKey]⟩
theorem VMap.kept {w w' : World} {b : Nat} {N : List ByteArray} {fv : ByteArray → Value} {row : Option Nat} (h : VMap w b N fv) (hg : w.grownBy w' row) (hne : some b ≠ row) : VMap w' b N fv := by
 obtain ⟨D, h1, h2, h3⟩ := h
 exact ⟨D, h1.kept hg hne, h2, h3⟩
theorem VMap.keep {w w' : World} {b : Nat} {N : List ByteArray} {fv : ByteArray → Value} (h : VMap w b N fv) (hb : Below w.heap.size w w') : VMap w' b N fv :=
 h.kept (row := none) ⟨hb.os, hb.tape, hb.output, hb.size, fun k hk _ => hb.block k hk⟩ (by simp)
open Classical in
noncomputable def fvPut (fv : ByteArray → Value) (n : ByteArray) (v : Value) : ByteArray → Value := fun d => if d = n then v else fv d
open Classical in
theorem VMap.put {w' : World} {b : Nat} {N : List ByteArray} {fv : ByteArray → Value} {n : ByteArray} {v : Value} {D : DataW Value} (h2 : Tidy D) (h3 : ∀ (d : ByteArray) z, D.atKey (St.kl d) z = if d ∈ N then .held (fv d) else z)
  (h4 : w'.ownsMap Tryz.prog 9 St.rdF b (N.length + 1) (D.put (St.kl n) (.held v))) : VMap w' b (N ++ [n]) (fvPut fv n v) := by
 refine ⟨_, by rw [List.length_append]; exact h4, h4.tidy (string_keyed Tryz.underlying9), fun d z => ?_⟩
 have hk : WideAt.IsKeyLit (St.kl n) := trivial
 unfold fvPut
 by_cases e : d = n
 ·subst e
  rw [atKey_put_same h2.isMap hk, if_pos (by simp), if_pos rfl]
 ·rw [atKey_put_other (St.kl_ne e), h3, if_neg e]
  by_cases hm : d ∈ N
  ·rw [if_pos hm, if_pos (List.mem_append_left _ hm)]
  ·rw [if_neg hm, if_neg (by simp [hm, e])]
theorem zeroMvs (w : World) : (zeroValue 41).run Tryz.prog w = .ok (.slice none 0 0) w := by kernel_rfl
theorem VMap.look {w : World} {b : Nat} {N : List ByteArray} {fv : ByteArray → Value} (h : VMap w b N fv) {d : ByteArray} (hd : d.size ≤ 9223372036854775807) (hm : d ∈ N) :
  (Instr.lookup 236 (.map (some b)) (.string d) false).run Tryz.prog w = .ok (fv d) w := by
 obtain ⟨D, h1, h2, h3⟩ := h
 obtain ⟨v, ps, hr, hv⟩ := h1.lookup (string_keyed Tryz.underlying9) Tryz.underlying236 (zeroMvs w) (zd := .held (.slice none 0 0)) (zp := []) rfl (keyS hd)
 rw [h3, if_pos hm] at hv
 rw [hr]
 unfold St.rdF at hv
 simp at hv
 rw [hv.1]
theorem OwnV.off {w w' : World} {B k n q : Nat} {e : TypeId} {v : Value} {xs : List Value} (h : OwnV w B e k v n xs) (hq : q < B) (hw : w.grownBy w' (some q)) : OwnV w' B e k v n xs := by
 rcases h with h | ⟨g0, cap, h, hc⟩
 ·exact .inl h
 ·refine .inr ⟨g0, cap, h, hc.of_block (hw.block g0 hc.lt.2 ?_)⟩
  intro e2
  have := hc.lt.1
  have := Option.some.inj e2
  omega
theorem own_off {w w' : World} {B k n q : Nat} {e : TypeId} {v : Value} {xs : List Value} (h : w.ownsRow B e k v n xs) (hq : q < B) (hw : w.grownBy w' (some q)) : w'.ownsRow B e k v n xs :=
 h.kept hw (.inr fun e2 => by have := (h.lt q e2).1; omega)
theorem evPost_at {s : Sto} {t : Tir} {b : Int} {w w' : World} {e : Ending} (h : EvPost s t b w e w') : ∃ g cap n, (St.evM s t b).length = n ∧ e = .returned (.tuple #[.slice g n cap, .bool (St.evOk s t b)]) ∧ OwnV w' w.heap.size 52 4 (.slice g n cap) n (St.eM.flat (St.evM s t b)) ∧ Below w.heap.size w w' := by
 obtain ⟨L, g, cap, hG, rfl, ho, hb⟩ := h
 have hR : St.evR s t b = St.run s.files b L (t.room - St.used s.files t.name s.copies) := by unfold St.evR; rw [St.goersL_of hG]
 unfold St.evM St.evOk
 rw [hR]
 exact ⟨g, cap, _, by rw [List.length_map], rfl, ho, hb⟩
def MvRow (w : World) (B : Nat) (v : Value) (M : List Mov) : Prop := OwnV w B 52 4 v M.length (St.eM.flat M)
def TgPost (w : World) (R : Option Tir) (M : Tir → List Mov) (e : Ending) (w' : World) : Prop := Below w.heap.size w w' ∧
 match R with
 | none => e = .returned (.tuple #[.agg #[.string ⟨#[]⟩, .int .i64 0, .int .i64 0, .bool false], .slice none 0 0, .bool false])
 | some t => ∃ v, MvRow w' w.heap.size v (M t) ∧ e = .returned (.tuple #[.agg #[.string t.name, .int .i64 t.room, .int .i64 t.cost, .bool t.away], v, .bool true])
namespace St
theorem names_one {s : Sto} (r : Right s) {t u : Tir} (ht : t ∈ s.tiers) (hu : u ∈ s.tiers) (h : t.name = u.name) : t = u := by
 have hn := names_nodup r
 have : ∀ {L : List Tir}, (L.map (·.name)).Nodup → t ∈ L → u ∈ L → t = u := by
  intro L
  induction L with
  | nil => intro _ h; cases h
  | cons y L ih =>
    intro hn ht hu
    rw [List.map_cons, List.nodup_cons] at hn
    rcases List.mem_cons.1 ht with h1 | h1 <;> rcases List.mem_cons.1 hu with h2 | h2
    ·rw [h1, h2]
    ·exact absurd (List.mem_map.2 ⟨u, h2, by rw [← h, h1]⟩) hn.1
    ·exact absurd (List.mem_map.2 ⟨t, h1, by rw [h, h2]⟩) hn.1
    ·exact ih hn.2 h1 h2
 exact this hn ht hu
end St
theorem rows_put {w : World} {B : Nat} {s : Sto} {b : Int} {K : List Tir} {fv : ByteArray → Value} {x : Tir} {v : Value} (r : St.Right s) (hK : ∀ t ∈ K, t ∈ s.tiers) (hx : x ∈ s.tiers) (h : ∀ t ∈ K, MvRow w B (fv t.name) (St.evM s t b)) (hv : MvRow w B v (St.evM s x b)) :
  ∀ t ∈ K ++ [x], MvRow w B (fvPut fv x.name v t.name) (St.evM s t b) := by
 intro t ht
 unfold fvPut
 by_cases e : t.name = x.name
 ·rw [if_pos e]
  have htm : t ∈ s.tiers := by
   rcases List.mem_append.1 ht with h | h
   ·exact hK t h
   ·rw [List.mem_singleton.1 h]; exact hx
  rw [St.names_one r htm hx e]
  exact hv
 ·rw [if_neg e]
  rcases List.mem_append.1 ht with h1 | h1
  ·exact h t h1
  ·exact absurd (by rw [List.mem_singleton.1 h1]) e
theorem hasC_is (L : List Cop) (hu : St.Up St.ckey L) (hz : ∀ x ∈ L, x.dig.size ≤ 100 ∧ x.tier.size ≤ 100) (h1m : L.length ≤ 1000000) (k : ByteArray) (a : Option Addr) (ca : Nat) (w : World) (hl : L.length ≤ ca ∧ ca ≤ 9223372036854775807) (hr : RowE St.eC w a L) :
  Calls Tryz.prog 133 #[.agg #[.func (.func 144) #[] #[], .slice a L.length ca], .string k] w fun e w' => e = .returned (.bool (St.hasK St.ckey L k)) ∧ Below w.heap.size w w' := by
 obtain ⟨W1, hW1, hP, hz1, hB1⟩ := box w #[.func (.func 144) #[] #[], .slice a L.length ca] 97
 have HW1 := Lib.hid hW1; have HB1 := Lib.hid hB1
 have r0 : W1.cell? ⟨w.heap.size, 0, none⟩ = some (.func (.func 144) #[] #[]) := (hP.cell 0).trans rfl
 have r1 : W1.cell? ⟨w.heap.size, 1, none⟩ = some (.slice a L.length ca) := (hP.cell 1).trans rfl
 have HC := Lib.hid (placeC_is L hu hz h1m k a ca W1 hl (hr.keep hB1))
 clear hW1 hP hz1 hB1 hr
 go_enter Tryz.func133, Tryz.ntmps133
 go_wp2_with fail
 rw [HW1.out]
 go_wp2_with (go_at_call 55; (with_reducible refine HC.out.mono ?_); rintro e w4 ⟨rfl, hB4⟩)
 go_ret
 exact ⟨rfl, below_up HB1.out hB4⟩
theorem copyKey_big (d t : ByteArray) (hd : d.size ≤ 1048576) (ht : t.size ≤ 1048576) (w : World) : Calls Tryz.prog 56 #[.string d, .string t] w fun e w' => e = .returned (.string (St.key d t)) ∧ w = w' := by
 go_enter Tryz.func56, Tryz.ntmps56
 go_wp2_with fail
 go_ret
 exact ⟨rfl, rfl⟩
theorem eq_empty (d : ByteArray) : St.eq d ⟨#[]⟩ = d.toList.isEmpty := by
 have h : (⟨#[]⟩ : ByteArray).toList = [] := by rw [ByteArray.toList_eq]
 unfold St.eq
 rw [h]
 cases d.toList <;> rfl
theorem checkMove_is (s : Sto) (a : StA) (mb : Nat) (m : Mov) (w : World) (hI : StIn w s a) (hM : FMap w mb s.files) (r : St.Right s) (hz : m.dig.size ≤ 1048576 ∧ m.frm.size ≤ 1048576 ∧ m.dst.size ≤ 1048576) :
  Calls Tryz.prog 124 #[.agg #[.int .i64 s.least, .int .i64 s.wait, .slice a.ta s.tiers.length a.tc, .slice a.fa s.files.length a.fc, .slice a.ca s.copies.length a.cc, .slice a.ha s.held.length a.hc, .slice a.ba s.bin.length a.bc, .map (some mb)], .agg #[.int .i64 m.kind, .string m.dig, .string m.frm, .string m.dst]] w fun e w' => e = .returned (.int .i64 (St.mvE s m)) ∧ Below w.heap.size w w' := by
 obtain ⟨W1, hW1, hP, hz1, hB1⟩ := box w #[.int .i64 s.least, .int .i64 s.wait, .slice a.ta s.tiers.length a.tc, .slice a.fa s.files.length a.fc, .slice a.ca s.copies.length a.cc, .slice a.ha s.held.length a.hc, .slice a.ba s.bin.length a.bc, .map (some mb)] 135
 obtain ⟨W2, hW2, hX, hz2, hB2⟩ := box W1 #[.int .i64 m.kind, .string m.dig, .string m.frm, .string m.dst] 52
 rw [hz1] at hX
 have HW1 := Lib.hid hW1; have HW2 := Lib.hid hW2
 have HBB := Lib.hid (below_up hB1 hB2)
 have hP := hP.keep hB2
 have HI2 := Lib.hid (hI.keep HBB.out)
 have HM2 := Lib.hid (hM.keep HBB.out)
 obtain ⟨_, y1, y2, y3, y4, y5⟩ := St.sizes_iff.1 r.sizes
 obtain ⟨kd, hkd⟩ : ∃ kd, m.kind = kd := ⟨_, rfl⟩
 obtain ⟨hc, hhc⟩ : ∃ hc, St.hasCopy s m.dig m.frm = hc := ⟨_, rfl⟩
 obtain ⟨de, hde⟩ : ∃ de, St.eq m.dst ⟨#[]⟩ = de := ⟨_, rfl⟩
 obtain ⟨nd, hnd⟩ : ∃ nd, St.neededD s m.dig = nd := ⟨_, rfl⟩
 obtain ⟨gd, hgd⟩ : ∃ gd, St.goodAt s m.dig m.frm = gd := ⟨_, rfl⟩
 obtain ⟨gl, hgl⟩ : ∃ gl, (St.goodL s m.dig).length = gl := ⟨_, rfl⟩
 obtain ⟨h2, hh2⟩ : ∃ h2, St.hasCopy s m.dig m.dst = h2 := ⟨_, rfl⟩
 obtain ⟨tn, htn⟩ : ∃ tn, St.tierAt s.tiers m.dst = tn := ⟨_, rfl⟩
 have HE : Hid (St.mvE s m = if kd ≠ 1 ∧ kd ≠ 2 then 10 else if hc = false then 7 else if kd = 2 then (if de = false then 1 else if nd = true ∧ gd = true ∧ gl = 1 then 14 else 0)
  else if decide (0 ≤ tn) = false then 7 else if h2 = true then 6 else if gd = false then 11 else if St.freeIn s m.dst < St.sizeOf s.files m.dig then 12 else 0) := Lib.hid (by
  rw [← hkd, ← hhc, ← hde, ← hnd, ← hgd, ← hgl, ← hh2, ← htn, ← St.hasTier_idx]; rfl)
 have HCP : Hid (hc = true → ∃ c, s.copies[St.pos St.ckey (St.key m.dig m.frm) s.copies]? = some c ∧ c.good = gd) := Lib.hid fun h => by
  obtain ⟨c, h1, _, _, h4, _⟩ := St.copy_pos r (hhc.trans h)
  exact ⟨c, h1, h4.symm.trans hgd⟩
 have H16 : Hid (hc = true → m.dig.size = 16) := Lib.hid fun h => St.has16 r (hhc.trans h)
 have HTG : Hid (0 ≤ tn → ∃ (k : Nat) (x : Tir), tn = (k : Int) ∧ s.tiers[k]? = some x ∧ x.name = m.dst ∧ (0 ≤ x.room ∧ x.room ≤ 1000000000000) ∧ St.freeIn s m.dst = x.room - St.used s.files x.name s.copies) := Lib.hid fun h => by
  rw [← htn] at h
  obtain ⟨k, x, hk, hka, hx⟩ := St.tier_get h
  exact ⟨k, x, htn.symm.trans hka, hk, hx, (St.tier_good r (List.mem_of_getElem? hk)).2.1, by unfold St.freeIn; rw [St.room_get hk hka, hx]⟩
 have hkp : (St.hasK St.ckey s.copies (St.key m.dig m.frm)) = hc := by rw [← St.hasCopy_any r]; exact hhc
 have hkt : (St.hasK St.ckey s.copies (St.key m.dig m.dst)) = h2 := by rw [← St.hasCopy_any r]; exact hh2
 have hde2 : m.dst.toList.isEmpty = de := by rw [← eq_empty]; exact hde
 have hcz : ∀ x ∈ s.copies, x.dig.size ≤ 100 ∧ x.tier.size ≤ 100 := fun x hx => by have := St.cop_good r hx; omega
 have HCR := Lib.hid (fun V => copiesRow_is s a V)
 have HKF := Lib.hid (fun V => copyKey_big m.dig m.frm hz.1 hz.2.1 V)
 have HKT := Lib.hid (fun V => copyKey_big m.dig m.dst hz.1 hz.2.2 V)
 have HPL := Lib.hid (fun V (hv : Below W2.heap.size W2 V) => placeC_is s.copies (St.cop_up r) hcz (by omega) (St.key m.dig m.frm) a.ca a.cc V (HI2.out.keep hv).cl (HI2.out.keep hv).co)
 have HHS := Lib.hid (fun V (hv : Below W2.heap.size W2 V) => hasC_is s.copies (St.cop_up r) hcz (by omega) (St.key m.dig m.dst) a.ca a.cc V (HI2.out.keep hv).cl (HI2.out.keep hv).co)
 have HND := Lib.hid (fun V (hv : Below W2.heap.size W2 V) => needed_is s a mb m.dig V (HI2.out.keep hv) (HM2.out.keep hv) r (by omega))
 have HGO := Lib.hid (fun V (hv : Below W2.heap.size W2 V) (h16 : m.dig.size = 16) => good_is s a mb m.dig V (HI2.out.keep hv) r h16)
 unfold TirPost at HGO
 have HTA := Lib.hid (fun V (hv : Below W2.heap.size W2 V) => tierAt_is s a m.dst V (HI2.out.keep hv))
 have HFR := Lib.hid (fun x V (hv : Below W2.heap.size W2 V) (hr : 0 ≤ x.room ∧ x.room ≤ 1000000000000) => free_is s a x mb V (HI2.out.keep hv) (HM2.out.keep hv) r.fup (St.szs_of (F := s.files) (fun f hf => (r.dig f hf).2)) y3 hr)
 have HLK := Lib.hid (fun V (hv : Below W2.heap.size W2 V) => (HM2.out.keep hv).look (d := m.dig) (by omega))
 obtain ⟨f, hf⟩ : ∃ f, (St.lastOf s.files m.dig).getD St.zeroF = f := ⟨_, rfl⟩
 rw [hf] at HLK
 have HSZ : Hid (f.size = St.sizeOf s.files m.dig) := Lib.hid (by rw [← hf, St.lastOf_up r.fup]; exact St.filD_size _ _)
 unfold St.fval at HLK
 rw [hkp] at HPL
 rw [hkt] at HHS
 rw [hnd] at HND
 rw [hgl] at HGO
 rw [htn] at HTA
 rw [hkd] at hW2 hX ⊢
 have HW2 := Lib.hid hW2
 have hfs := fldSize f.dig f.frm f.size f.kind
 generalize St.pos St.ckey (St.key m.dig m.frm) s.copies = p at *
 have HCL : Hid (∀ W, Below W2.heap.size W2 W → (W.cell? ⟨w.heap.size, 0, none⟩ = some (.int .i64 s.least) ∧ W.cell? ⟨w.heap.size, 1, none⟩ = some (.int .i64 s.wait) ∧ W.cell? ⟨w.heap.size, 2, none⟩ = some (.slice a.ta s.tiers.length a.tc) ∧ W.cell? ⟨w.heap.size, 3, none⟩ = some (.slice a.fa s.files.length a.fc) ∧ W.cell? ⟨w.heap.size, 4, none⟩ = some (.slice a.ca s.copies.length a.cc) ∧ W.cell? ⟨w.heap.size, 5, none⟩ = some (.slice a.ha s.held.length a.hc) ∧ W.cell? ⟨w.heap.size, 6, none⟩ = some (.slice a.ba s.bin.length a.bc) ∧ W.cell? ⟨w.heap.size, 7, none⟩ = some (.map (some mb))) ∧ W.cell? ⟨w.heap.size + 1, 0, none⟩ = some (.int .i64 kd) ∧ W.cell? ⟨w.heap.size + 1, 1, none⟩ = some (.string m.dig) ∧ W.cell? ⟨w.heap.size + 1, 2, none⟩ = some (.string m.frm) ∧ W.cell? ⟨w.heap.size + 1, 3, none⟩ = some (.string m.dst)) := Lib.hid fun W hv => ⟨(hP.keep hv).eight, (hX.keep hv).four⟩
 have HY3 := Lib.hid y3
 clear hI hM r hz hW1 hP hz1 hB1 hW2 hX hz2 hB2 hkd hhc hde hnd hgd hgl hh2 htn hkp hkt hcz y1 y2 y3 y4 y5 hf
 go_enter Tryz.func124, Tryz.ntmps124
 go_upto_region 1 with fail
 rw [HW1.out, HW2.out]
 have hv : Below W2.heap.size W2 W2.drew := (Below.refl _ _).drew
 obtain ⟨⟨p0, p1, p2, p3, p4, p5, p6, p7⟩, m0, m1, m2, m3⟩ := HCL.out _ hv
 go_region_held3 (fun W => (W.cell? ⟨w.heap.size, 0, none⟩ = some (.int .i64 s.least) ∧ W.cell? ⟨w.heap.size, 1, none⟩ = some (.int .i64 s.wait) ∧ W.cell? ⟨w.heap.size, 2, none⟩ = some (.slice a.ta s.tiers.length a.tc) ∧ W.cell? ⟨w.heap.size, 3, none⟩ = some (.slice a.fa s.files.length a.fc) ∧ W.cell? ⟨w.heap.size, 4, none⟩ = some (.slice a.ca s.copies.length a.cc) ∧ W.cell? ⟨w.heap.size, 5, none⟩ = some (.slice a.ha s.held.length a.hc) ∧ W.cell? ⟨w.heap.size, 6, none⟩ = some (.slice a.ba s.bin.length a.bc) ∧ W.cell? ⟨w.heap.size, 7, none⟩ = some (.map (some mb))) ∧ W.cell? ⟨w.heap.size + 1, 0, none⟩ = some (.int .i64 kd) ∧ W.cell? ⟨w.heap.size + 1, 1, none⟩ = some (.string m.dig) ∧ W.cell? ⟨w.heap.size + 1, 2, none⟩ = some (.string m.frm) ∧ W.cell? ⟨w.heap.size + 1, 3, none⟩ = some (.string m.dst))
  (first | (with_reducible exact ⟨⟨p0, p1, p2, p3, p4, p5, p6, p7⟩, m0, m1, m2, m3⟩) | go_keep)
  (first
   | (go_at_call 54; (with_reducible refine (HCR.out _).mono ?_); rintro e wa ⟨rfl, hq⟩; have hv := below_up hv hq; obtain ⟨⟨p0, p1, p2, p3, p4, p5, p6, p7⟩, m0, m1, m2, m3⟩ := HCL.out _ hv)
   | (go_at_call 56; (with_reducible refine (HKF.out _).mono ?_); rintro e wb ⟨rfl, rfl⟩)
   | (go_at_call 55; (with_reducible refine (HPL.out _ hv).mono ?_); rintro e wc ⟨rfl, hq⟩; have hv := below_up hv hq; obtain ⟨⟨p0, p1, p2, p3, p4, p5, p6, p7⟩, m0, m1, m2, m3⟩ := HCL.out _ hv)
   | fail)
 rename_i hHeld
 clear hHeld
 by_cases hk12 : kd ≠ 1 ∧ kd ≠ 2
 ·have hk1 : (kd != 1) = true := by simpa using hk12.1
  have hk2 : (kd != 2) = true := by simpa using hk12.2
  have HBZ := Lib.hid (below_up HBB.out hv)
  go_wp2_with fail
  go_ret
  exact ⟨ret_int (by rw [HE.out]; exact (if_pos hk12).symm), HBZ.out⟩
 ·by_cases hk2 : kd = 2
  ·subst hk2
   cases hc with
   | false =>
     have HBZ := Lib.hid (below_up HBB.out hv)
     go_wp2_with fail
     go_ret
     exact ⟨ret_int (by rw [HE.out]; rfl), HBZ.out⟩
   | true =>
     have h16 := H16.out (by first | rfl | trivial)
     obtain ⟨c, hcp, hcg⟩ := HCP.out (by first | rfl | trivial)
     cases de with
     | false =>
       have HBZ := Lib.hid (below_up HBB.out hv)
       go_wp2_with fail
       go_ret
       exact ⟨ret_int (by rw [HE.out]; rfl), HBZ.out⟩
     | true =>
       have HC := Lib.hid hcp
       have hpl := (List.getElem?_eq_some_iff.1 hcp).1
       obtain ⟨bb, off, ha, hb, hcell⟩ := HI2.out.co (by omega)
       have HC2 : Hid (∀ V, Below W2.heap.size W2 V → V.cell? ⟨bb, off + p * 4 + 2, none⟩ = some (.bool gd)) := Lib.hid fun V hv => (hv.cell (p := ⟨bb, off + p * 4 + 2, none⟩) hb).trans (by rw [← hcg]; exact hcell p c hcp 2 (.bool c.good) rfl)
       have hp0 : (0 : Int) ≤ (p : Int) := by omega
       have hp1 : (p : Int) < (s.copies.length : Int) := by omega
       have hp4 := HY3.out
       rw [ha] at p4 HND HGO HCL
       clear hcp hcg hb hcell ha
       cases nd with
       | false =>
         go_wp2_with (go_at_call 171; (with_reducible refine (HND.out _ hv).mono ?_); rintro e wd ⟨rfl, hq⟩; have hv := below_up hv hq; obtain ⟨⟨p0, p1, p2, p3, p4, p5, p6, p7⟩, m0, m1, m2, m3⟩ := HCL.out _ hv)
         have HBZ := Lib.hid (below_up HBB.out hv)
         go_ret
         exact ⟨ret_int (by rw [HE.out]; rfl), HBZ.out⟩
       | true =>
         cases gd with
         | false =>
           go_wp2_with (go_at_call 171; (with_reducible refine (HND.out _ hv).mono ?_); rintro e wd ⟨rfl, hq⟩; have hv := below_up hv hq; obtain ⟨⟨p0, p1, p2, p3, p4, p5, p6, p7⟩, m0, m1, m2, m3⟩ := HCL.out _ hv; have c2 := HC2.out _ hv)
           have HBZ := Lib.hid (below_up HBB.out hv)
           go_ret
           exact ⟨ret_int (by rw [HE.out]; rfl), HBZ.out⟩
         | true =>
           have HG := Lib.hid (fun V hv => HGO.out V hv h16)
           by_cases hg1 : gl = 1
           ·subst hg1
            go_wp2_with (first
             | (go_at_call 171; (with_reducible refine (HND.out _ hv).mono ?_); rintro e wd ⟨rfl, hq⟩; have hv := below_up hv hq; obtain ⟨⟨p0, p1, p2, p3, p4, p5, p6, p7⟩, m0, m1, m2, m3⟩ := HCL.out _ hv; have c2 := HC2.out _ hv)
             | (go_at_call 103; (with_reducible refine (HG.out _ hv).mono ?_); rintro e we ⟨g, cap, rfl, ho, hq⟩; have hv := below_up hv hq; obtain ⟨⟨p0, p1, p2, p3, p4, p5, p6, p7⟩, m0, m1, m2, m3⟩ := HCL.out _ hv))
            have HBZ := Lib.hid (below_up HBB.out hv)
            go_ret
            exact ⟨ret_int (by rw [HE.out]; rfl), HBZ.out⟩
           ·have hg2 : ((gl : Int) == 1) = false := by rw [beq_eq_false_iff_ne]; omega
            have hg3 : ¬ ((gl : Int) = 1) := by omega
            go_wp2_with (first
             | (go_at_call 171; (with_reducible refine (HND.out _ hv).mono ?_); rintro e wd ⟨rfl, hq⟩; have hv := below_up hv hq; obtain ⟨⟨p0, p1, p2, p3, p4, p5, p6, p7⟩, m0, m1, m2, m3⟩ := HCL.out _ hv; have c2 := HC2.out _ hv)
             | (go_at_call 103; (with_reducible refine (HG.out _ hv).mono ?_); rintro e we ⟨g, cap, rfl, ho, hq⟩; have hv := below_up hv hq; obtain ⟨⟨p0, p1, p2, p3, p4, p5, p6, p7⟩, m0, m1, m2, m3⟩ := HCL.out _ hv))
            have HBZ := Lib.hid (below_up HBB.out hv)
            go_ret
            exact ⟨ret_int (by rw [HE.out]; simp [hg1]), HBZ.out⟩
  ·obtain rfl : kd = 1 := by omega
   cases hc with
   | false =>
     have HBZ := Lib.hid (below_up HBB.out hv)
     go_wp2_with fail
     go_ret
     exact ⟨ret_int (by rw [HE.out]; rfl), HBZ.out⟩
   | true =>
     have h16 := H16.out (by first | rfl | trivial)
     obtain ⟨c, hcp, hcg⟩ := HCP.out (by first | rfl | trivial)
     go_upto_region 13 with (go_at_call 91; (with_reducible refine (HTA.out _ hv).mono ?_); rintro e wd ⟨rfl, hq⟩; have hv := below_up hv hq; obtain ⟨⟨p0, p1, p2, p3, p4, p5, p6, p7⟩, m0, m1, m2, m3⟩ := HCL.out _ hv)
     by_cases ht : tn < 0
     ·have ht1 : decide (tn < 0) = true := decide_eq_true ht
      have ht2 : decide (0 ≤ tn) = false := decide_eq_false (by omega)
      have HBZ := Lib.hid (below_up HBB.out hv)
      go_wp2_with fail
      go_ret
      exact ⟨ret_int (by rw [HE.out]; rw [ht2]; rfl), HBZ.out⟩
     ·have ht1 : decide (tn < 0) = false := decide_eq_false ht
      have ht2 : decide (0 ≤ tn) = true := decide_eq_true (by omega)
      obtain ⟨k, x, htk, hkx, hxn, hxr, hfi⟩ := HTG.out (by omega)
      have HE2 : Hid (St.mvE s m = if h2 = true then 6 else if gd = false then 11 else if x.room - St.used s.files x.name s.copies < f.size then 12 else 0) := Lib.hid (by rw [HE.out, ht2, hfi, HSZ.out]; rfl)
      clear HE
      have HE := HE2
      clear HE2
      have HF := Lib.hid (fun V hv => HFR.out x V hv hxr)
      clear hxn hfi hxr
      generalize x.room - St.used s.files x.name s.copies = fq at *
      go_upto_region 15 with fail
      have hv := hv.drew
      clear p0 p1 p2 p3 p4 p5 p6 p7 m0 m1 m2 m3
      obtain ⟨⟨p0, p1, p2, p3, p4, p5, p6, p7⟩, m0, m1, m2, m3⟩ := HCL.out _ hv
      go_region_held3 (fun W => (W.cell? ⟨w.heap.size, 0, none⟩ = some (.int .i64 s.least) ∧ W.cell? ⟨w.heap.size, 1, none⟩ = some (.int .i64 s.wait) ∧ W.cell? ⟨w.heap.size, 2, none⟩ = some (.slice a.ta s.tiers.length a.tc) ∧ W.cell? ⟨w.heap.size, 3, none⟩ = some (.slice a.fa s.files.length a.fc) ∧ W.cell? ⟨w.heap.size, 4, none⟩ = some (.slice a.ca s.copies.length a.cc) ∧ W.cell? ⟨w.heap.size, 5, none⟩ = some (.slice a.ha s.held.length a.hc) ∧ W.cell? ⟨w.heap.size, 6, none⟩ = some (.slice a.ba s.bin.length a.bc) ∧ W.cell? ⟨w.heap.size, 7, none⟩ = some (.map (some mb))) ∧ W.cell? ⟨w.heap.size + 1, 0, none⟩ = some (.int .i64 1) ∧ W.cell? ⟨w.heap.size + 1, 1, none⟩ = some (.string m.dig) ∧ W.cell? ⟨w.heap.size + 1, 2, none⟩ = some (.string m.frm) ∧ W.cell? ⟨w.heap.size + 1, 3, none⟩ = some (.string m.dst))
       (first | (with_reducible exact ⟨⟨p0, p1, p2, p3, p4, p5, p6, p7⟩, m0, m1, m2, m3⟩) | go_keep)
       (first
        | (go_at_call 54; (with_reducible refine (HCR.out _).mono ?_); rintro e wa ⟨rfl, hq⟩; have hv := below_up hv hq; obtain ⟨⟨p0, p1, p2, p3, p4, p5, p6, p7⟩, m0, m1, m2, m3⟩ := HCL.out _ hv)
        | (go_at_call 56; (with_reducible refine (HKT.out _).mono ?_); rintro e wb ⟨rfl, rfl⟩)
        | (go_at_call 133; (with_reducible refine (HHS.out _ hv).mono ?_); rintro e wc ⟨rfl, hq⟩; have hv := below_up hv hq; obtain ⟨⟨p0, p1, p2, p3, p4, p5, p6, p7⟩, m0, m1, m2, m3⟩ := HCL.out _ hv)
        | fail)
      rename_i hHeld
      clear hHeld
      cases h2 with
      | true =>
        have HBZ := Lib.hid (below_up HBB.out hv)
        go_wp2_with fail
        go_ret
        exact ⟨ret_int (by rw [HE.out]; rfl), HBZ.out⟩
      | false =>
        have HC := Lib.hid hcp
        have hpl := (List.getElem?_eq_some_iff.1 hcp).1
        have hkl := (List.getElem?_eq_some_iff.1 hkx).1
        obtain ⟨bb, off, ha, hb, hcell⟩ := HI2.out.co (by omega)
        obtain ⟨tb, tof, hta, htb, htcell⟩ := HI2.out.ti (by omega)
        have c2 : wc.cell? ⟨bb, off + p * 4 + 2, none⟩ = some (.bool gd) := (hv.cell (p := ⟨bb, off + p * 4 + 2, none⟩) hb).trans (by rw [← hcg]; exact hcell p c hcp 2 (.bool c.good) rfl)
        have HT4 : Hid (∀ V, Below W2.heap.size W2 V → V.cell? ⟨tb, tof + k * 4, none⟩ = some (.string x.name) ∧ V.cell? ⟨tb, tof + k * 4 + 1, none⟩ = some (.int .i64 x.room) ∧ V.cell? ⟨tb, tof + k * 4 + 2, none⟩ = some (.int .i64 x.cost) ∧ V.cell? ⟨tb, tof + k * 4 + 3, none⟩ = some (.bool x.away)) := Lib.hid fun V hv =>
         ⟨(hv.cell (p := ⟨tb, tof + k * 4, none⟩) htb).trans (htcell k x hkx 0 (.string x.name) rfl), (hv.cell (p := ⟨tb, tof + k * 4 + 1, none⟩) htb).trans (htcell k x hkx 1 (.int .i64 x.room) rfl), (hv.cell (p := ⟨tb, tof + k * 4 + 2, none⟩) htb).trans (htcell k x hkx 2 (.int .i64 x.cost) rfl), (hv.cell (p := ⟨tb, tof + k * 4 + 3, none⟩) htb).trans (htcell k x hkx 3 (.bool x.away) rfl)⟩
        have hp0 : (0 : Int) ≤ (p : Int) := by omega
        have hp1 : (p : Int) < (s.copies.length : Int) := by omega
        have hp4 := HY3.out
        have hk0 : (0 : Int) ≤ (k : Int) := by omega
        have hk1' : (k : Int) < (s.tiers.length : Int) := by omega
        rw [ha] at p4
        rw [ha] at HF
        rw [ha] at HCL
        clear hcp hcg hb hcell ha htb htcell hkx
        cases gd with
        | false =>
          have HBZ := Lib.hid (below_up HBB.out hv)
          go_wp2_with fail
          go_ret
          exact ⟨ret_int (by rw [HE.out]; rfl), HBZ.out⟩
        | true =>
          subst htk
          go_upto_region 19 with fail
          have hv := hv.drew
          rw [hta] at HF
          rw [hta] at HCL
          clear p0 p1 p2 p3 p4 p5 p6 p7 m0 m1 m2 m3 c2
          obtain ⟨⟨p0, p1, p2, p3, p4, p5, p6, p7⟩, m0, m1, m2, m3⟩ := HCL.out _ hv
          obtain ⟨t0, t1, t2, t3⟩ := HT4.out _ hv
          have hl := HLK.out _ hv
          by_cases hfq : fq < f.size
          ·have HFQ := Lib.hid hfq
           have hf1 : decide (fq < f.size) = true := decide_eq_true hfq
           have hf2 : (fq < f.size) = True := eq_true hfq
           go_region_held3 (fun W => ((W.cell? ⟨w.heap.size, 0, none⟩ = some (.int .i64 s.least) ∧ W.cell? ⟨w.heap.size, 1, none⟩ = some (.int .i64 s.wait) ∧ W.cell? ⟨w.heap.size, 2, none⟩ = some (.slice (some ⟨tb, tof, none⟩) s.tiers.length a.tc) ∧ W.cell? ⟨w.heap.size, 3, none⟩ = some (.slice a.fa s.files.length a.fc) ∧ W.cell? ⟨w.heap.size, 4, none⟩ = some (.slice (some ⟨bb, off, none⟩) s.copies.length a.cc) ∧ W.cell? ⟨w.heap.size, 5, none⟩ = some (.slice a.ha s.held.length a.hc) ∧ W.cell? ⟨w.heap.size, 6, none⟩ = some (.slice a.ba s.bin.length a.bc) ∧ W.cell? ⟨w.heap.size, 7, none⟩ = some (.map (some mb))) ∧ W.cell? ⟨w.heap.size + 1, 0, none⟩ = some (.int .i64 1) ∧ W.cell? ⟨w.heap.size + 1, 1, none⟩ = some (.string m.dig) ∧ W.cell? ⟨w.heap.size + 1, 2, none⟩ = some (.string m.frm) ∧ W.cell? ⟨w.heap.size + 1, 3, none⟩ = some (.string m.dst)) ∧ (W.cell? ⟨tb, tof + k * 4, none⟩ = some (.string x.name) ∧ W.cell? ⟨tb, tof + k * 4 + 1, none⟩ = some (.int .i64 x.room) ∧ W.cell? ⟨tb, tof + k * 4 + 2, none⟩ = some (.int .i64 x.cost) ∧ W.cell? ⟨tb, tof + k * 4 + 3, none⟩ = some (.bool x.away)) ∧ (Instr.lookup 133 (.map (some mb)) (.string m.dig) false).run Tryz.prog W = .ok (.agg #[.string f.dig, .int .i64 f.size, .int .i64 f.kind, .string f.frm]) W)
            (first | (with_reducible exact ⟨⟨⟨p0, p1, p2, p3, p4, p5, p6, p7⟩, m0, m1, m2, m3⟩, ⟨t0, t1, t2, t3⟩, hl⟩))
            (first
             | (go_at_call 97; (with_reducible refine (HF.out _ hv).mono ?_); rintro e we ⟨rfl, hq⟩; have hv := below_up hv hq; obtain ⟨⟨p0, p1, p2, p3, p4, p5, p6, p7⟩, m0, m1, m2, m3⟩ := HCL.out _ hv; obtain ⟨t0, t1, t2, t3⟩ := HT4.out _ hv; have hl := HLK.out _ hv)
             | fail)
           all_goals
            rename_i hHeld
            clear hHeld
            have HBZ := Lib.hid (below_up HBB.out hv)
            go_wp2_with fail
            go_ret
            exact ⟨ret_int (by rw [HE.out]; exact (if_pos (by have := HFQ.out; omega)).symm), HBZ.out⟩
          ·have HFQ := Lib.hid hfq
           have hf1 : decide (fq < f.size) = false := decide_eq_false hfq
           have hf2 : (fq < f.size) = False := eq_false hfq
           go_region_held3 (fun W => ((W.cell? ⟨w.heap.size, 0, none⟩ = some (.int .i64 s.least) ∧ W.cell? ⟨w.heap.size, 1, none⟩ = some (.int .i64 s.wait) ∧ W.cell? ⟨w.heap.size, 2, none⟩ = some (.slice (some ⟨tb, tof, none⟩) s.tiers.length a.tc) ∧ W.cell? ⟨w.heap.size, 3, none⟩ = some (.slice a.fa s.files.length a.fc) ∧ W.cell? ⟨w.heap.size, 4, none⟩ = some (.slice (some ⟨bb, off, none⟩) s.copies.length a.cc) ∧ W.cell? ⟨w.heap.size, 5, none⟩ = some (.slice a.ha s.held.length a.hc) ∧ W.cell? ⟨w.heap.size, 6, none⟩ = some (.slice a.ba s.bin.length a.bc) ∧ W.cell? ⟨w.heap.size, 7, none⟩ = some (.map (some mb))) ∧ W.cell? ⟨w.heap.size + 1, 0, none⟩ = some (.int .i64 1) ∧ W.cell? ⟨w.heap.size + 1, 1, none⟩ = some (.string m.dig) ∧ W.cell? ⟨w.heap.size + 1, 2, none⟩ = some (.string m.frm) ∧ W.cell? ⟨w.heap.size + 1, 3, none⟩ = some (.string m.dst)) ∧ (W.cell? ⟨tb, tof + k * 4, none⟩ = some (.string x.name) ∧ W.cell? ⟨tb, tof + k * 4 + 1, none⟩ = some (.int .i64 x.room) ∧ W.cell? ⟨tb, tof + k * 4 + 2, none⟩ = some (.int .i64 x.cost) ∧ W.cell? ⟨tb, tof + k * 4 + 3, none⟩ = some (.bool x.away)) ∧ (Instr.lookup 133 (.map (some mb)) (.string m.dig) false).run Tryz.prog W = .ok (.agg #[.string f.dig, .int .i64 f.size, .int .i64 f.kind, .string f.frm]) W)
            (first | (with_reducible exact ⟨⟨⟨p0, p1, p2, p3, p4, p5, p6, p7⟩, m0, m1, m2, m3⟩, ⟨t0, t1, t2, t3⟩, hl⟩))
            (first
             | (go_at_call 97; (with_reducible refine (HF.out _ hv).mono ?_); rintro e we ⟨rfl, hq⟩; have hv := below_up hv hq; obtain ⟨⟨p0, p1, p2, p3, p4, p5, p6, p7⟩, m0, m1, m2, m3⟩ := HCL.out _ hv; obtain ⟨t0, t1, t2, t3⟩ := HT4.out _ hv; have hl := HLK.out _ hv)
             | fail)
           all_goals
            rename_i hHeld
            clear hHeld
            have HBZ := Lib.hid (below_up HBB.out hv)
            go_wp2_with fail
            go_ret
            exact ⟨ret_int (by rw [HE.out]; exact (if_neg (by have := HFQ.out; omega)).symm), HBZ.out⟩
end Go.Proofs.YthdiccdnggloiaaGreatDoor

/- Parts of the proof, no condition: StTnh, StTni, StTnj, StTnk. -/
import Derived.Test.YthdiccdnggloiaaGreatDoorSf12
import Derived.Test.YthdiccdnggloiaaGreatDoorSf21
import Derived.Test.YthdiccdnggloiaaGreatDoorSf16
set_option maxRecDepth 100000
set_option maxHeartbeats 4000000
set_option linter.unusedSimpArgs false
set_option linter.unusedVariables false
namespace Go.Proofs.YthdiccdnggloiaaGreatDoor
open Go.RowKit
namespace St
theorem planD_done {f : Nat} {s : Sto} {d : ByteArray} (h : short s d = false) : planD (f + 1) s d = (s, [], false) := by
 rw [planD, if_pos h]
theorem planD_lost {f : Nat} {s : Sto} {d : ByteArray} (h : short s d = true) (hg : (goodL s d).length = 0) : planD (f + 1) s d = (s, [], true) := by
 rw [planD, if_neg (by rw [h]; decide), if_pos hg]
theorem planD_open {f : Nat} {s : Sto} {d : ByteArray} (h : short s d = true) (hg : 0 < (goodL s d).length) (hm : mor s d = none) : planD (f + 1) s d = (s, [], true) := by
 rw [planD, if_neg (by rw [h]; decide), if_neg (by omega), hm]
theorem planD_more {f : Nat} {s : Sto} {d : ByteArray} {u : Tir} (h : short s d = true) (hg : 0 < (goodL s d).length) (hm : mor s d = some u) :
  planD (f + 1) s d = ((planD f (mvs s (morM s d u)) d).1, morM s d u ++ (planD f (mvs s (morM s d u)) d).2.1, (planD f (mvs s (morM s d u)) d).2.2) := by
 rw [planD, if_neg (by rw [h]; decide), if_neg (by omega), hm]
theorem planD_less {f : Nat} {s : Sto} {d : ByteArray} {u : Tir} (r : Right s) (hg : 0 < (goodL s d).length) (hm : mor s d = some u) (hf : lackN s d < f + 1) : lackN (mvs s (morM s d u)) d < f := by
 have := (mor_good r hg hm).2.2.2.2.2.2.2
 omega
theorem planD_right {s : Sto} {d : ByteArray} {u : Tir} (r : Right s) (hg : 0 < (goodL s d).length) (hm : mor s d = some u) : Right (mvs s (morM s d u)) := (mor_good r hg hm).2.2.2.2.2.2.1
end St
end Go.Proofs.YthdiccdnggloiaaGreatDoor
namespace Go.Proofs.YthdiccdnggloiaaGreatDoor
open Go.RowKit Go.Sort Go.Shelf Go.Maps
theorem planS_wrong (s : Sto) (a : StA) (w : World) (hI : StIn w s a) (he : St.err s ≠ 0) :
  Calls Tryz.prog 44 #[.agg #[.int .i64 s.least, .int .i64 s.wait, .slice a.ta s.tiers.length a.tc, .slice a.fa s.files.length a.fc, .slice a.ca s.copies.length a.cc, .slice a.ha s.held.length a.hc, .slice a.ba s.bin.length a.bc]] w fun e w' => e = .returned (.tuple #[.slice none 0 0, .slice none 0 0, .int .i64 (St.err s)]) ∧ Below w.heap.size w w' := by
 obtain ⟨W1, hW1, hP, hz1, hB1⟩ := box w #[.int .i64 s.least, .int .i64 s.wait, .slice a.ta s.tiers.length a.tc, .slice a.fa s.files.length a.fc, .slice a.ca s.copies.length a.cc, .slice a.ha s.held.length a.hc, .slice a.ba s.bin.length a.bc] 28
 have HW1 := Lib.hid hW1
 have HI1 := Lib.hid (hI.keep hB1)
 have q0 : W1.cell? ⟨w.heap.size, 0, none⟩ = some (.int .i64 s.least) := (hP.cell 0).trans rfl
 have q1 : W1.cell? ⟨w.heap.size, 1, none⟩ = some (.int .i64 s.wait) := (hP.cell 1).trans rfl
 have q2 : W1.cell? ⟨w.heap.size, 2, none⟩ = some (.slice a.ta s.tiers.length a.tc) := (hP.cell 2).trans rfl
 have q3 : W1.cell? ⟨w.heap.size, 3, none⟩ = some (.slice a.fa s.files.length a.fc) := (hP.cell 3).trans rfl
 have q4 : W1.cell? ⟨w.heap.size, 4, none⟩ = some (.slice a.ca s.copies.length a.cc) := (hP.cell 4).trans rfl
 have q5 : W1.cell? ⟨w.heap.size, 5, none⟩ = some (.slice a.ha s.held.length a.hc) := (hP.cell 5).trans rfl
 have q6 : W1.cell? ⟨w.heap.size, 6, none⟩ = some (.slice a.ba s.bin.length a.bc) := (hP.cell 6).trans rfl
 have HP := Lib.hid hP; have HB1 := Lib.hid hB1
 clear hW1 hP
 have HCK := Lib.hid (check_is s a W1 HI1.out)
 have hq1 : (St.err s != 0) = true := by simpa using he
 generalize St.err s = q at *
 clear hI he hz1
 go_enter Tryz.func44, Tryz.ntmps44
 go_upto_region 1 with fail
 rw [HW1.out]
 go_wp2_with (go_at_call 32; (with_reducible refine HCK.out.mono ?_); rintro e w3 ⟨rfl, hB3⟩)
 refine bodyPost_ret (v := .tuple #[.slice none 0 0, .slice none 0 0, .int .i64 q]) (by simp [results, Tryz.results44, go_sem]) rfl ?_
 exact ⟨rfl, below_up HB1.out hB3⟩
end Go.Proofs.YthdiccdnggloiaaGreatDoor
namespace Go.Proofs.YthdiccdnggloiaaGreatDoor
open Go.RowKit
namespace St
def Acc : Sto → List Mov → Prop
 | _, [] => True
 | s, m :: l => mvE s m = 0 ∧ Acc (mvS s m) l
theorem acc_app : ∀ {l k : List Mov} {s : Sto}, Acc s l → Acc (mvs s l) k → Acc s (l ++ k)
 | [], k, s, _, h => h
 | m :: l, k, s, h, h2 => ⟨h.1, acc_app h.2 h2⟩
theorem acc_do : ∀ {l : List Mov} {s : Sto} {i : Nat}, Acc s l → doL s l i = (mvs s l, 0, 0)
 | [], s, i, _ => rfl
 | m :: l, s, i, h => by rw [doL, if_pos h.1, acc_do h.2]; rfl
def dropC (c : Cop) : Mov := drop_ c.tier c
theorem mvS_dropC (s : Sto) (x : Cop) : mvS s (dropC x) = { s with copies := wo ckey (ckey x) s.copies } := mvS_drop s x.tier x
theorem dropsC_mem {M : List Cop} : ∀ {s : Sto}, Right s → ∀ c, c ∈ (mvs s (M.map dropC)).copies ↔ c ∈ s.copies ∧ ∀ x ∈ M, ckey c ≠ ckey x := by
 induction M with
 | nil => intro s r c; exact ⟨fun h => ⟨h, fun x hx => by cases hx⟩, fun h => h.1⟩
 | cons x M ih =>
   intro s r c
   rw [List.map_cons, mvs_cons, mvS_dropC, ih (right_drop r _) c]
   show c ∈ wo ckey (ckey x) s.copies ∧ _ ↔ _
   rw [mem_wo (cop_up r)]
   constructor
   ·rintro ⟨⟨h1, h2⟩, h3⟩
    refine ⟨h1, fun y hy => ?_⟩
    rcases List.mem_cons.1 hy with rfl | hy
    ·exact h2
    ·exact h3 y hy
   ·rintro ⟨h1, h2⟩
    exact ⟨⟨h1, h2 x (by simp)⟩, fun y hy => h2 y (List.mem_cons_of_mem _ hy)⟩
theorem drop_acc {s : Sto} (r : Right s) {c : Cop} (hc : c ∈ s.copies) (h : neededD s c.dig = false ∨ c.good = false) : mvE s (dropC c) = 0 := by
 unfold mvE
 rw [if_neg (by rintro ⟨_, h⟩; exact h rfl)]
 show (if hasCopy s c.dig c.tier = false then _ else _) = _
 rw [has_iff.2 ⟨c, hc, rfl, rfl⟩, if_neg (by decide), if_pos (show (dropC c).kind = 2 from rfl)]
 show (if eq ByteArray.empty ⟨#[]⟩ = false then _ else _) = _
 rw [show eq ByteArray.empty ⟨#[]⟩ = true from eq_refl _, if_neg (by decide)]
 rw [if_neg]
 rintro ⟨h1, h2, _⟩
 obtain ⟨c', hc', e1, e2, hg⟩ := (good_iff r).1 h2
 obtain rfl : c' = c := (cop_up r).one hc' hc (by unfold ckey; rw [e1, e2]; rfl)
 rcases h with h | h
 ·have h1 : neededD s c'.dig = true := h1
  rw [h] at h1; cases h1
 ·rw [h] at hg; cases hg
theorem drops_acc {M : List Cop} : ∀ {s : Sto}, Right s → (∀ c ∈ M, c ∈ s.copies) → (M.map ckey).Nodup → (∀ c ∈ M, neededD s c.dig = false ∨ c.good = false) → Acc s (M.map dropC) := by
 induction M with
 | nil => intro s _ _ _ _; trivial
 | cons x M ih =>
   intro s r hm hn hd
   rw [List.map_cons, List.nodup_cons] at hn
   refine ⟨drop_acc r (hm x (by simp)) (hd x (by simp)), ?_⟩
   rw [mvS_dropC]
   refine ih (right_drop r _) (fun c hc => (mem_wo (cop_up r) _ c).2 ⟨hm c (List.mem_cons_of_mem _ hc), fun e => hn.1 (List.mem_map.2 ⟨c, hc, e⟩)⟩) hn.2 (fun c hc => hd c (List.mem_cons_of_mem _ hc))
def Cln (s : Sto) : Prop := ∀ c ∈ s.copies, garbage s c = false
theorem cln_L {s : Sto} : Cln s → garbageL s = [] := fun h => List.filter_eq_nil_iff.2 fun c hc => by rw [h c hc]; decide
theorem neededD_same {s t : Sto} (h1 : t.files = s.files) (h2 : t.held = s.held) (h3 : t.bin = s.bin) (d : ByteArray) : neededD t d = neededD s d := by
 unfold neededD needed kept; rw [h1, h2, h3]
theorem kind3_free {s : Sto} {d : ByteArray} (h : (filD s.files d).kind = 3) : neededD s d = false := by
 unfold neededD needed
 rw [h, if_neg (by decide), if_neg (by decide)]
theorem mkb_free {s : Sto} {d : ByteArray} (h : mkb s d = true) : neededD s d = false := by
 unfold mkb at h
 rw [Bool.and_eq_true] at h
 exact kind3_free (of_decide_eq_true h.1)
theorem wanted_frm {s : Sto} (hc : Cln s) {c : Cop} (h : c ∈ s.copies) (hk : (filD s.files c.dig).kind = 3) : neededD s (filD s.files c.dig).frm = true := by
 have h1 := hc c h
 unfold garbage at h1
 rw [kind3_free hk, hk] at h1
 cases e : neededD s (filD s.files c.dig).frm with
 | true => rfl
 | false => rw [e] at h1; simp at h1
theorem mkb_same {s s' : Sto} (hf : s'.files = s.files) (hc : Cln s) (hz : ∀ d, neededD s d = true → ((goodL s' d).length = 0 ↔ (goodL s d).length = 0)) {c : Cop} (h : c ∈ s.copies) : mkb s' c.dig = mkb s c.dig := by
 unfold mkb
 rw [hf]
 by_cases hk : (filD s.files c.dig).kind = 3
 ·have h2 := hz _ (wanted_frm hc h hk)
  congr 1
  rw [decide_eq_decide]
  omega
 ·rw [decide_eq_false hk]; rfl
theorem good_sub {s s' : Sto} (r : Right s) (r' : Right s') (ht : s'.tiers = s.tiers) {d : ByteArray} (h : ∀ c ∈ s'.copies, c.dig = d → c ∈ s.copies) (h' : ∀ c ∈ s.copies, c.dig = d → c ∈ s'.copies) : goodL s' d = goodL s d := by
 unfold goodL
 rw [ht]
 refine List.filter_congr fun t _ => ?_
 rw [Bool.eq_iff_iff, good_iff r', good_iff r]
 constructor
 ·rintro ⟨c, hc, e1, e2, hg⟩; exact ⟨c, h c hc e1, e1, e2, hg⟩
 ·rintro ⟨c, hc, e1, e2, hg⟩; exact ⟨c, h' c hc e1, e1, e2, hg⟩
theorem has_sub {s s' : Sto} {d : ByteArray} (h : ∀ c ∈ s'.copies, c.dig = d → c ∈ s.copies) (h' : ∀ c ∈ s.copies, c.dig = d → c ∈ s'.copies) (t : ByteArray) : hasCopy s' d t = hasCopy s d t := by
 rw [Bool.eq_iff_iff, has_iff, has_iff]
 constructor
 ·rintro ⟨c, hc, e1, e2⟩; exact ⟨c, h c hc e1, e1, e2⟩
 ·rintro ⟨c, hc, e1, e2⟩; exact ⟨c, h' c hc e1, e1, e2⟩
theorem garbage_less {s s' : Sto} (r : Right s) (r' : Right s') (h1 : s'.files = s.files) (h2 : s'.held = s.held) (h3 : s'.bin = s.bin) (h4 : s'.tiers = s.tiers) (hs : ∀ c ∈ s'.copies, c ∈ s.copies) {c : Cop} (h : garbage s' c = true) : garbage s c = true := by
 unfold garbage at h ⊢
 rw [h1, neededD_same h1 h2 h3, neededD_same h1 h2 h3] at h
 rw [Bool.or_eq_true] at h ⊢
 rcases h with h | h
 ·exact .inl h
 ·right
  rw [Bool.and_eq_true] at h ⊢
  refine ⟨h.1, ?_⟩
  have h5 := of_decide_eq_true h.2
  obtain ⟨t, ht⟩ := List.exists_mem_of_length_pos h5
  obtain ⟨g1, g2⟩ := List.mem_filter.1 ht
  obtain ⟨x, hx, e1, e2, hg⟩ := (good_iff r').1 g2
  rw [h4] at g1
  exact decide_eq_true (List.length_pos_of_mem (List.mem_filter.2 ⟨g1, (good_iff r).2 ⟨x, hs x hx, e1, e2, hg⟩⟩))
def hard (s : Sto) (n : ByteArray) : Int := used s.files n (s.copies.filter fun c => !mkb s c.dig)
structure Rel (s s' : Sto) (P : ByteArray → Prop) : Prop where
 ti : s'.tiers = s.tiers
 fi : s'.files = s.files
 he : s'.held = s.held
 bi : s'.bin = s.bin
 le : s'.least = s.least
 r : Right s'
 cln : Cln s'
 good : ∀ d, neededD s d = true → ¬ P d → goodL s' d = goodL s d
 has : ∀ d, neededD s d = true → ¬ P d → ∀ t, hasCopy s' d t = hasCopy s d t
 zero : ∀ d, neededD s d = true → ((goodL s' d).length = 0 ↔ (goodL s d).length = 0)
 pot : ∀ n, hard s n ≤ hard s' n
theorem Rel.need {s s' : Sto} {P : ByteArray → Prop} (h : Rel s s' P) (d : ByteArray) : neededD s' d = neededD s d := neededD_same h.fi h.he h.bi d
theorem Rel.refl {s : Sto} (r : Right s) (c : Cln s) (P : ByteArray → Prop) : Rel s s P := ⟨rfl, rfl, rfl, rfl, rfl, r, c, fun _ _ _ => rfl, fun _ _ _ _ => rfl, fun _ _ => Iff.rfl, fun _ => Int.le_refl _⟩
theorem Rel.weak {s s' : Sto} {P Q : ByteArray → Prop} (h : Rel s s' P) (hpq : ∀ d, P d → Q d) : Rel s s' Q := ⟨h.ti, h.fi, h.he, h.bi, h.le, h.r, h.cln, fun d hd hq => h.good d hd (fun hp => hq (hpq d hp)), fun d hd hq => h.has d hd (fun hp => hq (hpq d hp)), h.zero, h.pot⟩
theorem Rel.trans {s s' s'' : Sto} {P : ByteArray → Prop} (h : Rel s s' P) (k : Rel s' s'' P) : Rel s s'' P :=
 ⟨k.ti.trans h.ti, k.fi.trans h.fi, k.he.trans h.he, k.bi.trans h.bi, k.le.trans h.le, k.r, k.cln, fun d hd hp => (k.good d (by rw [h.need]; exact hd) hp).trans (h.good d hd hp), fun d hd hp t => (k.has d (by rw [h.need]; exact hd) hp t).trans (h.has d hd hp t),
  fun d hd => (k.zero d (by rw [h.need]; exact hd)).trans (h.zero d hd), fun n => Int.le_trans (h.pot n) (k.pot n)⟩
theorem rel_drop1 {s : Sto} (r : Right s) (hc : Cln s) {c : Cop} (h : c ∈ s.copies) (hm : mkb s c.dig = true) : Rel s (mvS s (dropC c)) (fun _ => False) := by
 have hmem := fun x => mem_wo (cop_up r) (ckey c) x
 have rr : Right (mvS s (dropC c)) := by rw [mvS_dropC]; exact right_drop r _
 have hcp : (mvS s (dropC c)).copies = wo ckey (ckey c) s.copies := by rw [mvS_dropC]
 obtain ⟨e1, e2, e3, e4, e5, e6⟩ := mvS_same s (dropC c)
 obtain ⟨s', hs'⟩ : ∃ s', mvS s (dropC c) = s' := ⟨_, rfl⟩
 rw [hs'] at rr hcp e1 e2 e3 e4 e5 ⊢
 have hne : ∀ d, neededD s d = true → ∀ x ∈ s.copies, x.dig = d → ckey x ≠ ckey c := by
  intro d hd x hx e he
  have := (cop_up r).one hx h he
  rw [this] at e
  rw [← e, mkb_free hm] at hd; cases hd
 have hsub : ∀ x ∈ s'.copies, x ∈ s.copies := fun x hx => by rw [hcp] at hx; exact ((hmem x).1 hx).1
 have hgood : ∀ d, neededD s d = true → goodL s' d = goodL s d := fun d hd => good_sub r rr e1 (fun x hx _ => hsub x hx) (fun x hx e => by rw [hcp]; exact (hmem x).2 ⟨hx, hne d hd x hx e⟩)
 have hzero : ∀ d, neededD s d = true → ((goodL s' d).length = 0 ↔ (goodL s d).length = 0) := fun d hd => by rw [hgood d hd]
 refine ⟨e1, e2, e3, e4, e5, rr, fun x hx => ?_, fun d hd _ => hgood d hd, fun d hd _ t => has_sub (fun x hx _ => hsub x hx) (fun x hx e => by rw [hcp]; exact (hmem x).2 ⟨hx, hne d hd x hx e⟩) t, hzero, fun n => ?_⟩
 ·cases e : garbage s' x with
  | false => rfl
  | true =>
    have := garbage_less r rr e2 e3 e4 e1 hsub e
    rw [hc x (hsub x hx)] at this; cases this
 ·unfold hard
  rw [e2]
  have : s'.copies.filter (fun x => !mkb s' x.dig) = s.copies.filter (fun x => !mkb s x.dig) := by
   rw [hcp, wo_filter (cop_up r), List.filter_filter]
   refine List.filter_congr fun x hx => ?_
   rw [mkb_same e2 hc hzero hx]
   cases e : eq (ckey x) (ckey c) with
   | false => simp
   | true => rw [(cop_up r).one hx h (eq_iff.1 e), hm]; rfl
  rw [this]
  exact Int.le_refl _
theorem rel_drops {M : List Cop} : ∀ {s : Sto}, Right s → Cln s → (∀ c ∈ M, c ∈ s.copies) → (M.map ckey).Nodup → (∀ c ∈ M, mkb s c.dig = true) → Rel s (mvs s (M.map dropC)) (fun _ => False) := by
 induction M with
 | nil => intro s r c _ _ _; exact Rel.refl r c _
 | cons x M ih =>
   intro s r c hm hn hk
   rw [List.map_cons, List.nodup_cons] at hn
   have h1 := rel_drop1 r c (hm x (by simp)) (hk x (by simp))
   rw [List.map_cons, mvs_cons]
   refine h1.trans (ih h1.r h1.cln (fun y hy => ?_) hn.2 (fun y hy => ?_))
   ·rw [mvS_dropC]
    exact (mem_wo (cop_up r) _ y).2 ⟨hm y (List.mem_cons_of_mem _ hy), fun e => hn.1 (List.mem_map.2 ⟨y, hy, e⟩)⟩
   ·rw [mkb_same h1.fi c h1.zero (hm y (List.mem_cons_of_mem _ hy))]
    exact hk y (List.mem_cons_of_mem _ hy)
theorem rel_copy {s : Sto} (r : Right s) (hc : Cln s) {d f t : ByteArray} (hd : neededD s d = true) (hE : mvE s ⟨1, d, f, t⟩ = 0) : Rel s (mvS s ⟨1, d, f, t⟩) (fun x => x = d) := by
 have rr := right_mv r hE
 obtain ⟨h1, h16, h | ⟨_, h2, h3, h4, h5, h6⟩⟩ := mv_ways r hE
 ·exact absurd h.1 (show ¬ (1 : Int) = 2 by decide)
 have h2 : mvS s ⟨1, d, f, t⟩ = { s with copies := wth ckey ⟨d, t, true, askedOf s d f 0⟩ s.copies } := h2
 have h16 : d.size = 16 := h16
 have h4 : hasCopy s d t = false := h4
 have h5 : goodAt s d f = true := h5
 obtain ⟨N, hN⟩ : ∃ N : Cop, N = ⟨d, t, true, askedOf s d f 0⟩ := ⟨_, rfl⟩
 rw [← hN] at h2
 have hNd : N.dig = d := by rw [hN]
 have hNg : N.good = true := by rw [hN]
 have hNk : ckey N = key d t := by rw [hN]; rfl
 have hmem := fun x => mem_wth (cop_up r) N x
 have hcp : (mvS s ⟨1, d, f, t⟩).copies = wth ckey N s.copies := by rw [h2]
 obtain ⟨e1, e2, e3, e4, e5, e6⟩ := mvS_same s ⟨1, d, f, t⟩
 obtain ⟨s', hs'⟩ : ∃ s', mvS s ⟨1, d, f, t⟩ = s' := ⟨_, rfl⟩
 rw [hs'] at rr hcp e1 e2 e3 e4 e5 ⊢
 have hold : ∀ x ∈ s.copies, x ∈ s'.copies := fun x hx => by
  rw [hcp]
  refine (hmem x).2 (.inr ⟨hx, fun e => ?_⟩)
  rw [hNk] at e
  obtain ⟨g1, g2⟩ := (ckey_any r hx).1 e
  rw [has_iff.2 ⟨x, hx, g1, g2⟩] at h4; cases h4
 have hnew : ∀ x ∈ s'.copies, x = N ∨ x ∈ s.copies := fun x hx => by
  rw [hcp] at hx
  rcases (hmem x).1 hx with h | h
  ·exact .inl h
  ·exact .inr h.1
 have hoth : ∀ b, b ≠ d → ∀ x ∈ s'.copies, x.dig = b → x ∈ s.copies := fun b hb x hx e => by
  rcases hnew x hx with rfl | h
  ·exact absurd (e.symm.trans hNd) hb
  ·exact h
 have hgood : ∀ b, b ≠ d → goodL s' b = goodL s b := fun b hb => good_sub r rr e1 (hoth b hb) (fun x hx _ => hold x hx)
 have hp1 : 0 < (goodL s d).length := good_pos_len r h5
 have hp2 : 0 < (goodL s' d).length := good_pos_len rr (t := f) (by
  obtain ⟨x, hx, g1, g2, g3⟩ := (good_iff r).1 h5
  exact (good_iff rr).2 ⟨x, hold x hx, g1, g2, g3⟩)
 have hzero : ∀ b, neededD s b = true → ((goodL s' b).length = 0 ↔ (goodL s b).length = 0) := fun b _ => by
  by_cases e : b = d
  ·subst e; omega
  ·rw [hgood b e]
 have hsz := szs_of (F := s.files) (fun f hf => (r.dig f hf).2)
 refine ⟨e1, e2, e3, e4, e5, rr, fun x hx => ?_, fun b _ hb => hgood b hb, fun b _ hb u => has_sub (hoth b hb) (fun x hx _ => hold x hx) u, hzero, fun n => ?_⟩
 ·rcases hnew x hx with rfl | h
  ·unfold garbage
   rw [neededD_same e2 e3 e4, hNd, hd, hNg]; rfl
  ·have hq := hc x h
   unfold garbage at hq ⊢
   rw [e2, neededD_same e2 e3 e4, neededD_same e2 e3 e4]
   by_cases e : x.dig = d
   ·rw [e] at hq ⊢
    rw [decide_eq_true hp1] at hq
    rw [decide_eq_true hp2]
    exact hq
   ·rw [hgood _ e]; exact hq
 ·unfold hard
  rw [e2]
  have : s.copies.filter (fun x => !mkb s x.dig) = s.copies.filter (fun x => !mkb s' x.dig) := List.filter_congr fun x hx => by rw [mkb_same e2 hc hzero hx]
  rw [this]
  refine used_sub hsz (List.Sublist.filter _ ?_)
  rw [hcp, wth_new (by rw [hNk, ← hasCopy_any r]; exact h4)]
  conv => lhs; rw [← List.take_append_drop (pos ckey (ckey N) s.copies) s.copies]
  exact List.Sublist.append_left (List.sublist_cons_self _ _) _
theorem run_sublist (F : List Fil) (b : Int) : ∀ (L : List Cop) (f : Int), (run F b L f).1.Sublist L
 | [], f => List.Sublist.refl _
 | c :: L, f => by
   by_cases hb : b ≤ f
   ·rw [run_stop hb]; exact List.nil_sublist _
   ·rw [run_next hb]
    exact (run_sublist F b L _).cons_cons c
theorem goersL_ways {s : Sto} {t : ByteArray} : ∀ c ∈ goersL s t, garbage s c = true ∨ mkb s c.dig = true := by
 unfold goersL
 split
 ·rename_i h
  obtain ⟨M, e, hp, _⟩ := h.choose_spec
  intro c hc
  rw [e] at hc
  rcases List.mem_append.1 hc with hc | hc
  ·have h2 := (List.mem_filter.1 hc).2
   unfold evA at h2
   rw [Bool.and_eq_true] at h2
   exact .inl h2.2
  ·have h2 := (List.mem_filter.1 (hp.subset hc)).2
   unfold evB at h2
   rw [Bool.and_eq_true, Bool.and_eq_true] at h2
   exact .inr h2.2.2
 ·intro c h; cases h
theorem mor_rel {s : Sto} (r : Right s) (hc : Cln s) {d : ByteArray} {u : Tir} (hd : neededD s d = true) (hg : 0 < (goodL s d).length) (hm : mor s d = some u) : Acc s (morM s d u) ∧ Rel s (mvs s (morM s d u)) (fun x => x = d) := by
 obtain ⟨_, _, _, _, _, hE, _, _⟩ := mor_good r hg hm
 obtain ⟨G, hG⟩ : ∃ G, (evR s u (sizeOf s.files d)).1 = G := ⟨_, rfl⟩
 have hGs : G.Sublist (goersL s u.name) := by rw [← hG]; exact run_sublist _ _ _ _
 have hGm : ∀ c ∈ G, c ∈ s.copies ∧ c.tier = u.name ∧ mkb s c.dig = true := fun c h => by
  obtain ⟨g1, g2⟩ := goersL_mem c (hGs.subset h)
  refine ⟨g1, g2, ?_⟩
  rcases goersL_ways c (hGs.subset h) with g3 | g3
  ·rw [hc c g1] at g3; cases g3
  ·exact g3
 have hGn : (G.map ckey).Nodup := (goersL_nodup r).sublist (hGs.map _)
 have hev : evM s u (sizeOf s.files d) = G.map dropC := by
  unfold evM
  rw [hG]
  refine List.map_congr_left fun c h => ?_
  unfold dropC
  rw [(hGm c h).2.1]
 have hA := drops_acc r (fun c h => (hGm c h).1) hGn (fun c h => .inl (mkb_free (hGm c h).2.2))
 have hR := rel_drops r hc (fun c h => (hGm c h).1) hGn (fun c h => (hGm c h).2.2)
 have hmm : morM s d u = evM s u (sizeOf s.files d) ++ [⟨1, d, (cheap (goodL s d)).name, u.name⟩] := rfl
 rw [hev] at hE hmm
 have hR2 := rel_copy hR.r hR.cln (by rw [hR.need]; exact hd) hE
 rw [hmm, mvs_snoc]
 exact ⟨acc_app hA ⟨hE, trivial⟩, (hR.weak (fun _ h => h.elim)).trans hR2⟩
def sz (F : List Fil) : List Cop → Int
 | [] => 0
 | c :: L => sizeOf F c.dig + sz F L
theorem sz_perm {F : List Fil} {L M : List Cop} (h : List.Perm L M) : sz F L = sz F M := by
 induction h with
 | nil => rfl
 | cons x _ ih => rw [sz, sz, ih]
 | swap x y l => rw [sz, sz, sz, sz]; omega
 | trans _ _ h1 h2 => exact h1.trans h2
theorem sz_pos {F : List Fil} (hz : Szs F) : ∀ L : List Cop, 0 ≤ sz F L
 | [] => Int.le_refl _
 | c :: L => by have := sz_pos hz L; have := size_bd hz c.dig; rw [sz]; omega
theorem run_ok {F : List Fil} (hz : Szs F) {b : Int} : ∀ (L : List Cop) (f : Int), b ≤ (run F b L f).2 ↔ b ≤ f + sz F L
 | [], f => by rw [sz, Int.add_zero]; rfl
 | c :: L, f => by
   by_cases hb : b ≤ f
   ·rw [run_stop hb]
    have := sz_pos hz (c :: L)
    show b ≤ f ↔ _
    omega
   ·rw [run_next hb]
    have := run_ok hz L (f + sizeOf F c.dig) (b := b)
    show b ≤ (run F b L (f + sizeOf F c.dig)).2 ↔ _
    rw [this, sz]
    omega
theorem used_split {F : List Fil} {n : ByteArray} {p : Cop → Bool} : ∀ L : List Cop, used F n L = used F n (L.filter fun c => !p c) + sz F (L.filter fun c => eq c.tier n && p c)
 | [] => by simp [used, sz]
 | c :: L => by
   have ih := used_split (F := F) (n := n) (p := p) L
   rw [used, ih]
   cases hp : p c <;> cases ht : eq c.tier n <;> simp only [List.filter_cons, hp, ht, used, sz] <;> simp [used, sz, ht] <;> omega
theorem ev_tri {a b : Cop} (h : ckey a ≠ ckey b) : evLt a b ∨ evLt b a := by
 unfold evLt
 rcases Int.lt_trichotomy a.asked b.asked with h1 | h1 | h1
 ·exact .inl (.inl h1)
 ·cases e1 : lt (ckey a) (ckey b) with
  | true => exact .inl (.inr ⟨h1, rfl⟩)
  | false =>
    cases e2 : lt (ckey b) (ckey a) with
    | true => exact .inr (.inr ⟨h1.symm, rfl⟩)
    | false => exact absurd (eq_iff.1 (by unfold eq; rw [Sx.less_tri _ _ e1 e2]; simp)) h
 ·exact .inr (.inl h1)
open Classical in
theorem sort_ex : ∀ {L : List Cop}, (L.map ckey).Nodup → ∃ M, List.Perm M L ∧ M.Pairwise evLt
 | [], _ => ⟨[], List.Perm.refl _, List.Pairwise.nil⟩
 | x :: L, h => by
   rw [List.map_cons, List.nodup_cons] at h
   obtain ⟨M, hp, hs⟩ := sort_ex h.2
   have hne : ∀ y ∈ M, ckey y ≠ ckey x := fun y hy e => h.1 (List.mem_map.2 ⟨y, hp.subset hy, e⟩)
   refine ⟨M.filter (fun y => decide (evLt y x)) ++ x :: M.filter (fun y => !decide (evLt y x)), ?_, ?_⟩
   ·refine List.perm_middle.trans (List.Perm.cons x ?_)
    exact (List.filter_append_perm _ M).trans hp
   ·have hB : ∀ y ∈ M.filter (fun y => !decide (evLt y x)), evLt x y := fun y hy => by
     obtain ⟨h1, h2⟩ := List.mem_filter.1 hy
     rcases ev_tri (hne y h1) with h3 | h3
     ·simp [h3] at h2
     ·exact h3
    have hA : ∀ y ∈ M.filter (fun y => decide (evLt y x)), evLt y x := fun y hy => of_decide_eq_true (List.mem_filter.1 hy).2
    refine List.pairwise_append.2 ⟨hs.sublist List.filter_sublist, List.pairwise_cons.2 ⟨hB, hs.sublist List.filter_sublist⟩, fun a ha b hb => ?_⟩
    rcases List.mem_cons.1 hb with rfl | hb
    ·exact hA a ha
    ·exact ev_ord.1 _ _ _ (hA a ha) (hB b hb)
theorem goers_ex {s : Sto} (r : Right s) (t : ByteArray) : Goers s t (goersL s t) := by
 obtain ⟨M, h1, h2⟩ := sort_ex (L := evK s t) ((up_nodup (cop_up r)).sublist (List.filter_sublist.map _))
 have h : ∃ L, Goers s t L := ⟨evG s t ++ M, M, rfl, h1, h2⟩
 unfold goersL
 rw [dif_pos h]
 exact h.choose_spec
theorem evOk_iff {s : Sto} (r : Right s) (hc : Cln s) (t : Tir) (b : Int) : evOk s t b = true ↔ b ≤ t.room - hard s t.name := by
 have hz := szs_of (F := s.files) (fun f hf => (r.dig f hf).2)
 obtain ⟨M, e, hp, _⟩ := goers_ex r t.name
 have hG : evG s t.name = [] := List.filter_eq_nil_iff.2 fun c hcm => by unfold evA; rw [hc c hcm]; simp
 rw [hG, List.nil_append] at e
 have hK : evK s t.name = s.copies.filter (fun c => eq c.tier t.name && mkb s c.dig) := by
  refine List.filter_congr fun c hcm => ?_
  unfold evB
  rw [hc c hcm]; rfl
 have hu := used_split (F := s.files) (n := t.name) (p := fun c => mkb s c.dig) s.copies
 unfold evOk evR
 rw [decide_eq_true_iff, e, run_ok hz, sz_perm hp, hK, hu]
 unfold hard
 omega
theorem tgt_none {s s' : Sto} {P : ByteArray → Prop} (r : Right s) (hc : Cln s) (h : Rel s s' P) {d : ByteArray} (hd : neededD s d = true) (hp : ¬ P d) {mb : Tir → Bool} (ht : tgt s d mb = none) : tgt s' d mb = none := by
 have h0 : (cands s d mb).length = 0 := by
  unfold tgt at ht
  split at ht
  ·assumption
  ·cases ht
 have h1 : cands s' d mb = [] := by
  refine List.filter_eq_nil_iff.2 fun t htm hcd => ?_
  rw [h.ti] at htm
  have h2 := List.filter_eq_nil_iff.1 (List.length_eq_zero_iff.1 h0) t htm
  refine h2 ?_
  unfold cand at hcd ⊢
  rw [Bool.and_eq_true, Bool.and_eq_true] at hcd ⊢
  refine ⟨⟨hcd.1.1, by rw [← h.has d hd hp]; exact hcd.1.2⟩, ?_⟩
  have h3 := (evOk_iff h.r h.cln t _).1 hcd.2
  rw [h.fi] at h3
  have h4 := h.pot t.name
  exact (evOk_iff r hc t _).2 (by omega)
 unfold tgt
 rw [h1]; rfl
theorem mor_none {s s' : Sto} {P : ByteArray → Prop} (r : Right s) (hc : Cln s) (h : Rel s s' P) {d : ByteArray} (hd : neededD s d = true) (hp : ¬ P d) (hm : mor s d = none) : mor s' d = none := by
 unfold mor at hm ⊢
 rw [Option.or_eq_none_iff] at hm ⊢
 obtain ⟨h1, h2⟩ := hm
 unfold mor1 at h1 ⊢
 unfold mor2 at h2 ⊢
 rw [h.good d hd hp, h.le]
 refine ⟨?_, ?_⟩
 ·split
  ·rename_i e
   rw [if_pos e] at h1
   exact tgt_none r hc h hd hp h1
  ·rfl
 ·split
  ·rename_i e
   rw [if_pos e] at h2
   exact tgt_none r hc h hd hp h2
  ·rfl
theorem short_rel {s s' : Sto} {P : ByteArray → Prop} (h : Rel s s' P) {d : ByteArray} (hd : neededD s d = true) (hp : ¬ P d) : short s' d = short s d := by
 unfold short
 rw [h.good d hd hp, h.le, h.ti]
def Stuck (s : Sto) (d : ByteArray) : Prop := short s d = true → (goodL s d).length = 0 ∨ mor s d = none
theorem stuck_rel {s s' : Sto} {P : ByteArray → Prop} (r : Right s) (hc : Cln s) (h : Rel s s' P) {d : ByteArray} (hd : neededD s d = true) (hp : ¬ P d) (hs : Stuck s d) : Stuck s' d := by
 intro h1
 rw [short_rel h hd hp] at h1
 rw [h.good d hd hp]
 rcases hs h1 with h2 | h2
 ·exact .inl h2
 ·exact .inr (mor_none r hc h hd hp h2)
theorem planD_spec : ∀ (f : Nat) {s : Sto} {d : ByteArray}, Right s → Cln s → neededD s d = true → lackN s d < f →
  Acc s (planD f s d).2.1 ∧ mvs s (planD f s d).2.1 = (planD f s d).1 ∧ Rel s (planD f s d).1 (fun x => x = d) ∧ (planD f s d).2.2 = short (planD f s d).1 d ∧ Stuck (planD f s d).1 d
 | 0, s, d, r, c, hd, hl => by omega
 | f + 1, s, d, r, c, hd, hl => by
   cases hs : short s d with
   | false => rw [planD_done hs]; exact ⟨trivial, rfl, Rel.refl r c _, hs.symm, fun h => by rw [hs] at h; cases h⟩
   | true =>
     by_cases hg : (goodL s d).length = 0
     ·rw [planD_lost hs hg]; exact ⟨trivial, rfl, Rel.refl r c _, hs.symm, fun _ => .inl hg⟩
     ·cases hm : mor s d with
      | none => rw [planD_open hs (by omega) hm]; exact ⟨trivial, rfl, Rel.refl r c _, hs.symm, fun _ => .inr hm⟩
      | some u =>
        rw [planD_more hs (by omega) hm]
        obtain ⟨h1, h2⟩ := mor_rel r c hd (by omega) hm
        obtain ⟨g1, g2, g3, g4, g5⟩ := planD_spec f h2.r h2.cln (by rw [h2.need]; exact hd) (planD_less r (by omega) hm hl)
        exact ⟨acc_app h1 g1, by rw [mvs_app]; exact g2, h2.trans g3, g4, g5⟩
theorem planL_spec : ∀ (L : List ByteArray) {s : Sto}, Right s → Cln s → (∀ d ∈ L, neededD s d = true) → L.Nodup →
  Acc s (planL L s).2.1 ∧ mvs s (planL L s).2.1 = (planL L s).1 ∧ Rel s (planL L s).1 (fun x => x ∈ L) ∧ (planL L s).2.2 = L.filter (short (planL L s).1) ∧ ∀ d ∈ L, Stuck (planL L s).1 d
 | [], s, r, c, _, _ => ⟨trivial, rfl, Rel.refl r c _, rfl, fun d h => by cases h⟩
 | d :: L, s, r, c, hd, hn => by
   have hl : lackN s d < 9 := by
    have h1 := lackN_le s d
    have h2 := (sizes_iff.1 r.sizes).2.1
    omega
   obtain ⟨a1, a2, a3, a4, a5⟩ := planD_spec 9 r c (hd d (by simp)) hl
   rw [planL]
   obtain ⟨s1, hs1⟩ : ∃ s1, (planD 9 s d).1 = s1 := ⟨_, rfl⟩
   rw [hs1] at a2 a3 a4 a5 ⊢
   rw [List.nodup_cons] at hn
   obtain ⟨b1, b2, b3, b4, b5⟩ := planL_spec L a3.r a3.cln (fun x hx => by rw [a3.need]; exact hd x (List.mem_cons_of_mem _ hx)) hn.2
   have hdn : neededD s1 d = true := by rw [a3.need]; exact hd d (by simp)
   refine ⟨acc_app a1 (by rw [a2]; exact b1), by rw [mvs_app, a2]; exact b2, (a3.weak fun x h => by rw [h]; simp).trans (b3.weak fun x h => List.mem_cons_of_mem _ h), ?_, fun x hx => ?_⟩
   ·show (if (planD 9 s d).2.2 = true then [d] else []) ++ (planL L s1).2.2 = _
    rw [a4, b4, ← short_rel b3 hdn hn.1, List.filter_cons]
    split <;> rfl
   ·rcases List.mem_cons.1 hx with rfl | hx
    ·exact stuck_rel a3.r a3.cln b3 hdn hn.1 a5
    ·exact b5 x hx
theorem planL_still : ∀ (L : List ByteArray) {s : Sto}, (∀ d ∈ L, Stuck s d) → planL L s = (s, [], L.filter (short s))
 | [], s, _ => rfl
 | d :: L, s, h => by
   have h1 : planD 9 s d = (s, [], short s d) := by
    cases hs : short s d with
    | false => exact planD_done hs
    | true =>
      by_cases hg : (goodL s d).length = 0
      ·exact planD_lost hs hg
      ·exact planD_open hs (by omega) ((h d (by simp) hs).resolve_left hg)
   rw [planL, h1, planL_still L (fun x hx => h x (List.mem_cons_of_mem _ hx)), List.filter_cons]
   simp only [List.nil_append]
   split <;> rfl
theorem neededL_nodup {s : Sto} (r : Right s) : (neededL s).Nodup := by
 have := up_nodup r.fup
 exact this.sublist (List.filter_sublist.map _)
theorem plan_safe {s : Sto} (r : Right s) : Acc s (plan s).2.1 ∧ mvs s (plan s).2.1 = (plan s).1 ∧ Right (plan s).1 ∧ garbageL (plan s).1 = [] ∧ (neededL (plan s).1).filter (short (plan s).1) = (plan s).2.2 ∧ plan (plan s).1 = ((plan s).1, [], (plan s).2.2) := by
 have hgs : ∀ c ∈ garbageL s, c ∈ s.copies ∧ garbage s c = true := fun c h => List.mem_filter.1 h
 have hgn : ((garbageL s).map ckey).Nodup := (up_nodup (cop_up r)).sublist (List.filter_sublist.map _)
 have hA : Acc s (garbM s) := by
  refine drops_acc r (fun c h => (hgs c h).1) hgn (fun c h => ?_)
  have h1 := (hgs c h).2
  unfold garbage at h1
  cases e1 : neededD s c.dig with
  | false => exact .inl rfl
  | true => cases e2 : c.good with
    | false => exact .inr rfl
    | true => rw [e1, e2] at h1; cases h1
 have hR : Right (mvs s (garbM s)) := right_drops r (fun m hm => by obtain ⟨c, _, rfl⟩ := List.mem_map.1 hm; rfl)
 have hmem := fun c => dropsC_mem (M := garbageL s) r c
 obtain ⟨e1, e2, e3, e4, e5, e6⟩ := mvs_same (garbM s) s
 have hC : Cln (mvs s (garbM s)) := by
  intro c hc
  obtain ⟨h1, h2⟩ := (hmem c).1 hc
  cases e : garbage (mvs s (garbM s)) c with
  | false => rfl
  | true =>
    have := garbage_less r hR e2 e3 e4 e1 (fun x hx => ((hmem x).1 hx).1) e
    exact absurd rfl (h2 c (List.mem_filter.2 ⟨h1, this⟩))
 have hN := needed_same (s := s) e2 e3 e4
 unfold plan
 obtain ⟨s1, hs1⟩ : ∃ s1, mvs s (garbM s) = s1 := ⟨_, rfl⟩
 rw [hs1] at hR hC hN ⊢
 obtain ⟨b1, b2, b3, b4, b5⟩ := planL_spec (neededL s) hR hC (fun d hd => needed_dig hR (by rw [hN]; exact hd)) (neededL_nodup r)
 obtain ⟨t, ht⟩ : ∃ t, (planL (neededL s) s1).1 = t := ⟨_, rfl⟩
 simp only [ht] at b2 b3 b4 b5 ⊢
 have hNt : neededL t = neededL s := (needed_same b3.fi b3.he b3.bi).trans hN
 have hgt : garbM t = [] := by unfold garbM; rw [cln_L b3.cln]; rfl
 refine ⟨acc_app hA (by rw [hs1]; exact b1), by rw [mvs_app, hs1]; exact b2, b3.r, cln_L b3.cln, by rw [hNt]; exact b4.symm, ?_⟩
 rw [hgt, hNt, b4]
 show ((planL (neededL s) (mvs t [])).1, [] ++ (planL (neededL s) (mvs t [])).2.1, (planL (neededL s) (mvs t [])).2.2) = _
 rw [show mvs t [] = t from rfl, planL_still _ b5]
 rfl
end St
namespace St
theorem wo_len {L : List Cop} (h : Up ckey L) {c : Cop} (hc : c ∈ L) : (wo ckey (ckey c) L).length + 1 = L.length := by
 have hk : hasK ckey L (ckey c) = true := hasK_iff.2 ⟨c, hc, rfl⟩
 obtain ⟨x, hx, hxk⟩ := hasK_at h hk
 have hlt := (List.getElem?_eq_some_iff.1 hx).1
 unfold wo
 rw [if_pos hk, List.length_eraseIdx, if_pos hlt]
 omega
theorem wth_len (L : List Cop) (x : Cop) : (wth ckey x L).length ≤ L.length + 1 := by
 unfold wth
 split
 ·rw [List.length_set]; omega
 ·rw [List.length_append, List.length_cons, List.length_take, List.length_drop]; omega
theorem drops_len {M : List Cop} : ∀ {s : Sto}, Right s → (∀ c ∈ M, c ∈ s.copies) → (M.map ckey).Nodup → (mvs s (M.map dropC)).copies.length + M.length = s.copies.length := by
 induction M with
 | nil => intro s _ _ _; rfl
 | cons x M ih =>
   intro s r hm hn
   rw [List.map_cons, List.nodup_cons] at hn
   have h1 := wo_len (cop_up r) (hm x (by simp))
   have h2 := ih (right_drop r (ckey x)) (fun c hc => (mem_wo (cop_up r) _ c).2 ⟨hm c (List.mem_cons_of_mem _ hc), fun e => hn.1 (List.mem_map.2 ⟨c, hc, e⟩)⟩) hn.2
   rw [List.map_cons, mvs_cons, mvS_dropC, List.length_cons]
   have h2 : (mvs { s with copies := wo ckey (ckey x) s.copies } (M.map dropC)).copies.length + M.length = (wo ckey (ckey x) s.copies).length := h2
   omega
theorem mor_count {s : Sto} (r : Right s) {d : ByteArray} {u : Tir} (hg : 0 < (goodL s d).length) (hm : mor s d = some u) : (mvs s (morM s d u)).copies.length + (morM s d u).length ≤ s.copies.length + 2 := by
 obtain ⟨G, hG⟩ : ∃ G, (evR s u (sizeOf s.files d)).1 = G := ⟨_, rfl⟩
 have hGs : G.Sublist (goersL s u.name) := by rw [← hG]; exact run_sublist _ _ _ _
 have hGm : ∀ c ∈ G, c ∈ s.copies ∧ c.tier = u.name := fun c h => goersL_mem c (hGs.subset h)
 have hGn : (G.map ckey).Nodup := (goersL_nodup r).sublist (hGs.map _)
 have hev : evM s u (sizeOf s.files d) = G.map dropC := by
  unfold evM
  rw [hG]
  refine List.map_congr_left fun c h => ?_
  unfold dropC
  rw [(hGm c h).2]
 have h1 := drops_len r (fun c h => (hGm c h).1) hGn
 have hmm : morM s d u = evM s u (sizeOf s.files d) ++ [⟨1, d, (cheap (goodL s d)).name, u.name⟩] := rfl
 rw [hmm, hev, mvs_snoc, List.length_append, List.length_map]
 generalize mvs s (G.map dropC) = t at *
 have h2 : (mvS t ⟨1, d, (cheap (goodL s d)).name, u.name⟩).copies.length ≤ t.copies.length + 1 := by
  unfold mvS
  rw [if_neg (by show ¬ (1 : Int) = 2; decide)]
  exact wth_len _ _
 simp only [List.length_cons, List.length_nil]
 omega
def plAdd (ms : List Mov) (O : List ByteArray) (R : Sto × List Mov × List ByteArray) : Sto × List Mov × List ByteArray := (R.1, ms ++ R.2.1, O ++ R.2.2)
noncomputable def plIn (f : Nat) (t : Sto) (d : ByteArray) (L : List ByteArray) : Sto × List Mov × List ByteArray :=
 ((planL L (planD f t d).1).1, (planD f t d).2.1 ++ (planL L (planD f t d).1).2.1, (if (planD f t d).2.2 = true then [d] else []) ++ (planL L (planD f t d).1).2.2)
structure PlL (s : Sto) (NL : List ByteArray) (j : Nat) (t : Sto) (ms : List Mov) (O : List ByteArray) : Prop where
 r : Right t
 eq : plan s = plAdd ms O (planL (NL.drop j) t)
 len : ms.length + t.copies.length ≤ 4000 + 16 * j
 ol : O.length ≤ j
structure PlD (s : Sto) (NL : List ByteArray) (j : Nat) (d : ByteArray) (f : Nat) (t : Sto) (ms : List Mov) (O : List ByteArray) : Prop where
 r : Right t
 eq : plan s = plAdd ms O (plIn f t d (NL.drop (j + 1)))
 len : ms.length + t.copies.length + 2 * lackN t d ≤ 4000 + 16 * (j + 1)
 lk : lackN t d < f
 ol : O.length ≤ j
theorem PlL.start {s : Sto} (r : Right s) : PlL s (neededL s) 0 (mvs s (garbM s)) (garbM s) [] := by
 have h1 := drops_len (M := garbageL s) r (fun c h => (List.mem_filter.1 h).1) ((up_nodup (cop_up r)).sublist (List.filter_sublist.map _))
 have h2 := (sizes_iff.1 r.sizes).2.2.2.1
 have h3 : (mvs s (garbM s)).copies.length + (garbageL s).length = s.copies.length := h1
 have h4 : (garbM s).length = (garbageL s).length := List.length_map _
 exact ⟨right_drops r (fun m hm => by obtain ⟨c, _, rfl⟩ := List.mem_map.1 hm; rfl), rfl, by omega, Nat.le_refl _⟩
theorem PlL.enter {s : Sto} {NL : List ByteArray} {j : Nat} {t : Sto} {ms : List Mov} {O : List ByteArray} (h : PlL s NL j t ms O) {d : ByteArray} (hd : NL[j]? = some d) : PlD s NL j d 9 t ms O := by
 have h1 := lackN_le t d
 have h2 := (sizes_iff.1 h.r.sizes).2.1
 have h3 := h.len
 obtain ⟨g1, g2⟩ := List.getElem?_eq_some_iff.1 hd
 refine ⟨h.r, ?_, by omega, by omega, h.ol⟩
 rw [h.eq, List.drop_eq_getElem_cons g1, g2]
 rfl
theorem PlD.done {s : Sto} {NL : List ByteArray} {j : Nat} {d : ByteArray} {f : Nat} {t : Sto} {ms : List Mov} {O : List ByteArray} (h : PlD s NL j d f t ms O) (hs : short t d = false) : PlL s NL (j + 1) t ms O := by
 obtain ⟨f, rfl⟩ : ∃ g, f = g + 1 := ⟨f - 1, by have := h.lk; omega⟩
 have h1 := h.len
 have h2 := h.ol
 refine ⟨h.r, ?_, by omega, by omega⟩
 rw [h.eq]
 unfold plIn
 rw [planD_done hs]
 rfl
theorem PlD.stop {s : Sto} {NL : List ByteArray} {j : Nat} {d : ByteArray} {f : Nat} {t : Sto} {ms : List Mov} {O : List ByteArray} (h : PlD s NL j d f t ms O) (hs : short t d = true) (hg : (goodL t d).length = 0 ∨ mor t d = none) : PlL s NL (j + 1) t ms (O ++ [d]) := by
 obtain ⟨f, rfl⟩ : ∃ g, f = g + 1 := ⟨f - 1, by have := h.lk; omega⟩
 have h1 := h.len
 have h2 := h.ol
 refine ⟨h.r, ?_, by omega, by rw [List.length_append]; simp; omega⟩
 have h3 : planD (f + 1) t d = (t, [], true) := by
  by_cases hz : (goodL t d).length = 0
  ·exact planD_lost hs hz
  ·exact planD_open hs (by omega) (hg.resolve_left hz)
 rw [h.eq]
 unfold plIn plAdd
 rw [h3]
 simp only [if_true, List.append_assoc, List.nil_append]
theorem PlD.more {s : Sto} {NL : List ByteArray} {j : Nat} {d : ByteArray} {f : Nat} {t : Sto} {ms : List Mov} {O : List ByteArray} (h : PlD s NL j d f t ms O) (hs : short t d = true) (hg : 0 < (goodL t d).length) {u : Tir} (hm : mor t d = some u) : 1 ≤ f ∧ PlD s NL j d (f - 1) (mvs t (morM t d u)) (ms ++ morM t d u) O := by
 obtain ⟨f, rfl⟩ : ∃ g, f = g + 1 := ⟨f - 1, by have := h.lk; omega⟩
 have h1 := h.len
 have h2 := mor_count h.r hg hm
 have h3 := (mor_good h.r hg hm).2.2.2.2.2.2.2
 have h4 := planD_less h.r hg hm h.lk
 refine ⟨by omega, planD_right h.r hg hm, ?_, by rw [List.length_append]; omega, h4, h.ol⟩
 rw [h.eq]
 unfold plIn plAdd
 rw [planD_more hs hg hm]
 simp only [List.append_assoc, Nat.add_sub_cancel]
end St
end Go.Proofs.YthdiccdnggloiaaGreatDoor

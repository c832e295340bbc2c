/- Parts of the proof, no condition: StTnh, StTnj, StTnk, StTmg, StTmh, StTmi, OrdO. -/
import Derived.Test.YthdiccdnggloiaaGreatDoorPl14
import Derived.Test.YthdiccdnggloiaaGreatDoorPl18
import Derived.Test.YthdiccdnggloiaaGreatDoorPl11
import Derived.Test.YthdiccdnggloiaaGreatDoorPl9
import Derived.Test.YthdiccdnggloiaaGreatDoorPl7
import Derived.Test.YthdiccdnggloiaaGreatDoorPl20
import Derived.Test.YthdiccdnggloiaaGreatDoorPl10
import Derived.Test.YthdiccdnggloiaaGreatDoorPl1
set_option maxRecDepth 100000
set_option maxHeartbeats 16000000
set_option linter.unusedSimpArgs false
set_option linter.unusedVariables false
namespace Go.Proofs.YthdiccdnggloiaaGreatDoor
open Go.RowKit
namespace St
theorem planD_done {f : Nat} {s : Sto} {d : ByteArray} (h : short s d = false) : planD (f + 1) s d = (s, [], false) := by
 rw [planD, if_pos h]
theorem planD_lost {f : Nat} {s : Sto} {d : ByteArray} (h : short s d = true) (hg : (goodL s d).length = 0) : planD (f + 1) s d = (s, [], true) := by
 rw [planD, if_neg (by rw [h]; decide), if_pos hg]
theorem planD_open {f : Nat} {s : Sto} {d : ByteArray} (h : short s d = true) (hg : 0 < (goodL s d).length) (hm : mor s d = none) : planD (f + 1) s d = (s, [], true) := by
 rw [planD, if_neg (by rw [h]; decide), if_neg (by omega), hm]
theorem planD_more {f : Nat} {s : Sto} {d : ByteArray} {u : Tir} (h : short s d = true) (hg : 0 < (goodL s d).length) (hm : mor s d = some u) :
  planD (f + 1) s d = ((planD f (mvs s (morM s d u)) d).1, morM s d u ++ (planD f (mvs s (morM s d u)) d).2.1, (planD f (mvs s (morM s d u)) d).2.2) := by
 rw [planD, if_neg (by rw [h]; decide), if_neg (by omega), hm]
theorem planD_less {f : Nat} {s : Sto} {d : ByteArray} {u : Tir} (r : Right s) (hg : 0 < (goodL s d).length) (hm : mor s d = some u) (hf : lackN s d < f + 1) : lackN (mvs s (morM s d u)) d < f := by
 have := (mor_good r hg hm).2.2.2.2.2.2.2
 omega
theorem planD_right {s : Sto} {d : ByteArray} {u : Tir} (r : Right s) (hg : 0 < (goodL s d).length) (hm : mor s d = some u) : Right (mvs s (morM s d u)) := (mor_good r hg hm).2.2.2.2.2.2.1
end St
namespace St
def Acc : Sto → List Mov → Prop
 | _, [] => True
 | s, m :: l => mvE s m = 0 ∧ Acc (mvS s m) l
theorem acc_app : ∀ {l k : List Mov} {s : Sto}, Acc s l → Acc (mvs s l) k → Acc s (l ++ k)
 | [], k, s, _, h => h
 | m :: l, k, s, h, h2 => ⟨h.1, acc_app h.2 h2⟩
def dropC (c : Cop) : Mov := drop_ c.tier c
theorem mvS_dropC (s : Sto) (x : Cop) : mvS s (dropC x) = { s with copies := wo ckey (ckey x) s.copies } := mvS_drop s x.tier x
theorem drop_acc {s : Sto} (r : Right s) {c : Cop} (hc : c ∈ s.copies) (h : neededD s c.dig = false ∨ c.good = false) : mvE s (dropC c) = 0 := by
 unfold mvE
 rw [if_neg (by rintro ⟨_, h⟩; exact h rfl)]
 show (if hasCopy s c.dig c.tier = false then _ else _) = _
 rw [has_iff.2 ⟨c, hc, rfl, rfl⟩, if_neg (by decide), if_pos (show (dropC c).kind = 2 from rfl)]
 show (if eq ByteArray.empty ⟨#[]⟩ = false then _ else _) = _
 rw [show eq ByteArray.empty ⟨#[]⟩ = true from eq_refl _, if_neg (by decide)]
 rw [if_neg]
 rintro ⟨h1, h2, _⟩
 obtain ⟨c', hc', e1, e2, hg⟩ := (good_iff r).1 h2
 obtain rfl : c' = c := (cop_up r).one hc' hc (by unfold ckey; rw [e1, e2]; rfl)
 rcases h with h | h
 ·have h1 : neededD s c'.dig = true := h1
  rw [h] at h1; cases h1
 ·rw [h] at hg; cases hg
theorem drops_acc {M : List Cop} : ∀ {s : Sto}, Right s → (∀ c ∈ M, c ∈ s.copies) → (M.map ckey).Nodup → (∀ c ∈ M, neededD s c.dig = false ∨ c.good = false) → Acc s (M.map dropC) := by
 induction M with
 | nil => intro s _ _ _ _; trivial
 | cons x M ih =>
   intro s r hm hn hd
   rw [List.map_cons, List.nodup_cons] at hn
   refine ⟨drop_acc r (hm x (by simp)) (hd x (by simp)), ?_⟩
   rw [mvS_dropC]
   refine ih (right_drop r _) (fun c hc => (mem_wo (cop_up r) _ c).2 ⟨hm c (List.mem_cons_of_mem _ hc), fun e => hn.1 (List.mem_map.2 ⟨c, hc, e⟩)⟩) hn.2 (fun c hc => hd c (List.mem_cons_of_mem _ hc))
def Cln (s : Sto) : Prop := ∀ c ∈ s.copies, garbage s c = false
theorem neededD_same {s t : Sto} (h1 : t.files = s.files) (h2 : t.held = s.held) (h3 : t.bin = s.bin) (d : ByteArray) : neededD t d = neededD s d := by
 unfold neededD needed kept; rw [h1, h2, h3]
theorem kind3_free {s : Sto} {d : ByteArray} (h : (filD s.files d).kind = 3) : neededD s d = false := by
 unfold neededD needed
 rw [h, if_neg (by decide), if_neg (by decide)]
theorem mkb_free {s : Sto} {d : ByteArray} (h : mkb s d = true) : neededD s d = false := by
 unfold mkb at h
 rw [Bool.and_eq_true] at h
 exact kind3_free (of_decide_eq_true h.1)
def hard (s : Sto) (n : ByteArray) : Int := used s.files n (s.copies.filter fun c => !mkb s c.dig)
structure Rel (s s' : Sto) (P : ByteArray → Prop) : Prop where
 ti : s'.tiers = s.tiers
 fi : s'.files = s.files
 he : s'.held = s.held
 bi : s'.bin = s.bin
 le : s'.least = s.least
 r : Right s'
 cln : Cln s'
 good : ∀ d, neededD s d = true → ¬ P d → goodL s' d = goodL s d
 has : ∀ d, neededD s d = true → ¬ P d → ∀ t, hasCopy s' d t = hasCopy s d t
 zero : ∀ d, neededD s d = true → ((goodL s' d).length = 0 ↔ (goodL s d).length = 0)
 pot : ∀ n, hard s n ≤ hard s' n
theorem Rel.need {s s' : Sto} {P : ByteArray → Prop} (h : Rel s s' P) (d : ByteArray) : neededD s' d = neededD s d := neededD_same h.fi h.he h.bi d
theorem Rel.refl {s : Sto} (r : Right s) (c : Cln s) (P : ByteArray → Prop) : Rel s s P := ⟨rfl, rfl, rfl, rfl, rfl, r, c, fun _ _ _ => rfl, fun _ _ _ _ => rfl, fun _ _ => Iff.rfl, fun _ => Int.le_refl _⟩
theorem Rel.trans {s s' s'' : Sto} {P : ByteArray → Prop} (h : Rel s s' P) (k : Rel s' s'' P) : Rel s s'' P :=
 ⟨k.ti.trans h.ti, k.fi.trans h.fi, k.he.trans h.he, k.bi.trans h.bi, k.le.trans h.le, k.r, k.cln, fun d hd hp => (k.good d (by rw [h.need]; exact hd) hp).trans (h.good d hd hp), fun d hd hp t => (k.has d (by rw [h.need]; exact hd) hp t).trans (h.has d hd hp t),
  fun d hd => (k.zero d (by rw [h.need]; exact hd)).trans (h.zero d hd), fun n => Int.le_trans (h.pot n) (k.pot n)⟩
theorem run_sublist (F : List Fil) (b : Int) : ∀ (L : List Cop) (f : Int), (run F b L f).1.Sublist L
 | [], f => List.Sublist.refl _
 | c :: L, f => by
   by_cases hb : b ≤ f
   ·rw [run_stop hb]; exact List.nil_sublist _
   ·rw [run_next hb]
    exact (run_sublist F b L _).cons_cons c
theorem goersL_ways {s : Sto} {t : ByteArray} : ∀ c ∈ goersL s t, garbage s c = true ∨ mkb s c.dig = true := by
 unfold goersL
 split
 ·rename_i h
  obtain ⟨M, e, hp, _⟩ := h.choose_spec
  intro c hc
  rw [e] at hc
  rcases List.mem_append.1 hc with hc | hc
  ·have h2 := (List.mem_filter.1 hc).2
   unfold evA at h2
   rw [Bool.and_eq_true] at h2
   exact .inl h2.2
  ·have h2 := (List.mem_filter.1 (hp.subset hc)).2
   unfold evB at h2
   rw [Bool.and_eq_true, Bool.and_eq_true] at h2
   exact .inr h2.2.2
 ·intro c h; cases h
def sz (F : List Fil) : List Cop → Int
 | [] => 0
 | c :: L => sizeOf F c.dig + sz F L
end St
namespace St
theorem wo_len {L : List Cop} (h : Up ckey L) {c : Cop} (hc : c ∈ L) : (wo ckey (ckey c) L).length + 1 = L.length := by
 have hk : hasK ckey L (ckey c) = true := hasK_iff.2 ⟨c, hc, rfl⟩
 obtain ⟨x, hx, hxk⟩ := hasK_at h hk
 have hlt := (List.getElem?_eq_some_iff.1 hx).1
 unfold wo
 rw [if_pos hk, List.length_eraseIdx, if_pos hlt]
 omega
theorem wth_len (L : List Cop) (x : Cop) : (wth ckey x L).length ≤ L.length + 1 := by
 unfold wth
 split
 ·rw [List.length_set]; omega
 ·rw [List.length_append, List.length_cons, List.length_take, List.length_drop]; omega
theorem drops_len {M : List Cop} : ∀ {s : Sto}, Right s → (∀ c ∈ M, c ∈ s.copies) → (M.map ckey).Nodup → (mvs s (M.map dropC)).copies.length + M.length = s.copies.length := by
 induction M with
 | nil => intro s _ _ _; rfl
 | cons x M ih =>
   intro s r hm hn
   rw [List.map_cons, List.nodup_cons] at hn
   have h1 := wo_len (cop_up r) (hm x (by simp))
   have h2 := ih (right_drop r (ckey x)) (fun c hc => (mem_wo (cop_up r) _ c).2 ⟨hm c (List.mem_cons_of_mem _ hc), fun e => hn.1 (List.mem_map.2 ⟨c, hc, e⟩)⟩) hn.2
   rw [List.map_cons, mvs_cons, mvS_dropC, List.length_cons]
   have h2 : (mvs { s with copies := wo ckey (ckey x) s.copies } (M.map dropC)).copies.length + M.length = (wo ckey (ckey x) s.copies).length := h2
   omega
theorem mor_count {s : Sto} (r : Right s) {d : ByteArray} {u : Tir} (hg : 0 < (goodL s d).length) (hm : mor s d = some u) : (mvs s (morM s d u)).copies.length + (morM s d u).length ≤ s.copies.length + 2 := by
 obtain ⟨G, hG⟩ : ∃ G, (evR s u (sizeOf s.files d)).1 = G := ⟨_, rfl⟩
 have hGs : G.Sublist (goersL s u.name) := by rw [← hG]; exact run_sublist _ _ _ _
 have hGm : ∀ c ∈ G, c ∈ s.copies ∧ c.tier = u.name := fun c h => goersL_mem c (hGs.subset h)
 have hGn : (G.map ckey).Nodup := (goersL_nodup r).sublist (hGs.map _)
 have hev : evM s u (sizeOf s.files d) = G.map dropC := by
  unfold evM
  rw [hG]
  refine List.map_congr_left fun c h => ?_
  unfold dropC
  rw [(hGm c h).2]
 have h1 := drops_len r (fun c h => (hGm c h).1) hGn
 have hmm : morM s d u = evM s u (sizeOf s.files d) ++ [⟨1, d, (cheap (goodL s d)).name, u.name⟩] := rfl
 rw [hmm, hev, mvs_snoc, List.length_append, List.length_map]
 generalize mvs s (G.map dropC) = t at *
 have h2 : (mvS t ⟨1, d, (cheap (goodL s d)).name, u.name⟩).copies.length ≤ t.copies.length + 1 := by
  unfold mvS
  rw [if_neg (by show ¬ (1 : Int) = 2; decide)]
  exact wth_len _ _
 simp only [List.length_cons, List.length_nil]
 omega
def plAdd (ms : List Mov) (O : List ByteArray) (R : Sto × List Mov × List ByteArray) : Sto × List Mov × List ByteArray := (R.1, ms ++ R.2.1, O ++ R.2.2)
noncomputable def plIn (f : Nat) (t : Sto) (d : ByteArray) (L : List ByteArray) : Sto × List Mov × List ByteArray :=
 ((planL L (planD f t d).1).1, (planD f t d).2.1 ++ (planL L (planD f t d).1).2.1, (if (planD f t d).2.2 = true then [d] else []) ++ (planL L (planD f t d).1).2.2)
structure PlL (s : Sto) (NL : List ByteArray) (j : Nat) (t : Sto) (ms : List Mov) (O : List ByteArray) : Prop where
 r : Right t
 eq : plan s = plAdd ms O (planL (NL.drop j) t)
 len : ms.length + t.copies.length ≤ 4000 + 16 * j
 ol : O.length ≤ j
 fl : t.files = s.files
structure PlD (s : Sto) (NL : List ByteArray) (j : Nat) (d : ByteArray) (f : Nat) (t : Sto) (ms : List Mov) (O : List ByteArray) : Prop where
 r : Right t
 eq : plan s = plAdd ms O (plIn f t d (NL.drop (j + 1)))
 len : ms.length + t.copies.length + 2 * lackN t d ≤ 4000 + 16 * (j + 1)
 lk : lackN t d < f
 ol : O.length ≤ j
 fl : t.files = s.files
theorem PlL.start {s : Sto} (r : Right s) : PlL s (neededL s) 0 (mvs s (garbM s)) (garbM s) [] := by
 have h1 := drops_len (M := garbageL s) r (fun c h => (List.mem_filter.1 h).1) ((up_nodup (cop_up r)).sublist (List.filter_sublist.map _))
 have h2 := (sizes_iff.1 r.sizes).2.2.2.1
 have h3 : (mvs s (garbM s)).copies.length + (garbageL s).length = s.copies.length := h1
 have h4 : (garbM s).length = (garbageL s).length := List.length_map _
 exact ⟨right_drops r (fun m hm => by obtain ⟨c, _, rfl⟩ := List.mem_map.1 hm; rfl), rfl, by omega, Nat.le_refl _, (mvs_same _ s).2.1⟩
theorem PlL.enter {s : Sto} {NL : List ByteArray} {j : Nat} {t : Sto} {ms : List Mov} {O : List ByteArray} (h : PlL s NL j t ms O) {d : ByteArray} (hd : NL[j]? = some d) : PlD s NL j d 9 t ms O := by
 have h1 := lackN_le t d
 have h2 := (sizes_iff.1 h.r.sizes).2.1
 have h3 := h.len
 obtain ⟨g1, g2⟩ := List.getElem?_eq_some_iff.1 hd
 refine ⟨h.r, ?_, by omega, by omega, h.ol, h.fl⟩
 rw [h.eq, List.drop_eq_getElem_cons g1, g2]
 rfl
theorem PlD.done {s : Sto} {NL : List ByteArray} {j : Nat} {d : ByteArray} {f : Nat} {t : Sto} {ms : List Mov} {O : List ByteArray} (h : PlD s NL j d f t ms O) (hs : short t d = false) : PlL s NL (j + 1) t ms O := by
 obtain ⟨f, rfl⟩ : ∃ g, f = g + 1 := ⟨f - 1, by have := h.lk; omega⟩
 have h1 := h.len
 have h2 := h.ol
 refine ⟨h.r, ?_, by omega, by omega, h.fl⟩
 rw [h.eq]
 unfold plIn
 rw [planD_done hs]
 rfl
theorem PlD.stop {s : Sto} {NL : List ByteArray} {j : Nat} {d : ByteArray} {f : Nat} {t : Sto} {ms : List Mov} {O : List ByteArray} (h : PlD s NL j d f t ms O) (hs : short t d = true) (hg : (goodL t d).length = 0 ∨ mor t d = none) : PlL s NL (j + 1) t ms (O ++ [d]) := by
 obtain ⟨f, rfl⟩ : ∃ g, f = g + 1 := ⟨f - 1, by have := h.lk; omega⟩
 have h1 := h.len
 have h2 := h.ol
 refine ⟨h.r, ?_, by omega, by rw [List.length_append]; simp; omega, h.fl⟩
 have h3 : planD (f + 1) t d = (t, [], true) := by
  by_cases hz : (goodL t d).length = 0
  ·exact planD_lost hs hz
  ·exact planD_open hs (by omega) (hg.resolve_left hz)
 rw [h.eq]
 unfold plIn plAdd
 rw [h3]
 simp only [if_true, List.append_assoc, List.nil_append]
theorem PlD.more {s : Sto} {NL : List ByteArray} {j : Nat} {d : ByteArray} {f : Nat} {t : Sto} {ms : List Mov} {O : List ByteArray} (h : PlD s NL j d f t ms O) (hs : short t d = true) (hg : 0 < (goodL t d).length) {u : Tir} (hm : mor t d = some u) : 1 ≤ f ∧ PlD s NL j d (f - 1) (mvs t (morM t d u)) (ms ++ morM t d u) O := by
 obtain ⟨f, rfl⟩ : ∃ g, f = g + 1 := ⟨f - 1, by have := h.lk; omega⟩
 have h1 := h.len
 have h2 := mor_count h.r hg hm
 have h3 := (mor_good h.r hg hm).2.2.2.2.2.2.2
 have h4 := planD_less h.r hg hm h.lk
 refine ⟨by omega, planD_right h.r hg hm, ?_, by rw [List.length_append]; omega, h4, h.ol, (mvs_same _ t).2.1.trans h.fl⟩
 rw [h.eq]
 unfold plIn plAdd
 rw [planD_more hs hg hm]
 simp only [List.append_assoc, Nat.add_sub_cancel]
theorem mor_acc {s : Sto} (r : Right s) {d : ByteArray} {u : Tir} (hg : 0 < (goodL s d).length) (hm : mor s d = some u) : Acc s (morM s d u) := by
 obtain ⟨_, _, _, _, _, hE, _, _⟩ := mor_good r hg hm
 obtain ⟨G, hG⟩ : ∃ G, (evR s u (sizeOf s.files d)).1 = G := ⟨_, rfl⟩
 have hGs : G.Sublist (goersL s u.name) := by rw [← hG]; exact run_sublist _ _ _ _
 have hGm : ∀ c ∈ G, c ∈ s.copies ∧ c.tier = u.name := fun c h => goersL_mem c (hGs.subset h)
 have hGn : (G.map ckey).Nodup := (goersL_nodup r).sublist (hGs.map _)
 have hev : evM s u (sizeOf s.files d) = G.map dropC := by
  unfold evM
  rw [hG]
  refine List.map_congr_left fun c h => ?_
  unfold dropC
  rw [(hGm c h).2]
 have hA := drops_acc r (fun c h => (hGm c h).1) hGn (fun c h => by
  rcases goersL_ways c (hGs.subset h) with g3 | g3
  ·unfold garbage at g3
   cases e1 : neededD s c.dig with
   | false => exact .inl rfl
   | true => cases e2 : c.good with
     | false => exact .inr rfl
     | true => rw [e1, e2] at g3; cases g3
  ·exact .inl (mkb_free g3))
 have hmm : morM s d u = evM s u (sizeOf s.files d) ++ [⟨1, d, (cheap (goodL s d)).name, u.name⟩] := rfl
 rw [hev] at hE hmm
 rw [hmm]
 exact acc_app hA ⟨hE, trivial⟩
theorem garb_acc {s : Sto} (r : Right s) : Acc s (garbM s) :=
 drops_acc r (fun c h => (List.mem_filter.1 h).1) ((up_nodup (cop_up r)).sublist (List.filter_sublist.map _)) (fun c h => by
  have h1 := (List.mem_filter.1 h).2
  unfold garbage at h1
  cases e1 : neededD s c.dig with
  | false => exact .inl rfl
  | true => cases e2 : c.good with
    | false => exact .inr rfl
    | true => rw [e1, e2] at h1; cases h1)
theorem acc_get : ∀ {l : List Mov} {s : Sto} {j : Nat} {m : Mov}, Right s → Acc s l → l[j]? = some m → mvE (mvs s (l.take j)) m = 0 ∧ Right (mvs s (l.take j))
 | [], s, j, m, _, _, h => by simp at h
 | x :: l, s, 0, m, r, hA, h => by
   simp at h
   subst h
   exact ⟨hA.1, r⟩
 | x :: l, s, j + 1, m, r, hA, h => by
   rw [List.take_succ_cons, mvs_cons]
   exact acc_get (right_mv r hA.1) hA.2 (by simpa using h)
theorem needed_file {s : Sto} {d : ByteArray} (h : d ∈ neededL s) : (filD s.files d).dig = d := by
 obtain ⟨f, hf, rfl⟩ := List.mem_map.1 h
 obtain ⟨h1, h2⟩ := List.mem_filter.1 hf
 have h3 : ∃ g, fileOf s.files f.dig = some g := by
  cases e : fileOf s.files f.dig with
  | some g => exact ⟨g, rfl⟩
  | none =>
    unfold fileOf at e
    rw [List.find?_eq_none] at e
    exact absurd (eq_refl _) (e f h1)
 obtain ⟨g, hg⟩ := h3
 unfold filD
 rw [hg]
 exact eq_iff.1 (find_mem hg).2
end St
end Go.Proofs.YthdiccdnggloiaaGreatDoor
namespace Go.Proofs.YthdiccdnggloiaaGreatDoor
open Go.RowKit Go.Sort Go.Shelf Go.Maps
namespace St
theorem has_at (s : Sto) (d t : ByteArray) : hasCopy s d t = decide (0 ≤ copyAt s d t) := by
 have h := idx_any (p := isCop d t) s.copies
 have h2 : hasCopy s d t = s.copies.any (isCop d t) := rfl
 rw [h2, ← h]; rfl
theorem at_good {s : Sto} {d t : ByteArray} (h : 0 ≤ copyAt s d t) : ∃ (k : Nat) (c : Cop), copyAt s d t = (k : Int) ∧ s.copies[k]? = some c ∧ goodAt s d t = c.good := by
 obtain ⟨c, h1, _, h2⟩ := (good_idx s d t).2 (copyAt s d t).toNat (by omega)
 exact ⟨_, c, by omega, h1, h2⟩
end St
theorem moveErrorR_is (s : Sto) (a : StA) (m : Mov) (w : World) (hI : StIn w s a) (r : St.Right s) :
  Calls Tryz.prog 129 #[.agg #[.int .i64 s.least, .int .i64 s.wait, .slice a.ta s.tiers.length a.tc, .slice a.fa s.files.length a.fc, .slice a.ca s.copies.length a.cc, .slice a.ha s.held.length a.hc, .slice a.ba s.bin.length a.bc], .agg #[.int .i64 m.kind, .string m.dig, .string m.frm, .string m.dst]] w fun e w' => e = .returned (.int .i64 (St.mvE s m)) ∧ Below w.heap.size w w' := by
 obtain ⟨kd, hkd⟩ : ∃ kd, m.kind = kd := ⟨_, rfl⟩
 rw [hkd]
 obtain ⟨W1, hW1, hP, hz1, hB1⟩ := box w #[.int .i64 s.least, .int .i64 s.wait, .slice a.ta s.tiers.length a.tc, .slice a.fa s.files.length a.fc, .slice a.ca s.copies.length a.cc, .slice a.ha s.held.length a.hc, .slice a.ba s.bin.length a.bc] 28
 obtain ⟨W2, hW2, hX, hz2, hB2⟩ := box W1 #[.int .i64 kd, .string m.dig, .string m.frm, .string m.dst] 52
 rw [hz1] at hX
 have HW1 := Lib.hid hW1; have HW2 := Lib.hid hW2
 have HBB := Lib.hid (below_up hB1 hB2)
 have hP := hP.keep hB2
 have HI2 := Lib.hid (hI.keep HBB.out)
 obtain ⟨_, y1, y2, y3, y4, y5⟩ := St.sizes_iff.1 r.sizes
 obtain ⟨ck, hck⟩ : ∃ ck, St.copyAt s m.dig m.frm = ck := ⟨_, rfl⟩
 obtain ⟨de, hde⟩ : ∃ de, St.eq m.dst ⟨#[]⟩ = de := ⟨_, rfl⟩
 obtain ⟨y, hy⟩ : ∃ y, St.filD s.files m.dig = y := ⟨_, rfl⟩
 obtain ⟨nd, hnd⟩ : ∃ nd, St.needed s y = nd := ⟨_, rfl⟩
 obtain ⟨gd, hgd⟩ : ∃ gd, St.goodAt s m.dig m.frm = gd := ⟨_, rfl⟩
 obtain ⟨gl, hgl⟩ : ∃ gl, (St.goodL s m.dig).length = gl := ⟨_, rfl⟩
 obtain ⟨c2, hc2⟩ : ∃ c2, St.copyAt s m.dig m.dst = c2 := ⟨_, rfl⟩
 obtain ⟨tn, htn⟩ : ∃ tn, St.tierAt s.tiers m.dst = tn := ⟨_, rfl⟩
 have HSZ : Hid (y.size = St.sizeOf s.files m.dig) := Lib.hid (by rw [← hy]; exact St.filD_size _ _)
 have HE : Hid (St.mvE s m = if kd ≠ 1 ∧ kd ≠ 2 then 10 else if decide (0 ≤ ck) = false then 7 else if kd = 2 then (if de = false then 1 else if nd = true ∧ gd = true ∧ gl = 1 then 14 else 0)
  else if decide (0 ≤ tn) = false then 7 else if decide (0 ≤ c2) = true then 6 else if gd = false then 11 else if St.freeIn s m.dst < y.size then 12 else 0) := Lib.hid (by
  rw [← hkd, ← hck, ← hde, ← hnd, ← hgd, ← hgl, ← hc2, ← htn, ← St.hasTier_idx, ← St.has_at, ← St.has_at, HSZ.out, ← hy]; rfl)
 have HCP : Hid (0 ≤ ck → ∃ (k : Nat) (c : Cop), ck = (k : Int) ∧ s.copies[k]? = some c ∧ c.good = gd) := Lib.hid fun h => by
  rw [← hck] at h
  obtain ⟨k, c, h1, h2, h3⟩ := St.at_good h
  exact ⟨k, c, hck.symm.trans h1, h2, h3.symm.trans hgd⟩
 have HTG : Hid (0 ≤ tn → ∃ (k : Nat) (x : Tir), tn = (k : Int) ∧ s.tiers[k]? = some x ∧ x.name = m.dst ∧ St.tierAt s.tiers x.name = (k : Int) ∧ (0 ≤ x.room ∧ x.room ≤ 1000000000000) ∧ St.freeIn s m.dst = x.room - St.used s.files x.name s.copies) := Lib.hid fun h => by
  rw [← htn] at h
  obtain ⟨k, x, hk, hka, hx⟩ := St.tier_get h
  exact ⟨k, x, htn.symm.trans hka, hk, hx, by rw [hx]; exact hka, (St.tier_good r (List.mem_of_getElem? hk)).2.1, by unfold St.freeIn; rw [St.room_get hk hka, hx]⟩
 have hde2 : m.dst.toList.isEmpty = de := by rw [← eq_empty]; exact hde
 have HIN := Lib.hid (fun V => inS_is kd 1 2 V)
 have HCO := Lib.hid (fun V (hv : Below W2.heap.size W2 V) => copyOf_is s a m.dig m.frm V (HI2.out.keep hv))
 have HCT := Lib.hid (fun V (hv : Below W2.heap.size W2 V) => copyOf_is s a m.dig m.dst V (HI2.out.keep hv))
 obtain ⟨yb, hyb⟩ : ∃ yb, yb = (St.fileOf s.files m.dig).isSome := ⟨_, rfl⟩
 have HFO := Lib.hid (fun V (hv : Below W2.heap.size W2 V) => filOf_is s a m.dig V (HI2.out.keep hv) y hy.symm yb hyb)
 have HTO := Lib.hid (fun V (hv : Below W2.heap.size W2 V) => tierOf_is s a m.dst V (HI2.out.keep hv))
 have HND := Lib.hid (fun V (hv : Below W2.heap.size W2 V) => neededR_is s a y V (HI2.out.keep hv))
 have HGO := Lib.hid (fun V (hv : Below W2.heap.size W2 V) => goodOf_is s a m.dig V (HI2.out.keep hv) y1 y3)
 unfold TirPost at HGO
 have HFR := Lib.hid (fun (x : Tir) (k : Nat) (hk : s.tiers[k]? = some x) (hka : St.tierAt s.tiers x.name = (k : Int)) (hr : 0 ≤ x.room ∧ x.room ≤ 1000000000000) V (hv : Below W2.heap.size W2 V) => freeIn_is s a x k hk hka V (HI2.out.keep hv) (St.szs_of (F := s.files) (fun f hf => (r.dig f hf).2)) y3 hr)
 rw [hck] at HCO
 rw [hc2] at HCT
 rw [htn] at HTO
 rw [hnd] at HND
 rw [hgl] at HGO
 have HCL : Hid (∀ W, Below W2.heap.size W2 W → (W.cell? ⟨w.heap.size, 0, none⟩ = some (.int .i64 s.least) ∧ W.cell? ⟨w.heap.size, 1, none⟩ = some (.int .i64 s.wait) ∧ W.cell? ⟨w.heap.size, 2, none⟩ = some (.slice a.ta s.tiers.length a.tc) ∧ W.cell? ⟨w.heap.size, 3, none⟩ = some (.slice a.fa s.files.length a.fc) ∧ W.cell? ⟨w.heap.size, 4, none⟩ = some (.slice a.ca s.copies.length a.cc) ∧ W.cell? ⟨w.heap.size, 5, none⟩ = some (.slice a.ha s.held.length a.hc) ∧ W.cell? ⟨w.heap.size, 6, none⟩ = some (.slice a.ba s.bin.length a.bc)) ∧ W.cell? ⟨w.heap.size + 1, 0, none⟩ = some (.int .i64 kd) ∧ W.cell? ⟨w.heap.size + 1, 1, none⟩ = some (.string m.dig) ∧ W.cell? ⟨w.heap.size + 1, 2, none⟩ = some (.string m.frm) ∧ W.cell? ⟨w.heap.size + 1, 3, none⟩ = some (.string m.dst)) := Lib.hid fun W hv => ⟨(hP.keep hv).seven, (hX.keep hv).four⟩
 have HY3 := Lib.hid y3
 clear hI r hW1 hP hz1 hB1 hW2 hX hz2 hB2 hkd hck hde hnd hgd hgl hc2 htn hy hyb y1 y2 y3 y4 y5
 go_enter Tryz.func129, Tryz.ntmps129
 go_upto_region 1 with fail
 rw [HW1.out, HW2.out]
 have hv : Below W2.heap.size W2 W2 := Below.refl _ _
 obtain ⟨⟨q0, q1, q2, q3, q4, q5, q6⟩, m0, m1, m2, m3⟩ := HCL.out _ hv
 by_cases hk12 : kd ≠ 1 ∧ kd ≠ 2
 ·have hin : St.inB kd 1 2 = false := decide_eq_false (by omega)
  rw [hin] at HIN
  have HK12 := Lib.hid hk12
  have HBZ := Lib.hid (below_up HBB.out hv)
  go_wp2_with (go_at_call 70; (with_reducible refine (HIN.out _).mono ?_); rintro e wa ⟨rfl, rfl⟩)
  go_ret
  exact ⟨ret_int (by rw [HE.out]; exact (if_pos HK12.out).symm), HBZ.out⟩
 ·have hin : St.inB kd 1 2 = true := decide_eq_true (by omega)
  rw [hin] at HIN
  go_upto_region 4 with (first
   | (go_at_call 70; (with_reducible refine (HIN.out _).mono ?_); rintro e wa ⟨rfl, rfl⟩)
   | (go_at_call 80; (with_reducible refine (HCO.out _ hv).mono ?_); rintro e wb ⟨rfl, hq⟩; have hv := below_up hv hq; obtain ⟨⟨q0, q1, q2, q3, q4, q5, q6⟩, m0, m1, m2, m3⟩ := HCL.out _ hv))
  by_cases hc0 : ck < 0
  ·have hc1 : decide (ck < 0) = true := decide_eq_true hc0
   have hc3 : decide (0 ≤ ck) = false := decide_eq_false (by omega)
   have HBZ := Lib.hid (below_up HBB.out hv)
   go_wp2_with fail
   go_ret
   exact ⟨ret_int (by rw [HE.out]; rw [if_neg hk12, hc3]; rfl), HBZ.out⟩
  ·have hc1 : decide (ck < 0) = false := decide_eq_false hc0
   have hc3 : decide (0 ≤ ck) = true := decide_eq_true (by omega)
   obtain ⟨k, c, hkc, hcp, hcg⟩ := HCP.out (by omega)
   have HE2 : Hid (St.mvE s m = if kd = 2 then (if de = false then 1 else if nd = true ∧ gd = true ∧ gl = 1 then 14 else 0)
    else if decide (0 ≤ tn) = false then 7 else if decide (0 ≤ c2) = true then 6 else if gd = false then 11 else if St.freeIn s m.dst < y.size then 12 else 0) := Lib.hid (by rw [HE.out, if_neg hk12, hc3]; rfl)
   clear HE
   have HE := HE2
   clear HE2 HCP
   have hpl := (List.getElem?_eq_some_iff.1 hcp).1
   have hp0 : (0 : Int) ≤ (k : Int) := by omega
   have hp1 : (k : Int) < (s.copies.length : Int) := by omega
   have hp4 := HY3.out
   obtain ⟨bb, off, ha, hb, hcell⟩ := HI2.out.co (by omega)
   have HC2 : Hid (∀ V, Below W2.heap.size W2 V → V.cell? ⟨bb, off + k * 4 + 2, none⟩ = some (.bool gd)) := Lib.hid fun V hv => (hv.cell (p := ⟨bb, off + k * 4 + 2, none⟩) hb).trans (by rw [← hcg]; exact hcell k c hcp 2 (.bool c.good) rfl)
   subst hkc
   have HA := Lib.hid ha
   clear hcp hcg hb hcell ha
   go_upto_region 7 with (first
    | (go_at_call 76; (with_reducible refine (HFO.out _ hv).mono ?_); rintro e w7 ⟨rfl, hq⟩; have hv := below_up hv hq; obtain ⟨⟨q0, q1, q2, q3, q4, q5, q6⟩, m0, m1, m2, m3⟩ := HCL.out _ hv)
    | (refine wpList_store_row rfl 30 _ _ rfl w7.heap.size #[.string y.dig, .int .i64 y.size, .int .i64 y.kind, .string y.frm] rfl rfl 30 #[.string ⟨#[]⟩, .int .i64 0, .int .i64 0, .string ⟨#[]⟩] (heap_alloc_new w7 _) infoFilS rfl (by simp [Value.oneCell']) ?_))
   obtain ⟨X, hX, hXB, hXz, hXW⟩ := fillNew w7 #[.string ⟨#[]⟩, .int .i64 0, .int .i64 0, .string ⟨#[]⟩] #[.string y.dig, .int .i64 y.size, .int .i64 y.kind, .string y.frm] 30
   rw [hX]
   have hv := below_up hv hXW
   have HXB := Lib.hid hXB
   have hu : Below X.heap.size X X := Below.refl _ _
   clear hX hXz hXW hXB hq q0 q1 q2 q3 q4 q5 q6 m0 m1 m2 m3
   obtain ⟨⟨q0, q1, q2, q3, q4, q5, q6⟩, m0, m1, m2, m3⟩ := HCL.out _ hv
   obtain ⟨x0, x1, x2, x3⟩ := HXB.out.four
   by_cases hk2 : kd = 2
   ·subst hk2
    cases de with
    | false =>
      have HBZ := Lib.hid (below_up HBB.out hv)
      go_wp2_with fail
      go_ret
      exact ⟨ret_int (by rw [HE.out]; rfl), HBZ.out⟩
    | true =>
      have hv0 := hv
      rw [HA.out] at HND HGO HCL
      rw [HA.out] at q4
      cases nd with
      | false =>
        go_wp2_with (go_at_call 116; (with_reducible refine (HND.out _ hv).mono ?_); rintro e wd ⟨rfl, hq⟩; have hv := below_up hv hq; obtain ⟨⟨q0, q1, q2, q3, q4, q5, q6⟩, m0, m1, m2, m3⟩ := HCL.out _ hv)
        have HBZ := Lib.hid (below_up HBB.out hv)
        go_ret
        exact ⟨ret_int (by rw [HE.out]; rfl), HBZ.out⟩
      | true =>
        cases gd with
        | false =>
          go_wp2_with (go_at_call 116; (with_reducible refine (HND.out _ hv).mono ?_); rintro e wd ⟨rfl, hq⟩; have hv := below_up hv hq; obtain ⟨⟨q0, q1, q2, q3, q4, q5, q6⟩, m0, m1, m2, m3⟩ := HCL.out _ hv; have c2 := HC2.out _ hv)
          have HBZ := Lib.hid (below_up HBB.out hv)
          go_ret
          exact ⟨ret_int (by rw [HE.out]; rfl), HBZ.out⟩
        | true =>
          by_cases hg1 : gl = 1
          ·subst hg1
           go_wp2_with (first
            | (go_at_call 116; (with_reducible refine (HND.out _ hv).mono ?_); rintro e wd ⟨rfl, hq⟩; have hv := below_up hv hq; obtain ⟨⟨q0, q1, q2, q3, q4, q5, q6⟩, m0, m1, m2, m3⟩ := HCL.out _ hv; have c2 := HC2.out _ hv)
            | (go_at_call 118; (with_reducible refine (HGO.out _ hv).mono ?_); rintro e we ⟨g, cap, rfl, ho, hq⟩; have hv := below_up hv hq; obtain ⟨⟨q0, q1, q2, q3, q4, q5, q6⟩, m0, m1, m2, m3⟩ := HCL.out _ hv))
           have HBZ := Lib.hid (below_up HBB.out hv)
           go_ret
           exact ⟨ret_int (by rw [HE.out]; rfl), HBZ.out⟩
          ·have hg2 : ((gl : Int) == 1) = false := by rw [beq_eq_false_iff_ne]; omega
           have hg3 : ¬ ((gl : Int) = 1) := by omega
           go_wp2_with (first
            | (go_at_call 116; (with_reducible refine (HND.out _ hv).mono ?_); rintro e wd ⟨rfl, hq⟩; have hv := below_up hv hq; obtain ⟨⟨q0, q1, q2, q3, q4, q5, q6⟩, m0, m1, m2, m3⟩ := HCL.out _ hv; have c2 := HC2.out _ hv)
            | (go_at_call 118; (with_reducible refine (HGO.out _ hv).mono ?_); rintro e we ⟨g, cap, rfl, ho, hq⟩; have hv := below_up hv hq; obtain ⟨⟨q0, q1, q2, q3, q4, q5, q6⟩, m0, m1, m2, m3⟩ := HCL.out _ hv))
           have HBZ := Lib.hid (below_up HBB.out hv)
           go_ret
           exact ⟨ret_int (by rw [HE.out]; simp [hg1]), HBZ.out⟩
   ·obtain rfl : kd = 1 := by omega
    by_cases ht : tn < 0
    ·have ht1 : decide (tn < 0) = true := decide_eq_true ht
     have ht2 : decide (0 ≤ tn) = false := decide_eq_false (by omega)
     go_wp2_with (go_at_call 72; (with_reducible refine (HTO.out _ hv).mono ?_); rintro e wd ⟨rfl, hq⟩; have hv := below_up hv hq; obtain ⟨⟨q0, q1, q2, q3, q4, q5, q6⟩, m0, m1, m2, m3⟩ := HCL.out _ hv; have hu := below_up hu hq; obtain ⟨x0, x1, x2, x3⟩ := (HXB.out.keep hu).four)
     have HBZ := Lib.hid (below_up HBB.out hv)
     go_ret
     exact ⟨ret_int (by rw [HE.out, ht2]; rfl), HBZ.out⟩
    ·have ht1 : decide (tn < 0) = false := decide_eq_false ht
     have ht2 : decide (0 ≤ tn) = true := decide_eq_true (by omega)
     obtain ⟨tk, x, htk, hkx, hxn, hka, hxr, hfi⟩ := HTG.out (by omega)
     have HE2 : Hid (St.mvE s m = if decide (0 ≤ c2) = true then 6 else if gd = false then 11 else if x.room - St.used s.files x.name s.copies < y.size then 12 else 0) := Lib.hid (by rw [HE.out, ht2, hfi]; rfl)
     clear HE
     have HE := HE2
     clear HE2
     have HF := Lib.hid (fun V hv => HFR.out x tk hkx hka hxr V hv)
     generalize x.room - St.used s.files x.name s.copies = fq at *
     rw [hxn] at HF
     clear hkx hxn hka hxr hfi HFR htk
     by_cases hd2 : 0 ≤ c2
     ·have hd3 : decide (0 ≤ c2) = true := decide_eq_true hd2
      go_wp2_with (first | (go_at_call 72; (with_reducible refine (HTO.out _ hv).mono ?_); rintro e wd ⟨rfl, hq⟩; have hv := below_up hv hq; obtain ⟨⟨q0, q1, q2, q3, q4, q5, q6⟩, m0, m1, m2, m3⟩ := HCL.out _ hv; have hu := below_up hu hq; obtain ⟨x0, x1, x2, x3⟩ := (HXB.out.keep hu).four) | (go_at_call 80; (with_reducible refine (HCT.out _ hv).mono ?_); rintro e we ⟨rfl, hq⟩; have hv := below_up hv hq; obtain ⟨⟨q0, q1, q2, q3, q4, q5, q6⟩, m0, m1, m2, m3⟩ := HCL.out _ hv; have hu := below_up hu hq; obtain ⟨x0, x1, x2, x3⟩ := (HXB.out.keep hu).four))
      have HBZ := Lib.hid (below_up HBB.out hv)
      go_ret
      exact ⟨ret_int (by rw [HE.out, hd3]; rfl), HBZ.out⟩
     ·have hd3 : decide (0 ≤ c2) = false := decide_eq_false hd2
      have hd4 : ¬ (0 ≤ c2) := hd2
      go_upto_region 12 with (first | (go_at_call 72; (with_reducible refine (HTO.out _ hv).mono ?_); rintro e wd ⟨rfl, hq⟩; have hv := below_up hv hq; obtain ⟨⟨q0, q1, q2, q3, q4, q5, q6⟩, m0, m1, m2, m3⟩ := HCL.out _ hv; have hu := below_up hu hq; obtain ⟨x0, x1, x2, x3⟩ := (HXB.out.keep hu).four) | (go_at_call 80; (with_reducible refine (HCT.out _ hv).mono ?_); rintro e we ⟨rfl, hq⟩; have hv := below_up hv hq; obtain ⟨⟨q0, q1, q2, q3, q4, q5, q6⟩, m0, m1, m2, m3⟩ := HCL.out _ hv; have hu := below_up hu hq; obtain ⟨x0, x1, x2, x3⟩ := (HXB.out.keep hu).four))
      have cg := HC2.out _ hv
      cases gd with
      | false =>
        rw [HA.out] at q4
        have HBZ := Lib.hid (below_up HBB.out hv)
        go_wp2_with fail
        go_ret
        exact ⟨ret_int (by rw [HE.out, hd3]; rfl), HBZ.out⟩
      | true =>
        rw [HA.out] at q4
        go_upto_region 14 with fail
        have hv := hv.drew
        have hu := hu.drew
        clear q0 q1 q2 q3 q4 q5 q6 m0 m1 m2 m3 cg x0 x1 x2 x3
        obtain ⟨⟨q0, q1, q2, q3, q4, q5, q6⟩, m0, m1, m2, m3⟩ := HCL.out _ hv
        obtain ⟨x0, x1, x2, x3⟩ := (HXB.out.keep hu).four
        by_cases hfq : fq < y.size
        ·have HFQ := Lib.hid hfq
         have hf1 : decide (fq < y.size) = true := decide_eq_true hfq
         have hf2 : (fq < y.size) = True := eq_true hfq
         go_region_held3 (fun W => ((W.cell? ⟨w.heap.size, 0, none⟩ = some (.int .i64 s.least) ∧ W.cell? ⟨w.heap.size, 1, none⟩ = some (.int .i64 s.wait) ∧ W.cell? ⟨w.heap.size, 2, none⟩ = some (.slice a.ta s.tiers.length a.tc) ∧ W.cell? ⟨w.heap.size, 3, none⟩ = some (.slice a.fa s.files.length a.fc) ∧ W.cell? ⟨w.heap.size, 4, none⟩ = some (.slice a.ca s.copies.length a.cc) ∧ W.cell? ⟨w.heap.size, 5, none⟩ = some (.slice a.ha s.held.length a.hc) ∧ W.cell? ⟨w.heap.size, 6, none⟩ = some (.slice a.ba s.bin.length a.bc)) ∧ W.cell? ⟨w.heap.size + 1, 0, none⟩ = some (.int .i64 1) ∧ W.cell? ⟨w.heap.size + 1, 1, none⟩ = some (.string m.dig) ∧ W.cell? ⟨w.heap.size + 1, 2, none⟩ = some (.string m.frm) ∧ W.cell? ⟨w.heap.size + 1, 3, none⟩ = some (.string m.dst)) ∧ W.cell? ⟨w7.heap.size, 1, none⟩ = some (.int .i64 y.size))
          (first | (with_reducible exact ⟨⟨⟨q0, q1, q2, q3, q4, q5, q6⟩, m0, m1, m2, m3⟩, x1⟩))
          (first
           | (go_at_call 36; (with_reducible refine (HF.out _ hv).mono ?_); rintro e we ⟨rfl, hq⟩; have hv := below_up hv hq; obtain ⟨⟨q0, q1, q2, q3, q4, q5, q6⟩, m0, m1, m2, m3⟩ := HCL.out _ hv; have hu := below_up hu hq; obtain ⟨x0, x1, x2, x3⟩ := (HXB.out.keep hu).four)
           | fail)
         all_goals
          rename_i hHeld
          clear hHeld
          have HBZ := Lib.hid (below_up HBB.out hv)
          go_wp2_with fail
          go_ret
          exact ⟨ret_int (by rw [HE.out]; rw [hd3]; exact (if_pos (by have := HFQ.out; omega)).symm), HBZ.out⟩
        ·have HFQ := Lib.hid hfq
         have hf1 : decide (fq < y.size) = false := decide_eq_false hfq
         have hf2 : (fq < y.size) = False := eq_false hfq
         go_region_held3 (fun W => ((W.cell? ⟨w.heap.size, 0, none⟩ = some (.int .i64 s.least) ∧ W.cell? ⟨w.heap.size, 1, none⟩ = some (.int .i64 s.wait) ∧ W.cell? ⟨w.heap.size, 2, none⟩ = some (.slice a.ta s.tiers.length a.tc) ∧ W.cell? ⟨w.heap.size, 3, none⟩ = some (.slice a.fa s.files.length a.fc) ∧ W.cell? ⟨w.heap.size, 4, none⟩ = some (.slice a.ca s.copies.length a.cc) ∧ W.cell? ⟨w.heap.size, 5, none⟩ = some (.slice a.ha s.held.length a.hc) ∧ W.cell? ⟨w.heap.size, 6, none⟩ = some (.slice a.ba s.bin.length a.bc)) ∧ W.cell? ⟨w.heap.size + 1, 0, none⟩ = some (.int .i64 1) ∧ W.cell? ⟨w.heap.size + 1, 1, none⟩ = some (.string m.dig) ∧ W.cell? ⟨w.heap.size + 1, 2, none⟩ = some (.string m.frm) ∧ W.cell? ⟨w.heap.size + 1, 3, none⟩ = some (.string m.dst)) ∧ W.cell? ⟨w7.heap.size, 1, none⟩ = some (.int .i64 y.size))
          (first | (with_reducible exact ⟨⟨⟨q0, q1, q2, q3, q4, q5, q6⟩, m0, m1, m2, m3⟩, x1⟩))
          (first
           | (go_at_call 36; (with_reducible refine (HF.out _ hv).mono ?_); rintro e we ⟨rfl, hq⟩; have hv := below_up hv hq; obtain ⟨⟨q0, q1, q2, q3, q4, q5, q6⟩, m0, m1, m2, m3⟩ := HCL.out _ hv; have hu := below_up hu hq; obtain ⟨x0, x1, x2, x3⟩ := (HXB.out.keep hu).four)
           | fail)
         all_goals
          rename_i hHeld
          clear hHeld
          have HBZ := Lib.hid (below_up HBB.out hv)
          go_wp2_with fail
          go_ret
          exact ⟨ret_int (by rw [HE.out]; rw [hd3]; exact (if_neg (by have := HFQ.out; omega)).symm), HBZ.out⟩
namespace St
theorem cop_new {s : Sto} (r : Right s) {d t : ByteArray} {x : Int} (hd : d.size = 16) (hn : hasCopy s d t = false) :
  wth ckey ⟨d, t, true, x⟩ s.copies = s.copies.take (pos ckey (key d t) s.copies) ++ (⟨d, t, true, x⟩ : Cop) :: s.copies.drop (pos ckey (key d t) s.copies) ∧ (∀ i y, s.copies[i]? = some y → i < pos ckey (key d t) s.copies → ahead y ⟨d, t, true, x⟩ = true) ∧ (∀ y, s.copies[pos ckey (key d t) s.copies]? = some y → ahead y ⟨d, t, true, x⟩ = false) := by
 have hhk : hasK ckey s.copies (key d t) = false := by rw [← hasCopy_any r]; exact hn
 refine ⟨wth_new (key := ckey) (x := (⟨d, t, true, x⟩ : Cop)) hhk, fun i y hy hi => ?_, fun y hy => ?_⟩
 ·rw [ahead_key (b := (⟨d, t, true, x⟩ : Cop)) ((cop_dig r (List.mem_of_getElem? hy)).trans hd.symm)]
  exact pos_before hy hi
 ·rw [ahead_key (b := (⟨d, t, true, x⟩ : Cop)) ((cop_dig r (List.mem_of_getElem? hy)).trans hd.symm)]
  exact pos_at hy
end St
theorem movedR_drop (s : Sto) (a : StA) (m : Mov) (w : World) (hI : StIn w s a) (r : St.Right s) (hk : m.kind = 2) (hh : St.hasCopy s m.dig m.frm = true) :
  Calls Tryz.prog 126 #[.agg #[.int .i64 s.least, .int .i64 s.wait, .slice a.ta s.tiers.length a.tc, .slice a.fa s.files.length a.fc, .slice a.ca s.copies.length a.cc, .slice a.ha s.held.length a.hc, .slice a.ba s.bin.length a.bc], .agg #[.int .i64 m.kind, .string m.dig, .string m.frm, .string m.dst]] w (OwnPut w (St.mvS s m)) := by
 rw [hk]
 obtain ⟨W1, hW1, hP, hz1, hB1⟩ := box w #[.int .i64 s.least, .int .i64 s.wait, .slice a.ta s.tiers.length a.tc, .slice a.fa s.files.length a.fc, .slice a.ca s.copies.length a.cc, .slice a.ha s.held.length a.hc, .slice a.ba s.bin.length a.bc] 28
 obtain ⟨W2, hW2, hX, hz2, hB2⟩ := box W1 #[.int .i64 2, .string m.dig, .string m.frm, .string m.dst] 52
 obtain ⟨W3, hW3, hQ, hz3, hB3⟩ := box W2 #[.int .i64 0, .int .i64 0, .slice none 0 0, .slice none 0 0, .slice none 0 0, .slice none 0 0, .slice none 0 0] 28
 rw [hz1] at hX hz2
 rw [hz2] at hQ hz3
 have HW1 := Lib.hid hW1; have HW2 := Lib.hid hW2; have HW3 := Lib.hid hW3
 have hBB := below_up hB1 (below_up hB2 hB3)
 have HBB := Lib.hid hBB
 have hP := (hP.keep hB2).keep hB3
 have hX := hX.keep hB3
 have HP := Lib.hid hP; have HQ := Lib.hid hQ; have HX := Lib.hid hX
 have HI3 := Lib.hid (hI.keep hBB)
 have HI0 := Lib.hid hI
 have HZ3 : Hid (W3.heap.size = w.heap.size + 3) := Lib.hid (by omega)
 obtain ⟨_, y1, y2, y3, y4, y5⟩ := St.sizes_iff.1 r.sizes
 have hck0 : 0 ≤ St.copyAt s m.dig m.frm := by have h := hh; rw [St.has_at] at h; exact of_decide_eq_true h
 have h16 := St.has16 r hh
 have hpos := (St.copyAt_pos (t := m.frm) r h16).1 (by rw [← St.hasCopy_any r]; exact hh)
 have HCO := Lib.hid (fun V (hv : Below W3.heap.size W3 V) => copyOf_is s a m.dig m.frm V (HI3.out.keep hv))
 rw [hpos] at HCO
 have HCL : Hid (∀ W, Below W3.heap.size W3 W → (W.cell? ⟨w.heap.size, 0, none⟩ = some (.int .i64 s.least) ∧ W.cell? ⟨w.heap.size, 1, none⟩ = some (.int .i64 s.wait) ∧ W.cell? ⟨w.heap.size, 2, none⟩ = some (.slice a.ta s.tiers.length a.tc) ∧ W.cell? ⟨w.heap.size, 3, none⟩ = some (.slice a.fa s.files.length a.fc) ∧ W.cell? ⟨w.heap.size, 4, none⟩ = some (.slice a.ca s.copies.length a.cc) ∧ W.cell? ⟨w.heap.size, 5, none⟩ = some (.slice a.ha s.held.length a.hc) ∧ W.cell? ⟨w.heap.size, 6, none⟩ = some (.slice a.ba s.bin.length a.bc)) ∧ W.cell? ⟨w.heap.size + 1, 0, none⟩ = some (.int .i64 2) ∧ W.cell? ⟨w.heap.size + 1, 1, none⟩ = some (.string m.dig) ∧ W.cell? ⟨w.heap.size + 1, 2, none⟩ = some (.string m.frm) ∧ W.cell? ⟨w.heap.size + 1, 3, none⟩ = some (.string m.dst)) := Lib.hid fun W hv => ⟨(hP.keep hv).seven, (hX.keep hv).four⟩
 clear hW1 hW2 hW3 hP hX hQ hz1 hz2 hz3 hB1 hB2 hB3 hck0
 have HCP := Lib.hid (fun V (hv : Below W3.heap.size W3 V) => twin_is s a V (HI3.out.keep hv) ⟨y1, y2, y3, y4, y5⟩)
 unfold CpyPost at HCP
 have hhk : St.hasK St.ckey s.copies (St.key m.dig m.frm) = true := by rw [← St.hasCopy_any r]; exact hh
 obtain ⟨c, hcp, _⟩ := St.copy_pos r hh
 have hpl := (List.getElem?_eq_some_iff.1 hcp).1
 have HMS : Hid (St.mvS s m = { s with copies := s.copies.eraseIdx (St.pos St.ckey (St.key m.dig m.frm) s.copies) }) := Lib.hid (by unfold St.mvS St.wo; rw [if_pos hk, if_pos hhk])
 generalize St.pos St.ckey (St.key m.dig m.frm) s.copies = p at *
 obtain ⟨CS, hCS⟩ : ∃ CS, s.copies.eraseIdx p = CS := ⟨_, rfl⟩
 have HCS := Lib.hid hCS
 rw [hCS] at HMS
 obtain ⟨n, hn⟩ : ∃ n, s.copies.length = n + 1 := ⟨s.copies.length - 1, by omega⟩
 have HN := Lib.hid hn
 have HCN : Hid (CS.length = n) := Lib.hid (by rw [← hCS, List.length_eraseIdx_of_lt hpl, hn]; rfl)
 have hp0 : (0 : Int) ≤ (p : Int) := by omega
 have hp1 : p ≤ n := by omega
 have hp4 : n ≤ 4000 := by omega
 have hpw : IntKind.i64.wrap ((p : Int) + 1) = (p : Int) + 1 := by rw [IntKind.wrap_i64]; omega
 clear hI r hk hh h16 hpos y1 y2 y3 y4 y5 hhk hcp hpl hCS hn
 go_enter Tryz.func126, Tryz.ntmps126
 go_upto_region 1 with fail
 rw [HW1.out, HW2.out, HW3.out]
 have hv : Below W3.heap.size W3 W3 := Below.refl _ _
 obtain ⟨⟨q0, q1, q2, q3, q4, q5, q6⟩, m0, m1, m2, m3⟩ := HCL.out _ hv
 go_upto_region 5 with (first
  | (go_at_call 80; (with_reducible refine (HCO.out _ hv).mono ?_); rintro e w6 ⟨rfl, hq⟩; have hv := below_up hv hq; obtain ⟨⟨q0, q1, q2, q3, q4, q5, q6⟩, m0, m1, m2, m3⟩ := HCL.out _ hv)
  | (go_at_call 81; (with_reducible refine (HCP.out _ hv).mono ?_); rintro e w8 ⟨b, rfl, hOwn, hB8⟩)
  | (refine wpList_store_row rfl 28 _ _ rfl w.heap.size #[.int .i64 s.least, .int .i64 s.wait, .slice b.ta s.tiers.length b.tc, .slice b.fa s.files.length b.fc, .slice b.ca s.copies.length b.cc, .slice b.ha s.held.length b.hc, .slice b.ba s.bin.length b.bc] rfl rfl 28 _ (HP.out.keep (below_up hv hB8)) infoSto rfl (by simp [Value.oneCell']) ?_))
 have hlt4 : w.heap.size + 2 < W3.heap.size := by have := HZ3.out; omega
 have hv8 := below_up hv hB8
 have hPv := Blk.setRowAt (HP.out.keep hv8) #[.int .i64 s.least, .int .i64 s.wait, .slice b.ta s.tiers.length b.tc, .slice b.fa s.files.length b.fc, .slice b.ca s.copies.length b.cc, .slice b.ha s.held.length b.hc, .slice b.ba s.bin.length b.bc]
 have hQv := (HQ.out.keep hv8).setRowOther (b' := w.heap.size) (by omega) #[.int .i64 s.least, .int .i64 s.wait, .slice b.ta s.tiers.length b.tc, .slice b.fa s.files.length b.fc, .slice b.ca s.copies.length b.cc, .slice b.ha s.held.length b.hc, .slice b.ba s.bin.length b.bc]
 have hBv := below_setRow (below_up HBB.out hv8) (Nat.le_refl w.heap.size) #[.int .i64 s.least, .int .i64 s.wait, .slice b.ta s.tiers.length b.tc, .slice b.fa s.files.length b.fc, .slice b.ca s.copies.length b.cc, .slice b.ha s.held.length b.hc, .slice b.ba s.bin.length b.bc]
 have hOv := (hOwn.down hv.size).setRow (b := w.heap.size) (by omega) #[.int .i64 s.least, .int .i64 s.wait, .slice b.ta s.tiers.length b.tc, .slice b.fa s.files.length b.fc, .slice b.ca s.copies.length b.cc, .slice b.ha s.held.length b.hc, .slice b.ba s.bin.length b.bc]
 have hVz : W3.heap.size ≤ (w8.setRow w.heap.size #[.int .i64 s.least, .int .i64 s.wait, .slice b.ta s.tiers.length b.tc, .slice b.fa s.files.length b.fc, .slice b.ca s.copies.length b.cc, .slice b.ha s.held.length b.hc, .slice b.ba s.bin.length b.bc]).heap.size := by have := hv8.size; simp; omega
 obtain ⟨V, hV⟩ : ∃ V, w8.setRow w.heap.size #[.int .i64 s.least, .int .i64 s.wait, .slice b.ta s.tiers.length b.tc, .slice b.fa s.files.length b.fc, .slice b.ca s.copies.length b.cc, .slice b.ha s.held.length b.hc, .slice b.ba s.bin.length b.bc] = V := ⟨_, rfl⟩
 rw [hV] at hPv hQv hBv hOv hVz ⊢
 obtain ⟨g, cap, hgc, hco⟩ : ∃ g cap, (Value.slice b.ca s.copies.length b.cc) = .slice (some ⟨g, 0, none⟩) (n + 1) cap ∧ OwnC V W3.heap.size 74 4 g (n + 1) cap (St.eC.flat s.copies) := by
  have h := hOv.co
  rw [HN.out] at h ⊢
  rcases h with ⟨_, h0, _⟩ | ⟨g, cap, h0, hc⟩
  ·omega
  ·exact ⟨g, cap, h0, hc⟩
 have HPv := Lib.hid hPv; have HOv := Lib.hid hOv; have HBv := Lib.hid hBv; have HQv := Lib.hid hQv; have HVz := Lib.hid hVz; have HLT := Lib.hid hlt4; have HCO2 := Lib.hid hco
 have hdl := cp_del W3.heap.size g n cap p (St.eC.flat s.copies) V hco hp1 (by omega) (Enc.flat_one St.eC s.copies)
 rw [flat_delC, HCS.out] at hdl
 have HDL := Lib.hid hdl
 have HGC := Lib.hid hgc
 clear hV q0 q1 q2 q3 q4 q5 q6 hOwn hB8 hv8 hv hPv hQv hBv hOv hVz hlt4 hco hdl m0 m1 m2 m3
 obtain ⟨q0, q1, q2, q3, q4, q5, q6⟩ := HPv.out.seven
 rw [hgc] at q4
 clear hgc
 go_upto_region 6 with (go_at_call 187; (with_reducible refine HDL.out.mono ?_); rintro e x1 ⟨rfl, ho1, hg1⟩; have hP1 : Blk x1 w.heap.size #[.int .i64 s.least, .int .i64 s.wait, .slice b.ta s.tiers.length b.tc, .slice b.fa s.files.length b.fc, .slice b.ca s.copies.length b.cc, .slice b.ha s.held.length b.hc, .slice b.ba s.bin.length b.bc] 28 := HPv.out.of_block (hg1.block _ (by have := HLT.out; have := HVz.out; omega) (by intro e; have := HCO2.out.lt.1; have := HLT.out; have e2 := Option.some.inj e; omega)); obtain ⟨q0, q1, q2, q3, q4, q5, q6⟩ := hP1.seven; have qf := hP1.free; have HO1 := Lib.hid ho1; have HG1 := Lib.hid hg1; clear ho1 hg1)
 have hlt := HLT.out
 have hgB := HCO2.out.lt
 have hPy : Blk (x1.setCell ⟨w.heap.size, 4, none⟩ (.slice (some ⟨g, 0, none⟩) n cap)) w.heap.size #[.int .i64 s.least, .int .i64 s.wait, .slice b.ta s.tiers.length b.tc, .slice b.fa s.files.length b.fc, .slice (some ⟨g, 0, none⟩) n cap, .slice b.ha s.held.length b.hc, .slice b.ba s.bin.length b.bc] 28 := hP1.set 4 (.slice (some ⟨g, 0, none⟩) n cap)
 have hQy : Blk (x1.setCell ⟨w.heap.size, 4, none⟩ (.slice (some ⟨g, 0, none⟩) n cap)) (w.heap.size + 2) #[.int .i64 0, .int .i64 0, .slice none 0 0, .slice none 0 0, .slice none 0 0, .slice none 0 0, .slice none 0 0] 28 := (HQv.out.of_block (HG1.out.block _ (by have := HVz.out; omega) (by intro e; have e2 := Option.some.inj e; omega))).setOther (a := ⟨w.heap.size, 4, none⟩) (by simp <;> omega) _
 have hrow : OwnV x1 W3.heap.size 74 4 (.slice (some ⟨g, 0, none⟩) CS.length cap) CS.length (St.eC.flat CS) := .inr ⟨g, cap, rfl, by rw [HCN.out]; exact HO1.out⟩
 have hgrow : V.grownBy x1 (Value.slice b.ca s.copies.length b.cc).ownBlock := by rw [HGC.out]; exact HG1.out
 have hOy := (HOv.out.copPut hrow hgrow).cellB (show w.heap.size < W3.heap.size by omega) 4 (.slice (some ⟨g, 0, none⟩) n cap)
 have hBy := (below_ownE HBv.out (HOv.out.co.down (show w.heap.size ≤ W3.heap.size by omega)) hgrow (by have := HVz.out; omega)).setCell (p := ⟨w.heap.size, 4, none⟩) (Nat.le_refl _) (.slice (some ⟨g, 0, none⟩) n cap)
 obtain ⟨Y, hY⟩ : ∃ Y, x1.setCell ⟨w.heap.size, 4, none⟩ (.slice (some ⟨g, 0, none⟩) n cap) = Y := ⟨_, rfl⟩
 rw [hY] at hPy hQy hOy hBy ⊢
 have HOZ := Lib.hid ((hOy.setRow (b := w.heap.size + 2) (by omega) #[.int .i64 s.least, .int .i64 s.wait, .slice b.ta s.tiers.length b.tc, .slice b.fa s.files.length b.fc, .slice (some ⟨g, 0, none⟩) n cap, .slice b.ha s.held.length b.hc, .slice b.ba s.bin.length b.bc]).down (show w.heap.size ≤ W3.heap.size by omega))
 have HBZ := Lib.hid (below_setRow hBy (show w.heap.size ≤ w.heap.size + 2 by omega) #[.int .i64 s.least, .int .i64 s.wait, .slice b.ta s.tiers.length b.tc, .slice b.fa s.files.length b.fc, .slice (some ⟨g, 0, none⟩) n cap, .slice b.ha s.held.length b.hc, .slice b.ba s.bin.length b.bc])
 clear q0 q1 q2 q3 q4 q5 q6 qf hP1 hrow hgrow hOy hBy hY hlt hgB
 obtain ⟨q0, q1, q2, q3, q4, q5, q6⟩ := hPy.seven
 clear hPy
 go_wp2_with (refine wpList_store_row rfl 28 _ _ rfl (w.heap.size + 2) #[.int .i64 s.least, .int .i64 s.wait, .slice b.ta s.tiers.length b.tc, .slice b.fa s.files.length b.fc, .slice (some ⟨g, 0, none⟩) n cap, .slice b.ha s.held.length b.hc, .slice b.ba s.bin.length b.bc] rfl rfl 28 _ hQy infoSto rfl (by simp [Value.oneCell']) ?_)
 obtain ⟨g0, g1, g2, g3, g4, g5, g6⟩ := (Blk.setRowAt hQy #[.int .i64 s.least, .int .i64 s.wait, .slice b.ta s.tiers.length b.tc, .slice b.fa s.files.length b.fc, .slice (some ⟨g, 0, none⟩) n cap, .slice b.ha s.held.length b.hc, .slice b.ba s.bin.length b.bc]).seven
 refine bodyPost_ret (v := .agg #[.int .i64 s.least, .int .i64 s.wait, .slice b.ta s.tiers.length b.tc, .slice b.fa s.files.length b.fc, .slice (some ⟨g, 0, none⟩) n cap, .slice b.ha s.held.length b.hc, .slice b.ba s.bin.length b.bc]) (by simp [results, Tryz.results126, go_sem, g0, g1, g2, g3, g4, g5, g6]) rfl ?_
 rw [HMS.out]
 refine ⟨⟨b.ta, b.tc, b.fa, b.fc, some ⟨g, 0, none⟩, cap, b.ha, b.hc, b.ba, b.bc⟩, by rw [HCN.out], ?_, HBZ.out⟩
 exact HOZ.out
theorem movedR_copy (s : Sto) (a : StA) (m : Mov) (w : World) (hI : StIn w s a) (r : St.Right s) (hk : m.kind = 1) (hh : St.hasCopy s m.dig m.frm = true) (hn : St.hasCopy s m.dig m.dst = false) :
  Calls Tryz.prog 126 #[.agg #[.int .i64 s.least, .int .i64 s.wait, .slice a.ta s.tiers.length a.tc, .slice a.fa s.files.length a.fc, .slice a.ca s.copies.length a.cc, .slice a.ha s.held.length a.hc, .slice a.ba s.bin.length a.bc], .agg #[.int .i64 m.kind, .string m.dig, .string m.frm, .string m.dst]] w (OwnPut w (St.mvS s m)) := by
 rw [hk]
 obtain ⟨W1, hW1, hP, hz1, hB1⟩ := box w #[.int .i64 s.least, .int .i64 s.wait, .slice a.ta s.tiers.length a.tc, .slice a.fa s.files.length a.fc, .slice a.ca s.copies.length a.cc, .slice a.ha s.held.length a.hc, .slice a.ba s.bin.length a.bc] 28
 obtain ⟨W2, hW2, hX, hz2, hB2⟩ := box W1 #[.int .i64 1, .string m.dig, .string m.frm, .string m.dst] 52
 obtain ⟨W3, hW3, hQ, hz3, hB3⟩ := box W2 #[.int .i64 0, .int .i64 0, .slice none 0 0, .slice none 0 0, .slice none 0 0, .slice none 0 0, .slice none 0 0] 28
 rw [hz1] at hX hz2
 rw [hz2] at hQ hz3
 have HW1 := Lib.hid hW1; have HW2 := Lib.hid hW2; have HW3 := Lib.hid hW3
 have hBB := below_up hB1 (below_up hB2 hB3)
 have HBB := Lib.hid hBB
 have hP := (hP.keep hB2).keep hB3
 have hX := hX.keep hB3
 have HP := Lib.hid hP; have HQ := Lib.hid hQ; have HX := Lib.hid hX
 have HI3 := Lib.hid (hI.keep hBB)
 have HI0 := Lib.hid hI
 have HZ3 : Hid (W3.heap.size = w.heap.size + 3) := Lib.hid (by omega)
 obtain ⟨_, y1, y2, y3, y4, y5⟩ := St.sizes_iff.1 r.sizes
 have hck0 : 0 ≤ St.copyAt s m.dig m.frm := by have h := hh; rw [St.has_at] at h; exact of_decide_eq_true h
 have h16 := St.has16 r hh
 have hpos := (St.copyAt_pos (t := m.frm) r h16).1 (by rw [← St.hasCopy_any r]; exact hh)
 have HCO := Lib.hid (fun V (hv : Below W3.heap.size W3 V) => copyOf_is s a m.dig m.frm V (HI3.out.keep hv))
 rw [hpos] at HCO
 have HCL : Hid (∀ W, Below W3.heap.size W3 W → (W.cell? ⟨w.heap.size, 0, none⟩ = some (.int .i64 s.least) ∧ W.cell? ⟨w.heap.size, 1, none⟩ = some (.int .i64 s.wait) ∧ W.cell? ⟨w.heap.size, 2, none⟩ = some (.slice a.ta s.tiers.length a.tc) ∧ W.cell? ⟨w.heap.size, 3, none⟩ = some (.slice a.fa s.files.length a.fc) ∧ W.cell? ⟨w.heap.size, 4, none⟩ = some (.slice a.ca s.copies.length a.cc) ∧ W.cell? ⟨w.heap.size, 5, none⟩ = some (.slice a.ha s.held.length a.hc) ∧ W.cell? ⟨w.heap.size, 6, none⟩ = some (.slice a.ba s.bin.length a.bc)) ∧ W.cell? ⟨w.heap.size + 1, 0, none⟩ = some (.int .i64 1) ∧ W.cell? ⟨w.heap.size + 1, 1, none⟩ = some (.string m.dig) ∧ W.cell? ⟨w.heap.size + 1, 2, none⟩ = some (.string m.frm) ∧ W.cell? ⟨w.heap.size + 1, 3, none⟩ = some (.string m.dst)) := Lib.hid fun W hv => ⟨(hP.keep hv).seven, (hX.keep hv).four⟩
 clear hW1 hW2 hW3 hP hX hQ hz1 hz2 hz3 hB1 hB2 hB3 hck0
 obtain ⟨c, hcp, hcd, hct, _, hca⟩ := St.copy_pos r hh
 obtain ⟨ak, hak⟩ : ∃ ak, St.askedOf s m.dig m.frm 0 = ak := ⟨_, rfl⟩
 rw [hak] at hca
 obtain ⟨hcw, hpb, hpa⟩ := St.cop_new (x := ak) r h16 hn
 have hHM : St.mvS s m = { s with copies := St.wth St.ckey ⟨m.dig, m.dst, true, ak⟩ s.copies } := by unfold St.mvS; rw [if_neg (by omega), hak]
 rw [hcw] at hHM
 have hkn : St.copyAt s m.dig m.dst < 0 := by have h := hn; rw [St.has_at] at h; have := of_decide_eq_false h; omega
 have HWC := Lib.hid (fun V (hv : Below W3.heap.size W3 V) => withCopyR_is s a ⟨m.dig, m.dst, true, ak⟩ (St.pos St.ckey (St.key m.dig m.dst) s.copies) V (HI3.out.keep hv) ⟨y1, y2, y3, y4, y5⟩ hkn (St.pos_le _ _ _) hpb hpa)
 rw [← hHM] at HWC
 unfold OwnPut at HWC
 obtain ⟨t, ht⟩ : ∃ t, St.mvS s m = t := ⟨_, rfl⟩
 rw [ht] at HWC ⊢
 generalize St.pos St.ckey (St.key m.dig m.frm) s.copies = p at *
 have hpl := (List.getElem?_eq_some_iff.1 hcp).1
 have hp0 : (0 : Int) ≤ (p : Int) := by omega
 have hp1 : (p : Int) < (s.copies.length : Int) := by omega
 have hp4 := y3
 obtain ⟨bb, off, ha, hb, hcell⟩ := hI.co (by omega)
 have hac := hcell p c hcp 3 (.int .i64 c.asked) rfl
 rw [← hca] at hac
 have HAC : Hid (w.cell? ⟨bb, off + p * 4 + 3, none⟩ = some (.int .i64 ak)) := Lib.hid hac
 have HBL : Hid (bb < w.heap.size) := Lib.hid hb
 rw [ha] at HWC
 have HCA : Hid (∀ W, Below W3.heap.size W3 W → (W.cell? ⟨w.heap.size, 0, none⟩ = some (.int .i64 s.least) ∧ W.cell? ⟨w.heap.size, 1, none⟩ = some (.int .i64 s.wait) ∧ W.cell? ⟨w.heap.size, 2, none⟩ = some (.slice a.ta s.tiers.length a.tc) ∧ W.cell? ⟨w.heap.size, 3, none⟩ = some (.slice a.fa s.files.length a.fc) ∧ W.cell? ⟨w.heap.size, 4, none⟩ = some (.slice (some ⟨bb, off, none⟩) s.copies.length a.cc) ∧ W.cell? ⟨w.heap.size, 5, none⟩ = some (.slice a.ha s.held.length a.hc) ∧ W.cell? ⟨w.heap.size, 6, none⟩ = some (.slice a.ba s.bin.length a.bc)) ∧ (W.cell? ⟨w.heap.size + 1, 0, none⟩ = some (.int .i64 1) ∧ W.cell? ⟨w.heap.size + 1, 1, none⟩ = some (.string m.dig) ∧ W.cell? ⟨w.heap.size + 1, 2, none⟩ = some (.string m.frm) ∧ W.cell? ⟨w.heap.size + 1, 3, none⟩ = some (.string m.dst)) ∧ W.cell? ⟨bb, off + p * 4 + 3, none⟩ = some (.int .i64 ak)) := Lib.hid fun W hv => by
  obtain ⟨h1, h2⟩ := HCL.out W hv
  rw [ha] at h1
  exact ⟨h1, h2, ((below_up HBB.out hv).cell (p := ⟨bb, off + p * 4 + 3, none⟩) HBL.out).trans HAC.out⟩
 have HF7 : Hid (∀ V, Below W3.heap.size W3 V → ∀ u0 u1 u2 u3 u4 u5 u6, (fun W : World => (W.cell? ⟨w.heap.size, 0, none⟩ = some (.int .i64 s.least) ∧ W.cell? ⟨w.heap.size, 1, none⟩ = some (.int .i64 s.wait) ∧ W.cell? ⟨w.heap.size, 2, none⟩ = some (.slice a.ta s.tiers.length a.tc) ∧ W.cell? ⟨w.heap.size, 3, none⟩ = some (.slice a.fa s.files.length a.fc) ∧ W.cell? ⟨w.heap.size, 4, none⟩ = some (.slice (some ⟨bb, off, none⟩) s.copies.length a.cc) ∧ W.cell? ⟨w.heap.size, 5, none⟩ = some (.slice a.ha s.held.length a.hc) ∧ W.cell? ⟨w.heap.size, 6, none⟩ = some (.slice a.ba s.bin.length a.bc)) ∧ (W.cell? ⟨w.heap.size + 1, 0, none⟩ = some (.int .i64 1) ∧ W.cell? ⟨w.heap.size + 1, 1, none⟩ = some (.string m.dig) ∧ W.cell? ⟨w.heap.size + 1, 2, none⟩ = some (.string m.frm) ∧ W.cell? ⟨w.heap.size + 1, 3, none⟩ = some (.string m.dst)) ∧ W.cell? ⟨bb, off + p * 4 + 3, none⟩ = some (.int .i64 ak)) (((((((V.setCell ⟨w.heap.size + 1 + 1, 0, none⟩ u0).setCell ⟨w.heap.size + 1 + 1, 1, none⟩ u1).setCell ⟨w.heap.size + 1 + 1, 2, none⟩ u2).setCell ⟨w.heap.size + 1 + 1, 3, none⟩ u3).setCell ⟨w.heap.size + 1 + 1, 4, none⟩ u4).setCell ⟨w.heap.size + 1 + 1, 5, none⟩ u5).setCell ⟨w.heap.size + 1 + 1, 6, none⟩ u6)) := Lib.hid fun V hv u0 u1 u2 u3 u4 u5 u6 => by
  have h := (blk_seven (q := w.heap.size + 1 + 1) (HP.out.keep hv) (by omega) 0 1 2 3 4 5 6 u0 u1 u2 u3 u4 u5 u6).seven
  rw [ha] at h
  have h2 := (blk_seven (q := w.heap.size + 1 + 1) (HX.out.keep hv) (by omega) 0 1 2 3 4 5 6 u0 u1 u2 u3 u4 u5 u6).four
  have hq3 : w.heap.size ≤ w.heap.size + 1 + 1 := by omega
  have h3 := ((((((((below_up HBB.out hv).setCell (p := ⟨w.heap.size + 1 + 1, 0, none⟩) hq3 u0).setCell (p := ⟨w.heap.size + 1 + 1, 1, none⟩) hq3 u1).setCell (p := ⟨w.heap.size + 1 + 1, 2, none⟩) hq3 u2).setCell (p := ⟨w.heap.size + 1 + 1, 3, none⟩) hq3 u3).setCell (p := ⟨w.heap.size + 1 + 1, 4, none⟩) hq3 u4).setCell (p := ⟨w.heap.size + 1 + 1, 5, none⟩) hq3 u5).setCell (p := ⟨w.heap.size + 1 + 1, 6, none⟩) hq3 u6)
  exact ⟨h, h2, (h3.cell (p := ⟨bb, off + p * 4 + 3, none⟩) HBL.out).trans HAC.out⟩
 clear hI r hk hh hn h16 hpos y1 y2 y3 y4 y5 hcp hcd hct hca hak hcw hpb hpa hHM hkn ht hpl ha hb hcell hac
 go_enter Tryz.func126, Tryz.ntmps126
 go_upto_region 1 with fail
 rw [HW1.out, HW2.out, HW3.out]
 have hv : Below W3.heap.size W3 W3 := Below.refl _ _
 obtain ⟨⟨q0, q1, q2, q3, q4, q5, q6⟩, m0, m1, m2, m3⟩ := HCL.out _ hv
 go_upto_region 3 with (go_at_call 80; (with_reducible refine (HCO.out _ hv).mono ?_); rintro e w6 ⟨rfl, hq⟩; have hv := below_up hv hq; obtain ⟨⟨q0, q1, q2, q3, q4, q5, q6⟩, m0, m1, m2, m3⟩ := HCL.out _ hv)
 have hv := hv.drew
 clear q0 q1 q2 q3 q4 q5 q6 m0 m1 m2 m3
 obtain ⟨⟨q0, q1, q2, q3, q4, q5, q6⟩, ⟨m0, m1, m2, m3⟩, ca⟩ := HCA.out _ hv
 go_region_held3 (fun W => (W.cell? ⟨w.heap.size, 0, none⟩ = some (.int .i64 s.least) ∧ W.cell? ⟨w.heap.size, 1, none⟩ = some (.int .i64 s.wait) ∧ W.cell? ⟨w.heap.size, 2, none⟩ = some (.slice a.ta s.tiers.length a.tc) ∧ W.cell? ⟨w.heap.size, 3, none⟩ = some (.slice a.fa s.files.length a.fc) ∧ W.cell? ⟨w.heap.size, 4, none⟩ = some (.slice (some ⟨bb, off, none⟩) s.copies.length a.cc) ∧ W.cell? ⟨w.heap.size, 5, none⟩ = some (.slice a.ha s.held.length a.hc) ∧ W.cell? ⟨w.heap.size, 6, none⟩ = some (.slice a.ba s.bin.length a.bc)) ∧ (W.cell? ⟨w.heap.size + 1, 0, none⟩ = some (.int .i64 1) ∧ W.cell? ⟨w.heap.size + 1, 1, none⟩ = some (.string m.dig) ∧ W.cell? ⟨w.heap.size + 1, 2, none⟩ = some (.string m.frm) ∧ W.cell? ⟨w.heap.size + 1, 3, none⟩ = some (.string m.dst)) ∧ W.cell? ⟨bb, off + p * 4 + 3, none⟩ = some (.int .i64 ak))
  (first | (with_reducible exact ⟨⟨q0, q1, q2, q3, q4, q5, q6⟩, ⟨m0, m1, m2, m3⟩, ca⟩) | (with_reducible exact hk7 _ _ _ _ _ _ _) | go_keep)
  (first
   | (go_at_call 83; (with_reducible refine (HWC.out _ hv).mono ?_); rintro e w9 ⟨c, rfl, hO9, hB9⟩; have hz9 := hv.size; have hv := below_up hv hB9; obtain ⟨⟨q0, q1, q2, q3, q4, q5, q6⟩, ⟨m0, m1, m2, m3⟩, ca⟩ := HCA.out _ hv; have hQ9 := HQ.out.keep hv; obtain ⟨r0, r1, r2, r3, r4, r5, r6⟩ := hQ9.seven; have rf := hQ9.free; have hk7 := HF7.out w9 hv)
   | fail)
 have hO9 := hO9.down hz9
 have hq2 : w.heap.size + 1 + 1 < W3.heap.size := by have := HZ3.out; omega
 have hq3 : w.heap.size ≤ w.heap.size + 1 + 1 := by omega
 have HOZ := Lib.hid (((((((((hO9.cellB (b := w.heap.size + 1 + 1) hq2 0 (.int .i64 t.least)).cellB (b := w.heap.size + 1 + 1) hq2 1 (.int .i64 t.wait)).cellB (b := w.heap.size + 1 + 1) hq2 2 (.slice c.ta t.tiers.length c.tc)).cellB (b := w.heap.size + 1 + 1) hq2 3 (.slice c.fa t.files.length c.fc)).cellB (b := w.heap.size + 1 + 1) hq2 4 (.slice c.ca t.copies.length c.cc)).cellB (b := w.heap.size + 1 + 1) hq2 5 (.slice c.ha t.held.length c.hc)).cellB (b := w.heap.size + 1 + 1) hq2 6 (.slice c.ba t.bin.length c.bc))).down (show w.heap.size ≤ W3.heap.size by omega))
 have HBZ := Lib.hid ((((((((below_up HBB.out hv).setCell (p := ⟨w.heap.size + 1 + 1, 0, none⟩) hq3 (.int .i64 t.least)).setCell (p := ⟨w.heap.size + 1 + 1, 1, none⟩) hq3 (.int .i64 t.wait)).setCell (p := ⟨w.heap.size + 1 + 1, 2, none⟩) hq3 (.slice c.ta t.tiers.length c.tc)).setCell (p := ⟨w.heap.size + 1 + 1, 3, none⟩) hq3 (.slice c.fa t.files.length c.fc)).setCell (p := ⟨w.heap.size + 1 + 1, 4, none⟩) hq3 (.slice c.ca t.copies.length c.cc)).setCell (p := ⟨w.heap.size + 1 + 1, 5, none⟩) hq3 (.slice c.ha t.held.length c.hc)).setCell (p := ⟨w.heap.size + 1 + 1, 6, none⟩) hq3 (.slice c.ba t.bin.length c.bc))
 obtain ⟨g0, g1, g2, g3, g4, g5, g6⟩ : _ ∧ _ := (((((((hQ9.set 0 (.int .i64 t.least)).set 1 (.int .i64 t.wait)).set 2 (.slice c.ta t.tiers.length c.tc)).set 3 (.slice c.fa t.files.length c.fc)).set 4 (.slice c.ca t.copies.length c.cc)).set 5 (.slice c.ha t.held.length c.hc)).set 6 (.slice c.ba t.bin.length c.bc)).seven
 clear hO9 hv q0 q1 q2 q3 q4 q5 q6 m0 m1 m2 m3 ca r0 r1 r2 r3 r4 r5 r6 rf hQ9 hk7
 go_wp2_with fail
 refine bodyPost_ret (v := .agg #[.int .i64 t.least, .int .i64 t.wait, .slice c.ta t.tiers.length c.tc, .slice c.fa t.files.length c.fc, .slice c.ca t.copies.length c.cc, .slice c.ha t.held.length c.hc, .slice c.ba t.bin.length c.bc]) (by simp [results, Tryz.results126, go_sem, g0, g1, g2, g3, g4, g5, g6]) rfl ?_
 exact ⟨_, rfl, HOZ.out, HBZ.out⟩
theorem movedR_is (s : Sto) (a : StA) (m : Mov) (w : World) (hI : StIn w s a) (r : St.Right s) (hq : St.mvE s m = 0) :
  Calls Tryz.prog 126 #[.agg #[.int .i64 s.least, .int .i64 s.wait, .slice a.ta s.tiers.length a.tc, .slice a.fa s.files.length a.fc, .slice a.ca s.copies.length a.cc, .slice a.ha s.held.length a.hc, .slice a.ba s.bin.length a.bc], .agg #[.int .i64 m.kind, .string m.dig, .string m.frm, .string m.dst]] w (OwnPut w (St.mvS s m)) := by
 obtain ⟨h1, _, h | h⟩ := St.mv_ways r hq
 ·exact movedR_drop s a m w hI r h.1 h1
 ·exact movedR_copy s a m w hI r h.1 h1 h.2.2.2.1
end Go.Proofs.YthdiccdnggloiaaGreatDoor
namespace Go.Proofs.YthdiccdnggloiaaGreatDoor
open Go
section
variable {P : Program} {ops : Array Oper} {Q : Exit → Act → World → Prop} {md : Region.Mode} {C : World → Prop} {m k q : Nat}
theorem anyM_firstVia2 {i : Nat} {oi om ok oq : Oper} {v : Value} (hi : ops[i]? = some oi) (hom : ops[m]? = some om) (hok : ops[k]? = some ok) (hoq : ops[q]? = some oq) (hwm : ∃ e ∈ om.after, Region.binds md e = true ∧ e.on = q) (hwq : ∃ e ∈ oq.after, Region.binds md e = true ∧ e.on = k) (hwk : ∃ e ∈ ok.after, Region.binds md e = true ∧ e.on = i) (him : i ≠ m) (hik : i ≠ k) (hkm : k ≠ m)
  (hsel : ∀ (j : Nat) (o : Oper) cs b, ops[j]? = some o → o.op ≠ .select cs b) (hQ : ∀ c a w, Q (.panic c) (a.put oi.dst v) w → Q (.panic c) a w) :
  ∀ (f : Nat) (l : Array Bool) (a : Act) (w : World),
    (∀ j oj, ops[j]? = some oj → j ≠ i → j ≠ m → l.getD j true = false → (∀ e ∈ oj.after, Region.binds md e = true → e.on ≠ i) → oi.apart ops oj = true) →
    i ∈ Region.ready md ops l → YieldsIf P ops C oi v a → l.getD m true = false → l.getD k true = false → l.getD q true = false → C w →
    anyM P md ops Q C m f (l.setIfInBounds i true) (a.put oi.dst v) w → anyM P md ops Q C m (f + 1) l a w := by
 have one : ∀ (f : Nat) (l : Array Bool) (a : Act) (w : World), YieldsIf P ops C oi v a → C w → anyM P md ops Q C m f (l.setIfInBounds i true) (a.put oi.dst v) w →
   wpOp P ops Q i (fun a' w' => Until C m (l.setIfInBounds i true) w' ∧ anyM P md ops Q C m f (l.setIfInBounds i true) a' w') a w :=
  fun f l a w hy hC H => hy.wpOp hi hC ⟨fun _ => hC, H⟩
 intro f
 induction f with
 | zero =>
   intro l a w _ hr hy _ _ _ hC H
   refine ⟨fun h => (by rw [h] at hr; cases hr), fun j hj => ?_⟩
   by_cases hji : j = i
   ·subst hji; exact one 0 l a w hy hC H
   ·have := ready_mono hj hji
    rw [H.1] at this; cases this
 | succ f ih =>
   intro l a w hfree hr hy hm hk hq hC H
   refine ⟨fun h => (by rw [h] at hr; cases hr), fun j hj => ?_⟩
   by_cases hji : j = i
   ·subst hji; exact one (f + 1) l a w hy hC H
   ·obtain ⟨hjun, oj, hoj, hall⟩ := mem_ready.1 hj
    have hiun := (mem_ready.1 hr).1
    have hno : ∀ e ∈ oj.after, Region.binds md e = true → e.on ≠ i := fun e he hb heq => both_no hiun (heq ▸ hall e he hb)
    have hjk : j ≠ k := by
     rintro rfl
     rw [hok] at hoj
     injection hoj with hoj
     subst hoj
     obtain ⟨e, he, hb, heq⟩ := hwk
     exact hno e he hb heq
    have hjm : j ≠ m := by
     rintro rfl
     rw [hom] at hoj
     injection hoj with hoj
     subst hoj
     obtain ⟨e, he, hb, heq⟩ := hwm
     exact both_no hq (heq ▸ hall e he hb)
    have hjq : j ≠ q := by
     rintro rfl
     rw [hoq] at hoj
     injection hoj with hoj
     subst hoj
     obtain ⟨e, he, hb, heq⟩ := hwq
     exact both_no hk (heq ▸ hall e he hb)
    have hstep := wpOp_putIf hoj (hfree j oj hoj hji hjm hjun hno) (fun cs b => hsel i oi cs b hi) (fun cs b => hsel j oj cs b hoj) hQ hy (H.2 j (ready_mono hj hji))
    have hm' : (l.setIfInBounds j true).getD m true = false := by rw [getD_set_ne true hjm]; exact hm
    have hk' : (l.setIfInBounds j true).getD k true = false := by rw [getD_set_ne true hjk]; exact hk
    have hq' : (l.setIfInBounds j true).getD q true = false := by rw [getD_set_ne true hjq]; exact hq
    have hm2 : ((l.setIfInBounds i true).setIfInBounds j true).getD m true = false := by rw [getD_set_ne true hjm, getD_set_ne true him]; exact hm
    refine wpOp_mono (fun a' w' h3 => ⟨fun _ => h3.2.1 hm2, ih (l.setIfInBounds j true) a' w' (fun k2 ok2 hk2 hki hkm2 hun hno' => ?_) (ready_mono hr (Ne.symm hji)) h3.1 hm' hk' hq' (h3.2.1 hm2) ?_⟩) hstep
    ·refine hfree k2 ok2 hk2 hki hkm2 ?_ hno'
     by_cases hjk2 : j = k2
     ·subst hjk2; exact hjun
     ·rw [getD_set_ne true hjk2] at hun; exact hun
    ·rw [Array.setIfInBounds_comm _ _ hji]
     exact h3.2.2
theorem anyM_takeVia2 {i : Nat} {oi om ok oq : Oper} {v : Value} {f : Nat} {l : Array Bool} {a : Act} {w : World} (hi : ops[i]? = some oi) (hom : ops[m]? = some om) (hok : ops[k]? = some ok) (hoq : ops[q]? = some oq) (hwm : (om.after.any fun e => Region.binds md e && e.on == q) = true) (hwq : (oq.after.any fun e => Region.binds md e && e.on == k) = true) (hwk : (ok.after.any fun e => Region.binds md e && e.on == i) = true) (him : i ≠ m) (hik : i ≠ k) (hkm : k ≠ m)
  (hs : Region.noSelect ops = true) (hf : Region.free md ops (l.setIfInBounds m true) i = true) (hr : (Region.ready md ops l).contains i = true)
  (hQ : ∀ c a w, Q (.panic c) (a.put oi.dst v) w → Q (.panic c) a w) (hy : YieldsIf P ops C oi v a) (hm : l.getD m true = false) (hk : l.getD k true = false) (hq : l.getD q true = false) (hC : C w)
  (h : anyM P md ops Q C m f (l.setIfInBounds i true) (a.put oi.dst v) w) : anyM P md ops Q C m (f + 1) l a w := by
 have un : ∀ {o : Oper} {z : Nat}, (o.after.any fun e => Region.binds md e && e.on == z) = true → ∃ e ∈ o.after, Region.binds md e = true ∧ e.on = z := fun h => by
  obtain ⟨j, hj, hb⟩ := Array.any_eq_true.1 h
  rw [Bool.and_eq_true] at hb
  exact ⟨_, Array.getElem_mem hj, hb.1, by simpa using hb.2⟩
 refine anyM_firstVia2 hi hom hok hoq (un hwm) (un hwq) (un hwk) him hik hkm (Region.noSelect_spec hs) hQ f l a w (fun j oj hj hji hjm hun hno => ?_) (by simpa using hr) hy hm hk hq hC h
 exact Region.free_spec hi hf j oj hj hji (by rw [getD_set_ne true (Ne.symm hjm)]; exact hun) hno
end
end Go.Proofs.YthdiccdnggloiaaGreatDoor

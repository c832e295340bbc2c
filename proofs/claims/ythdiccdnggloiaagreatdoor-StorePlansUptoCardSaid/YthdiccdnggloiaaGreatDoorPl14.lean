/- Parts of the proof, no condition: StTna. -/
import Derived.Test.YthdiccdnggloiaaGreatDoorPl13
import Derived.Test.YthdiccdnggloiaaGreatDoorPl7
import Derived.Test.YthdiccdnggloiaaGreatDoorPl10
set_option linter.unusedSimpArgs false
set_option linter.unusedVariables false
namespace Go.Proofs.YthdiccdnggloiaaGreatDoor
open Go.RowKit
namespace St
open Classical in
noncomputable def goersL (s : Sto) (t : ByteArray) : List Cop := if h : ∃ L, Goers s t L then h.choose else []
theorem goersL_of {s : Sto} {t : ByteArray} {L : List Cop} (h : Goers s t L) : goersL s t = L := by
 have h2 : ∃ L, Goers s t L := ⟨L, h⟩
 unfold goersL
 rw [dif_pos h2]
 exact h2.choose_spec.one h
noncomputable def evR (s : Sto) (t : Tir) (b : Int) : List Cop × Int := run s.files b (goersL s t.name) (t.room - used s.files t.name s.copies)
noncomputable def evOk (s : Sto) (t : Tir) (b : Int) : Bool := decide (b ≤ (evR s t b).2)
noncomputable def evM (s : Sto) (t : Tir) (b : Int) : List Mov := (evR s t b).1.map (drop_ t.name)
noncomputable def cand (s : Sto) (d : ByteArray) (mb : Tir → Bool) (t : Tir) : Bool := (mb t && !hasCopy s d t.name) && evOk s t (sizeOf s.files d)
noncomputable def cands (s : Sto) (d : ByteArray) (mb : Tir → Bool) : List Tir := s.tiers.filter (cand s d mb)
noncomputable def tgt (s : Sto) (d : ByteArray) (mb : Tir → Bool) : Option Tir := if (cands s d mb).length = 0 then none else some (cheap (cands s d mb))
noncomputable def mor1 (s : Sto) (d : ByteArray) : Option Tir := if awayN (goodL s d) = 0 then tgt s d (·.away) else none
noncomputable def mor2 (s : Sto) (d : ByteArray) : Option Tir := if ((goodL s d).length : Int) < s.least then tgt s d (fun _ => true) else none
noncomputable def mor (s : Sto) (d : ByteArray) : Option Tir := (mor1 s d).or (mor2 s d)
noncomputable def morM (s : Sto) (d : ByteArray) (t : Tir) : List Mov := evM s t (sizeOf s.files d) ++ [⟨1, d, (cheap (goodL s d)).name, t.name⟩]
def mvs (s : Sto) (l : List Mov) : Sto := l.foldl mvS s
noncomputable def planD : Nat → Sto → ByteArray → Sto × List Mov × Bool
 | 0, s, _ => (s, [], false)
 | f + 1, s, d =>
   if short s d = false then (s, [], false) else
   if (goodL s d).length = 0 then (s, [], true) else
   match mor s d with
   | none => (s, [], true)
   | some t => ((planD f (mvs s (morM s d t)) d).1, morM s d t ++ (planD f (mvs s (morM s d t)) d).2.1, (planD f (mvs s (morM s d t)) d).2.2)
noncomputable def planL : List ByteArray → Sto → Sto × List Mov × List ByteArray
 | [], s => (s, [], [])
 | d :: L, s => ((planL L (planD 9 s d).1).1, (planD 9 s d).2.1 ++ (planL L (planD 9 s d).1).2.1, (if (planD 9 s d).2.2 = true then [d] else []) ++ (planL L (planD 9 s d).1).2.2)
def garbM (s : Sto) : List Mov := (garbageL s).map fun c => drop_ c.tier c
noncomputable def plan (s : Sto) : Sto × List Mov × List ByteArray :=
 ((planL (neededL s) (mvs s (garbM s))).1, garbM s ++ (planL (neededL s) (mvs s (garbM s))).2.1, (planL (neededL s) (mvs s (garbM s))).2.2)
theorem mvs_snoc (s : Sto) (l : List Mov) (m : Mov) : mvs s (l ++ [m]) = mvS (mvs s l) m := by unfold mvs; rw [List.foldl_append]; rfl
theorem mvs_cons (s : Sto) (l : List Mov) (m : Mov) : mvs s (m :: l) = mvs (mvS s m) l := rfl
theorem mvS_same (s : Sto) (m : Mov) : (mvS s m).tiers = s.tiers ∧ (mvS s m).files = s.files ∧ (mvS s m).held = s.held ∧ (mvS s m).bin = s.bin ∧ (mvS s m).least = s.least ∧ (mvS s m).wait = s.wait := by
 unfold mvS; split <;> exact ⟨rfl, rfl, rfl, rfl, rfl, rfl⟩
theorem mvs_same (l : List Mov) : ∀ s : Sto, (mvs s l).tiers = s.tiers ∧ (mvs s l).files = s.files ∧ (mvs s l).held = s.held ∧ (mvs s l).bin = s.bin ∧ (mvs s l).least = s.least ∧ (mvs s l).wait = s.wait := by
 induction l with
 | nil => intro s; exact ⟨rfl, rfl, rfl, rfl, rfl, rfl⟩
 | cons m l ih =>
   intro s
   rw [mvs_cons]
   obtain ⟨a1, a2, a3, a4, a5, a6⟩ := ih (mvS s m)
   obtain ⟨b1, b2, b3, b4, b5, b6⟩ := mvS_same s m
   exact ⟨a1.trans b1, a2.trans b2, a3.trans b3, a4.trans b4, a5.trans b5, a6.trans b6⟩
theorem needed_same {s t : Sto} (h1 : t.files = s.files) (h2 : t.held = s.held) (h3 : t.bin = s.bin) : neededL t = neededL s := by
 unfold neededL
 rw [h1]
 congr 1
 refine List.filter_congr fun f _ => ?_
 unfold needed kept
 rw [h2, h3]
theorem right_drops {l : List Mov} : ∀ {s : Sto}, Right s → (∀ m ∈ l, m.kind = 2) → Right (mvs s l) := by
 induction l with
 | nil => intro s r _; exact r
 | cons m l ih =>
   intro s r h
   rw [mvs_cons]
   refine ih ?_ (fun m hm => h m (List.mem_cons_of_mem _ hm))
   unfold mvS
   rw [if_pos (h m (by simp))]
   exact right_drop r _
theorem drop_kind (s : Sto) (t : Tir) (b : Int) : ∀ m ∈ evM s t b, m.kind = 2 := fun m hm => by
 obtain ⟨c, _, rfl⟩ := List.mem_map.1 hm; rfl
theorem mvS_drop (s : Sto) (t : ByteArray) (x : Cop) : mvS s (drop_ t x) = { s with copies := wo ckey (key x.dig t) s.copies } := if_pos (show (drop_ t x).kind = 2 from rfl)
theorem drops_mem {t : ByteArray} {M : List Cop} : ∀ {s : Sto}, Right s → ∀ c, c ∈ (mvs s (M.map (drop_ t))).copies ↔ c ∈ s.copies ∧ ∀ x ∈ M, ¬ (c.dig = x.dig ∧ c.tier = t) := by
 induction M with
 | nil => intro s r c; exact ⟨fun h => ⟨h, fun x hx => by cases hx⟩, fun h => h.1⟩
 | cons x M ih =>
   intro s r c
   rw [List.map_cons, mvs_cons]
   rw [mvS_drop, ih (right_drop r _) c]
   show c ∈ wo ckey (key x.dig t) s.copies ∧ _ ↔ _
   rw [mem_wo (cop_up r)]
   constructor
   ·rintro ⟨⟨h1, h2⟩, h3⟩
    refine ⟨h1, fun y hy => ?_⟩
    rcases List.mem_cons.1 hy with rfl | hy
    ·exact fun h => h2 ((ckey_any r h1).2 h)
    ·exact h3 y hy
   ·rintro ⟨h1, h2⟩
    exact ⟨⟨h1, fun e => h2 x (by simp) ((ckey_any r h1).1 e)⟩, fun y hy => h2 y (List.mem_cons_of_mem _ hy)⟩
theorem has_drops {t : ByteArray} {M : List Cop} {s : Sto} (r : Right s) {d u : ByteArray} (h : ∀ x ∈ M, ¬ (d = x.dig ∧ u = t)) : hasCopy (mvs s (M.map (drop_ t))) d u = hasCopy s d u := by
 rw [Bool.eq_iff_iff, has_iff, has_iff]
 constructor
 ·rintro ⟨c, hc, rfl, rfl⟩; exact ⟨c, ((drops_mem r c).1 hc).1, rfl, rfl⟩
 ·rintro ⟨c, hc, rfl, rfl⟩; exact ⟨c, (drops_mem r c).2 ⟨hc, h⟩, rfl, rfl⟩
theorem good_drops {t : ByteArray} {M : List Cop} {s : Sto} (r : Right s) {d u : ByteArray} (h : ∀ x ∈ M, ¬ (d = x.dig ∧ u = t)) : goodAt (mvs s (M.map (drop_ t))) d u = goodAt s d u := by
 have rr : Right (mvs s (M.map (drop_ t))) := right_drops r (fun m hm => by obtain ⟨c, _, rfl⟩ := List.mem_map.1 hm; rfl)
 rw [Bool.eq_iff_iff, good_iff rr, good_iff r]
 constructor
 ·rintro ⟨c, hc, rfl, rfl, hg⟩; exact ⟨c, ((drops_mem r c).1 hc).1, rfl, rfl, hg⟩
 ·rintro ⟨c, hc, rfl, rfl, hg⟩; exact ⟨c, (drops_mem r c).2 ⟨hc, h⟩, rfl, rfl, hg⟩
theorem used_wo {F : List Fil} {n : ByteArray} {L : List Cop} (h : Up ckey L) {c : Cop} (hc : c ∈ L) (ht : c.tier = n) : used F n (wo ckey (ckey c) L) = used F n L - sizeOf F c.dig := by
 have hk : hasK ckey L (ckey c) = true := hasK_iff.2 ⟨c, hc, rfl⟩
 obtain ⟨x, hx, hxk⟩ := hasK_at h hk
 obtain rfl : x = c := h.one (List.mem_of_getElem? hx) hc hxk
 obtain ⟨hlt, hg⟩ := List.getElem?_eq_some_iff.1 hx
 have h1 : wo ckey (ckey x) L = L.eraseIdx (pos ckey (ckey x) L) := by unfold wo; rw [if_pos hk]
 have h2 : used F n L = used F n (L.take (pos ckey (ckey x) L)) + used F n (L.drop (pos ckey (ckey x) L)) := by rw [← used_app, List.take_append_drop]
 rw [h1, List.eraseIdx_eq_take_drop_succ, used_app, h2, List.drop_eq_getElem_cons hlt, hg, used, if_pos (by rw [ht]; exact eq_refl _)]
 omega
theorem run_free {b : Int} {n : ByteArray} {F : List Fil} {rm : Int} : ∀ {L : List Cop} {s : Sto}, Right s → s.files = F → (∀ c ∈ L, c ∈ s.copies ∧ c.tier = n) → (L.map ckey).Nodup →
  rm - used F n (mvs s ((run F b L (rm - used F n s.copies)).1.map (drop_ n))).copies = (run F b L (rm - used F n s.copies)).2 := by
 intro L
 induction L with
 | nil => intro s r hF hm hn; rfl
 | cons c L ih =>
   intro s r hF hm hn
   by_cases hb : b ≤ rm - used F n s.copies
   ·rw [run_stop hb]; rfl
   ·rw [run_next hb]
    obtain ⟨h1, h2⟩ := hm c (by simp)
    have hs := mvS_drop s n c
    have hk : key c.dig n = ckey c := by unfold ckey; rw [h2]
    rw [hk] at hs
    have hu := used_wo (F := F) (cop_up r) h1 h2
    rw [List.map_cons, List.nodup_cons] at hn
    have := ih (s := mvS s (drop_ n c)) (by rw [hs]; exact right_drop r _) (by rw [hs]; exact hF) (fun x hx => by
     obtain ⟨g1, g2⟩ := hm x (List.mem_cons_of_mem _ hx)
     rw [hs]
     exact ⟨(mem_wo (cop_up r) _ x).2 ⟨g1, fun e => hn.1 (List.mem_map.2 ⟨x, hx, e⟩)⟩, g2⟩) hn.2
    rw [show (mvS s (drop_ n c)).copies = wo ckey (ckey c) s.copies by rw [hs], hu, show rm - (used F n s.copies - sizeOf F c.dig) = rm - used F n s.copies + sizeOf F c.dig by omega] at this
    rw [List.map_cons, mvs_cons]
    exact this
theorem run_sub (F : List Fil) (b : Int) : ∀ (L : List Cop) (f : Int), ∀ c ∈ (run F b L f).1, c ∈ L
 | [], f, c, h => h
 | x :: L, f, c, h => by
   by_cases hb : b ≤ f
   ·rw [run_stop hb] at h; cases h
   ·rw [run_next hb] at h
    rcases List.mem_cons.1 h with rfl | h
    ·simp
    ·exact List.mem_cons_of_mem _ (run_sub F b L _ c h)
theorem goers_mem {s : Sto} {t : ByteArray} {L : List Cop} (h : Goers s t L) : ∀ c ∈ L, c ∈ s.copies ∧ c.tier = t := by
 obtain ⟨M, rfl, hp, _⟩ := h
 intro c hc
 rcases List.mem_append.1 hc with hc | hc
 ·obtain ⟨h1, h2⟩ := List.mem_filter.1 hc
  unfold evA at h2
  rw [Bool.and_eq_true] at h2
  exact ⟨h1, eq_iff.1 h2.1⟩
 ·obtain ⟨h1, h2⟩ := List.mem_filter.1 (hp.subset hc)
  unfold evB at h2
  rw [Bool.and_eq_true] at h2
  exact ⟨h1, eq_iff.1 h2.1⟩
theorem goers_nodup {s : Sto} (r : Right s) {t : ByteArray} {L : List Cop} (h : Goers s t L) : (L.map ckey).Nodup := by
 obtain ⟨M, rfl, hp, _⟩ := h
 have hn : ∀ {A : List Cop}, A.Sublist s.copies → (A.map ckey).Nodup := fun hA => (up_nodup (cop_up r)).sublist (hA.map _)
 rw [List.map_append, List.nodup_append]
 refine ⟨hn List.filter_sublist, (hp.map ckey).nodup_iff.2 (hn List.filter_sublist), ?_⟩
 intro a ha b hb hab
 obtain ⟨x, hx, rfl⟩ := List.mem_map.1 ha
 obtain ⟨y, hy, rfl⟩ := List.mem_map.1 hb
 obtain ⟨x1, x2⟩ := List.mem_filter.1 hx
 obtain ⟨y1, y2⟩ := List.mem_filter.1 (hp.subset hy)
 have e : x = y := (cop_up r).one x1 y1 hab
 subst e
 unfold evA at x2
 unfold evB at y2
 rw [Bool.and_eq_true] at x2
 rw [Bool.and_eq_true, Bool.and_eq_true, x2.2] at y2
 cases y2.2.1
theorem goersL_mem {s : Sto} {t : ByteArray} : ∀ c ∈ goersL s t, c ∈ s.copies ∧ c.tier = t := by
 unfold goersL
 split
 ·rename_i h; exact goers_mem h.choose_spec
 ·intro c h; cases h
theorem goersL_nodup {s : Sto} (r : Right s) {t : ByteArray} : ((goersL s t).map ckey).Nodup := by
 unfold goersL
 split
 ·rename_i h; exact goers_nodup r h.choose_spec
 ·simp
def lackN (s : Sto) (d : ByteArray) : Nat := s.tiers.countP fun t => !hasCopy s d t.name
theorem lackN_le (s : Sto) (d : ByteArray) : lackN s d ≤ s.tiers.length := List.countP_le_length
theorem cand_parts {s : Sto} {d : ByteArray} {mb : Tir → Bool} {t : Tir} (h : tgt s d mb = some t) : t ∈ s.tiers ∧ hasCopy s d t.name = false ∧ evOk s t (sizeOf s.files d) = true := by
 unfold tgt at h
 split at h
 ·cases h
 ·rename_i h0
  obtain rfl := Option.some.inj h
  have hm := cheap_mem (L := cands s d mb) (by intro e; rw [e] at h0; exact h0 rfl)
  obtain ⟨h1, h2⟩ := List.mem_filter.1 hm
  unfold cand at h2
  rw [Bool.and_eq_true, Bool.and_eq_true] at h2
  exact ⟨h1, by simpa using h2.1.2, h2.2⟩
theorem mor_parts {s : Sto} {d : ByteArray} {t : Tir} (h : mor s d = some t) : t ∈ s.tiers ∧ hasCopy s d t.name = false ∧ evOk s t (sizeOf s.files d) = true := by
 unfold mor at h
 cases h1 : mor1 s d with
 | some u =>
   rw [h1] at h
   obtain rfl := Option.some.inj h
   unfold mor1 at h1
   split at h1
   ·exact cand_parts h1
   ·cases h1
 | none =>
   rw [h1] at h
   have h2 : mor2 s d = some t := h
   unfold mor2 at h2
   split at h2
   ·exact cand_parts h2
   ·cases h2
theorem count_less {L : List Tir} : ∀ (_ : (L.map (·.name)).Nodup) {n : ByteArray} {p : Tir → Bool} {x : Tir} (_ : x ∈ L) (_ : x.name = n) (_ : p x = true), L.countP (fun t => p t && !eq t.name n) + 1 = L.countP p := by
 induction L with
 | nil => intro _ n p x hx; cases hx
 | cons y L ih =>
   intro hn n p x hx hxn hp
   rw [List.map_cons, List.nodup_cons] at hn
   rcases List.mem_cons.1 hx with rfl | hx
   ·have hc : L.countP (fun t => p t && !eq t.name n) = L.countP p := by
     refine List.countP_congr fun z hz => ?_
     cases e : eq z.name n with
     | false => simp
     | true => exact absurd (List.mem_map.2 ⟨z, hz, by rw [eq_iff.1 e, hxn]⟩) hn.1
    rw [List.countP_cons, List.countP_cons, hc, hp, hxn, eq_refl]
    rfl
   ·have hy : eq y.name n = false := by
     cases e : eq y.name n with
     | false => rfl
     | true => exact absurd (List.mem_map.2 ⟨x, hx, by rw [hxn, eq_iff.1 e]⟩) hn.1
    have := ih hn.2 hx hxn hp
    rw [List.countP_cons, List.countP_cons, hy]
    simp only [Bool.not_false, Bool.and_true]
    omega
theorem mor_good {s : Sto} (r : Right s) {d : ByteArray} {t : Tir} (hg : 0 < (goodL s d).length) (h : mor s d = some t) :
  (∀ l k, evM s t (sizeOf s.files d) = l ++ k → Right (mvs s l)) ∧ goodL (mvs s (evM s t (sizeOf s.files d))) d = goodL s d ∧
  hasCopy (mvs s (evM s t (sizeOf s.files d))) d (cheap (goodL s d)).name = true ∧ hasTier s.tiers t.name = true ∧ hasCopy (mvs s (evM s t (sizeOf s.files d))) d t.name = false ∧
  mvE (mvs s (evM s t (sizeOf s.files d))) ⟨1, d, (cheap (goodL s d)).name, t.name⟩ = 0 ∧ Right (mvs s (morM s d t)) ∧ lackN (mvs s (morM s d t)) d + 1 = lackN s d := by
 obtain ⟨ht, hn, ho⟩ := mor_parts h
 have hds := drop_kind s t (sizeOf s.files d)
 have hr0 : ∀ l k, evM s t (sizeOf s.files d) = l ++ k → Right (mvs s l) := fun l k e => right_drops r (fun m hm => hds m (by rw [e]; exact List.mem_append_left _ hm))
 have hne : ∀ u : ByteArray, ∀ x ∈ (evR s t (sizeOf s.files d)).1, ¬ (d = x.dig ∧ u = t.name) := by
  rintro u x hx ⟨rfl, rfl⟩
  obtain ⟨g1, g2⟩ := goersL_mem x (run_sub _ _ _ _ x hx)
  rw [has_iff.2 ⟨x, g1, rfl, g2⟩] at hn
  cases hn
 have hgood : ∀ u, goodAt (mvs s (evM s t (sizeOf s.files d))) d u = goodAt s d u := fun u => good_drops r (hne u)
 have hhas : ∀ u, hasCopy (mvs s (evM s t (sizeOf s.files d))) d u = hasCopy s d u := fun u => has_drops r (hne u)
 have hfree : t.room - used s.files t.name (mvs s (evM s t (sizeOf s.files d))).copies = (evR s t (sizeOf s.files d)).2 := run_free (b := sizeOf s.files d) (n := t.name) (rm := t.room) (L := goersL s t.name) r rfl goersL_mem (goersL_nodup r)
 obtain ⟨e1, e2, e3, e4, e5, e6⟩ := mvs_same (evM s t (sizeOf s.files d)) s
 have rr := hr0 _ [] (List.append_nil _).symm
 obtain ⟨s', hs'⟩ : ∃ s', mvs s (evM s t (sizeOf s.files d)) = s' := ⟨_, rfl⟩
 rw [hs'] at hfree e1 e2 e3 e4 e5 e6 rr ⊢
 simp only [hs'] at hgood hhas
 have hgl : goodL s' d = goodL s d := by
  unfold goodL
  rw [e1]
  exact List.filter_congr fun u _ => hgood u.name
 have hc0 : goodL s d ≠ [] := by intro e; rw [e] at hg; exact absurd hg (by decide)
 have hcm := cheap_mem hc0
 have hcg : goodAt s d (cheap (goodL s d)).name = true := (List.mem_filter.1 hcm).2
 have hch : hasCopy s' d (cheap (goodL s d)).name = true := by rw [hhas]; exact good_has r hcg
 have htr : hasTier s.tiers t.name = true := List.any_eq_true.2 ⟨t, ht, eq_refl _⟩
 have hfr : sizeOf s'.files d ≤ freeIn s' t.name := by
  have h1 : freeIn s' t.name = t.room - used s'.files t.name s'.copies := by
   unfold freeIn
   rw [e1, roomOf_of r ht]
  rw [h1, e2, hfree]
  exact of_decide_eq_true ho
 have hE : mvE s' ⟨1, d, (cheap (goodL s d)).name, t.name⟩ = 0 := by
  unfold mvE
  rw [if_neg (by rintro ⟨h, _⟩; exact h rfl)]
  show (if hasCopy s' d (cheap (goodL s d)).name = false then _ else _) = _
  rw [hch, if_neg (by decide), if_neg (by show ¬ (1 : Int) = 2; decide)]
  show (if hasTier s'.tiers t.name = false then _ else _) = _
  rw [e1, htr, if_neg (by decide)]
  show (if hasCopy s' d t.name = true then _ else _) = _
  rw [hhas, hn, if_neg (by decide)]
  show (if goodAt s' d (cheap (goodL s d)).name = false then _ else _) = _
  rw [hgood, hcg, if_neg (by decide)]
  show (if freeIn s' t.name < sizeOf s'.files d then _ else _) = _
  rw [if_neg (by omega)]
 have hmm : mvs s (morM s d t) = mvS s' ⟨1, d, (cheap (goodL s d)).name, t.name⟩ := by
  have : morM s d t = evM s t (sizeOf s.files d) ++ [⟨1, d, (cheap (goodL s d)).name, t.name⟩] := rfl
  rw [this, mvs_snoc, hs']
 have r2 := right_mv rr hE
 refine ⟨hr0, hgl, hch, htr, (hhas _).trans hn, hE, by rw [hmm]; exact r2, ?_⟩
 rw [hmm]
 have hS : mvS s' ⟨1, d, (cheap (goodL s d)).name, t.name⟩ = { s' with copies := wth ckey ⟨d, t.name, true, askedOf s' d (cheap (goodL s d)).name 0⟩ s'.copies } := if_neg (by show ¬ (1 : Int) = 2; decide)
 have h16 := has16 rr hch
 have hq : ∀ u : Tir, (!hasCopy (mvS s' ⟨1, d, (cheap (goodL s d)).name, t.name⟩) d u.name) = (!hasCopy s d u.name && !eq u.name t.name) := by
  intro u
  have : hasCopy (mvS s' ⟨1, d, (cheap (goodL s d)).name, t.name⟩) d u.name = (hasCopy s d u.name || eq u.name t.name) := by
   rw [Bool.eq_iff_iff, has_iff, Bool.or_eq_true, ← hhas, has_iff, hS, eq_iff]
   constructor
   ·rintro ⟨c, hc, h1, h2⟩
    rcases (mem_wth (cop_up rr) _ c).1 hc with rfl | ⟨hc, _⟩
    ·exact .inr h2.symm
    ·exact .inl ⟨c, hc, h1, h2⟩
   ·rintro (⟨c, hc, h1, h2⟩ | h)
    ·by_cases e : ckey c = ckey (⟨d, t.name, true, askedOf s' d (cheap (goodL s d)).name 0⟩ : Cop)
     ·exact ⟨_, (mem_wth (cop_up rr) _ _).2 (.inl rfl), rfl, by rw [← h2]; exact ((ckey_any rr hc).1 e).2.symm⟩
     ·exact ⟨c, (mem_wth (cop_up rr) _ c).2 (.inr ⟨hc, e⟩), h1, h2⟩
    ·exact ⟨_, (mem_wth (cop_up rr) _ _).2 (.inl rfl), rfl, h.symm⟩
  rw [this, Bool.not_or]
 unfold lackN
 rw [show (mvS s' ⟨1, d, (cheap (goodL s d)).name, t.name⟩).tiers = s.tiers by rw [hS]; exact e1]
 simp only [hq]
 exact count_less (names_nodup r) (p := fun u => !hasCopy s d u.name) ht rfl (by rw [hn]; rfl)
end St
end Go.Proofs.YthdiccdnggloiaaGreatDoor

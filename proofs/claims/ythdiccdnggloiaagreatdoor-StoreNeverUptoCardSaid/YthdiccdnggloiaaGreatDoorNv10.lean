/- Parts of the proof, no condition: StMvs, StMvk, StHasPC, StMvc, StWoC. -/
import Derived.Test.YthdiccdnggloiaaGreatDoorNv6
import Derived.Test.YthdiccdnggloiaaGreatDoorNv5
import Derived.Test.YthdiccdnggloiaaGreatDoorNv9
import Derived.Test.YthdiccdnggloiaaGreatDoorNv8
import Derived.Test.YthdiccdnggloiaaGreatDoorNv3
import Derived.Deep.RegionHeld3
import Derived.Test.YthdiccdnggloiaaGreatDoorNv7
set_option maxRecDepth 100000
set_option maxHeartbeats 16000000
set_option linter.unusedSimpArgs false
set_option linter.unusedVariables false
namespace Go.Proofs.YthdiccdnggloiaaGreatDoor
open Go.RowKit
namespace St
def mvE (s : Sto) (m : Mov) : Int :=
 if m.kind ≠ 1 ∧ m.kind ≠ 2 then 10 else
 if hasCopy s m.dig m.frm = false then 7 else
 if m.kind = 2 then
  (if eq m.dst ⟨#[]⟩ = false then 1 else
   if neededD s m.dig = true ∧ goodAt s m.dig m.frm = true ∧ (goodL s m.dig).length = 1 then 14 else 0)
 else if hasTier s.tiers m.dst = false then 7 else
 if hasCopy s m.dig m.dst = true then 6 else
 if goodAt s m.dig m.frm = false then 11 else
 if freeIn s m.dst < sizeOf s.files m.dig then 12 else 0
def mvS (s : Sto) (m : Mov) : Sto :=
 if m.kind = 2 then { s with copies := wo ckey (key m.dig m.frm) s.copies }
 else { s with copies := wth ckey ⟨m.dig, m.dst, true, askedOf s m.dig m.frm 0⟩ s.copies }
def doL (s : Sto) : List Mov → Nat → Sto × Nat × Int
 | [], _ => (s, 0, 0)
 | m :: l, i => if mvE s m = 0 then doL (mvS s m) l (i + 1) else (⟨0, 0, [], [], [], [], []⟩, i, mvE s m)
theorem copy_file {s : Sto} (r : Right s) {d t : ByteArray} (h : hasCopy s d t = true) : (fileOf s.files d).isSome = true := by
 unfold hasCopy at h
 obtain ⟨c, hcm, hcd⟩ := List.any_eq_true.1 h
 have h5 := (r.cop c hcm).1
 rw [Bool.and_eq_true] at hcd
 rwa [eq_iff.1 hcd.1] at h5
theorem good_iff {s : Sto} (r : Right s) {d t : ByteArray} : goodAt s d t = true ↔ ∃ c ∈ s.copies, c.dig = d ∧ c.tier = t ∧ c.good = true := by
 rw [goodAt_eq]
 constructor
 ·intro h
  cases hf : s.copies.find? (isCop d t) with
  | none => rw [hf] at h; cases h
  | some c =>
    rw [hf] at h
    have h1 := List.find?_some hf
    unfold isCop at h1
    rw [Bool.and_eq_true] at h1
    exact ⟨c, List.mem_of_find?_eq_some hf, eq_iff.1 h1.1, eq_iff.1 h1.2, h⟩
 ·rintro ⟨c, hc, rfl, rfl, hg⟩
  cases hf : s.copies.find? (isCop c.dig c.tier) with
  | none =>
    rw [List.find?_eq_none] at hf
    exact absurd (by unfold isCop; rw [eq_refl, eq_refl]; rfl) (hf c hc)
  | some c' =>
    have h1 := List.find?_some hf
    unfold isCop at h1
    rw [Bool.and_eq_true] at h1
    rw [cop_one r (List.mem_of_find?_eq_some hf) hc h1.1 h1.2]
    exact hg
theorem has_iff {s : Sto} {d t : ByteArray} : hasCopy s d t = true ↔ ∃ c ∈ s.copies, c.dig = d ∧ c.tier = t := by
 unfold hasCopy
 rw [List.any_eq_true]
 constructor
 ·rintro ⟨c, hc, h⟩
  rw [Bool.and_eq_true] at h
  exact ⟨c, hc, eq_iff.1 h.1, eq_iff.1 h.2⟩
 ·rintro ⟨c, hc, rfl, rfl⟩
  exact ⟨c, hc, by rw [eq_refl, eq_refl]; rfl⟩
theorem has16 {s : Sto} (r : Right s) {d t : ByteArray} (h : hasCopy s d t = true) : d.size = 16 := by
 obtain ⟨c, hc, rfl, rfl⟩ := has_iff.1 h
 exact cop_dig r hc
theorem ckey_iff {c : Cop} {d t : ByteArray} (h : c.dig.size = d.size) : ckey c = key d t ↔ c.dig = d ∧ c.tier = t := by
 have := eq_key (d := c.dig) (t := c.tier) (d' := d) (t' := t) h
 rw [Bool.eq_iff_iff, Bool.and_eq_true, eq_iff, eq_iff, eq_iff] at this
 exact this
theorem used_app {F : List Fil} {n : ByteArray} : ∀ (A B : List Cop), used F n (A ++ B) = used F n A + used F n B
 | [], B => by simp [used]
 | c :: A, B => by
   rw [List.cons_append, used, used, used_app A B]
   omega
theorem used_sub {F : List Fil} (hz : Szs F) {n : ByteArray} {A B : List Cop} (h : A.Sublist B) : used F n A ≤ used F n B := by
 induction h with
 | slnil => exact Int.le_refl _
 | cons c _ ih =>
   rw [used]
   have := size_bd hz c.dig
   split <;> omega
 | cons_cons c _ ih =>
   rw [used, used]
   omega
theorem names_nodup {s : Sto} (r : Right s) : (s.tiers.map (·.name)).Nodup := by
 rw [List.Nodup, List.pairwise_iff_getElem]
 intro i j hi hj hij e
 rw [List.length_map] at hi hj
 rw [List.getElem_map, List.getElem_map] at e
 have h1 := tier_self r.tiers (List.getElem?_eq_getElem hi)
 have h2 := tier_self r.tiers (List.getElem?_eq_getElem hj)
 rw [e, h2] at h1
 omega
theorem roomOf_of {s : Sto} (r : Right s) {t : Tir} (h : t ∈ s.tiers) : roomOf s.tiers t.name = t.room := by
 obtain ⟨i, hi⟩ := List.getElem?_of_mem h
 exact room_get hi (tier_self r.tiers hi)
theorem few_copies {F : List Fil} {T : List Tir} {L : List Cop} (h : Up ckey L) (h16 : ∀ c ∈ L, c.dig.size = 16) (hk : ∀ c ∈ L, (fileOf F c.dig).isSome = true ∧ hasTier T c.tier = true) : L.length ≤ F.length * T.length := by
 have h1 := few_of_sub (m := F.flatMap fun f => T.map fun t => key f.dig t.name) (up_nodup h) fun y hy => by
  obtain ⟨c, hc, rfl⟩ := List.mem_map.1 hy
  obtain ⟨g1, g2⟩ := hk c hc
  obtain ⟨f, hf⟩ := Option.isSome_iff_exists.1 g1
  obtain ⟨g3, g4⟩ := find_mem hf
  obtain ⟨t, ht, hn⟩ := hasTier_mem g2
  refine List.mem_flatMap.2 ⟨f, g3, List.mem_map.2 ⟨t, ht, ?_⟩⟩
  unfold ckey
  rw [eq_iff.1 g4, hn]
 rw [List.length_map] at h1
 refine Nat.le_trans h1 (Nat.le_of_eq ?_)
 clear h1 hk h h16
 induction F with
 | nil => simp
 | cons f F ih => rw [List.flatMap_cons, List.length_append, ih, List.length_map, List.length_cons, Nat.add_mul]; omega
theorem right_drop {s : Sto} (r : Right s) (k : ByteArray) : Right { s with copies := wo ckey k s.copies } := by
 obtain ⟨z1, z2, z3, z4, z5, z6⟩ := sizes_iff.1 r.sizes
 have hs : (wo ckey k s.copies).Sublist s.copies := by rw [wo_filter (cop_up r)]; exact List.filter_sublist
 refine ⟨sizes_iff.2 ⟨z1, z2, z3, by have := hs.length_le; show (wo ckey k s.copies).length ≤ 4000; omega, z5, z6⟩, r.tiers, r.dig, r.fup, r.frm, fun c hc => r.cop c (hs.subset hc), r.cup.sublist hs, fun t ht => ?_, r.held, r.hup, r.bin, r.bup⟩
 have h1 := r.room t ht
 have h2 := used_sub (szs_of (F := s.files) (fun f hf => (r.dig f hf).2)) (n := t.name) hs
 show 0 ≤ t.room - used s.files t.name (wo ckey k s.copies)
 omega
theorem right_copy {s : Sto} (r : Right s) {d t : ByteArray} {a : Int} (hd : (fileOf s.files d).isSome = true) (ht : hasTier s.tiers t = true) (ha : isMom a = true) (hn : hasCopy s d t = false) (hf : sizeOf s.files d ≤ freeIn s t) : Right { s with copies := wth ckey ⟨d, t, true, a⟩ s.copies } := by
 obtain ⟨z1, z2, z3, z4, z5, z6⟩ := sizes_iff.1 r.sizes
 obtain ⟨f, hff⟩ := Option.isSome_iff_exists.1 hd
 have h16 : d.size = 16 := file16 r hff
 have hup := up_wth (cop_up r) (⟨d, t, true, a⟩ : Cop)
 have hm := mem_wth (cop_up r) (⟨d, t, true, a⟩ : Cop)
 have h16a : ∀ c ∈ wth ckey ⟨d, t, true, a⟩ s.copies, c.dig.size = 16 := fun c hc => by
  rcases (hm c).1 hc with rfl | ⟨h, _⟩
  ·exact h16
  ·exact cop_dig r h
 have hcop : ∀ c ∈ wth ckey ⟨d, t, true, a⟩ s.copies, (fileOf s.files c.dig).isSome = true ∧ hasTier s.tiers c.tier = true ∧ isMom c.asked = true := fun c hc => by
  rcases (hm c).1 hc with rfl | ⟨h, _⟩
  ·exact ⟨hd, ht, ha⟩
  ·exact r.cop c h
 have hhk : hasK ckey s.copies (ckey ⟨d, t, true, a⟩) = false := by
  rw [show ckey (⟨d, t, true, a⟩ : Cop) = key d t from rfl, ← hasCopy_key r h16]; exact hn
 have hlen : (wth ckey ⟨d, t, true, a⟩ s.copies).length ≤ 4000 := by
  have h1 := few_copies hup h16a (fun c hc => ⟨(hcop c hc).1, (hcop c hc).2.1⟩)
  have h2 : s.files.length * s.tiers.length ≤ 500 * 8 := Nat.mul_le_mul z3 z2
  omega
 refine ⟨sizes_iff.2 ⟨z1, z2, z3, hlen, z5, z6⟩, r.tiers, r.dig, r.fup, r.frm, hcop, ?_, fun x hx => ?_, r.held, r.hup, r.bin, r.bup⟩
 ·refine List.Pairwise.imp_of_mem (fun {x y} hx hy h => ?_) hup
  rw [ahead_key ((h16a x hx).trans (h16a y hy).symm)]
  exact h
 ·show 0 ≤ x.room - used s.files x.name (wth ckey ⟨d, t, true, a⟩ s.copies)
  rw [wth_new hhk, used_app, used]
  have h1 := r.room x hx
  have h2 : used s.files x.name s.copies = used s.files x.name (s.copies.take (pos ckey (ckey ⟨d, t, true, a⟩) s.copies)) + used s.files x.name (s.copies.drop (pos ckey (ckey ⟨d, t, true, a⟩) s.copies)) := by
   rw [← used_app, List.take_append_drop]
  by_cases e : eq t x.name = true
  ·rw [if_pos e]
   have e2 := eq_iff.1 e
   unfold freeIn at hf
   rw [e2, roomOf_of r hx] at hf
   show 0 ≤ x.room - (_ + (sizeOf s.files d + _))
   omega
  ·rw [if_neg e]
   omega
theorem mv_ways {s : Sto} (r : Right s) {m : Mov} (h : mvE s m = 0) :
  hasCopy s m.dig m.frm = true ∧ m.dig.size = 16 ∧ ((m.kind = 2 ∧ mvS s m = { s with copies := wo ckey (key m.dig m.frm) s.copies } ∧ ¬ (neededD s m.dig = true ∧ goodAt s m.dig m.frm = true ∧ (goodL s m.dig).length = 1)) ∨
   (m.kind = 1 ∧ mvS s m = { s with copies := wth ckey ⟨m.dig, m.dst, true, askedOf s m.dig m.frm 0⟩ s.copies } ∧ hasTier s.tiers m.dst = true ∧ hasCopy s m.dig m.dst = false ∧ goodAt s m.dig m.frm = true ∧ sizeOf s.files m.dig ≤ freeIn s m.dst)) := by
 unfold mvE at h
 by_cases h0 : m.kind ≠ 1 ∧ m.kind ≠ 2
 ·rw [if_pos h0] at h; cases h
 ·rw [if_neg h0] at h
  cases h1 : hasCopy s m.dig m.frm with
  | false => rw [h1, if_pos rfl] at h; cases h
  | true =>
    rw [h1, if_neg (by decide)] at h
    refine ⟨rfl, has16 r h1, ?_⟩
    by_cases h2 : m.kind = 2
    ·rw [if_pos h2] at h
     refine .inl ⟨h2, by unfold mvS; rw [if_pos h2], ?_⟩
     cases h3 : eq m.dst ⟨#[]⟩ with
     | false => rw [h3, if_pos rfl] at h; cases h
     | true =>
       rw [h3, if_neg (by decide)] at h
       intro h4
       rw [if_pos h4] at h; cases h
    ·rw [if_neg h2] at h
     refine .inr ⟨by omega, by unfold mvS; rw [if_neg h2], ?_⟩
     cases h3 : hasTier s.tiers m.dst with
     | false => rw [h3, if_pos rfl] at h; cases h
     | true =>
       rw [h3, if_neg (by decide)] at h
       cases h4 : hasCopy s m.dig m.dst with
       | true => rw [h4, if_pos rfl] at h; cases h
       | false =>
         rw [h4, if_neg (by decide)] at h
         cases h5 : goodAt s m.dig m.frm with
         | false => rw [h5, if_pos rfl] at h; cases h
         | true =>
           rw [h5, if_neg (by decide)] at h
           refine ⟨rfl, rfl, rfl, ?_⟩
           by_cases h6 : freeIn s m.dst < sizeOf s.files m.dig
           ·rw [if_pos h6] at h; cases h
           ·omega
theorem asked_mom {s : Sto} (r : Right s) {d t : ByteArray} (h : hasCopy s d t = true) : isMom (askedOf s d t 0) = true := by
 unfold askedOf
 cases hf : s.copies.find? (fun c => eq c.dig d && eq c.tier t) with
 | none =>
   rw [List.find?_eq_none] at hf
   obtain ⟨c, hc, rfl, rfl⟩ := has_iff.1 h
   exact absurd (by rw [eq_refl, eq_refl]; rfl) (hf c hc)
 | some c => exact (r.cop c (List.mem_of_find?_eq_some hf)).2.2
theorem right_mv {s : Sto} (r : Right s) {m : Mov} (h : mvE s m = 0) : Right (mvS s m) := by
 obtain ⟨h1, h16, h | ⟨_, h2, h3, h4, h5, h6⟩⟩ := mv_ways r h
 ·rw [h.2.1]; exact right_drop r _
 ·rw [h2]
  exact right_copy r (copy_file r h1) h3 (asked_mom r h1) h4 h6
theorem copy_tier {s : Sto} (r : Right s) {d t : ByteArray} (h : hasCopy s d t = true) : ∃ x ∈ s.tiers, x.name = t := by
 obtain ⟨c, hc, _, rfl⟩ := has_iff.1 h
 exact hasTier_mem (r.cop c hc).2.1
theorem good_has {s : Sto} (r : Right s) {d t : ByteArray} (h : goodAt s d t = true) : hasCopy s d t = true := by
 obtain ⟨c, hc, h1, h2, _⟩ := (good_iff r).1 h
 exact has_iff.2 ⟨c, hc, h1, h2⟩
theorem good_pos_len {s : Sto} (r : Right s) {d t : ByteArray} (h : goodAt s d t = true) : 0 < (goodL s d).length := by
 obtain ⟨x, hx, rfl⟩ := copy_tier r (good_has r h)
 exact List.length_pos_of_mem (List.mem_filter.2 ⟨hx, h⟩)
theorem less_one {L : List Tir} (h : (L.map (·.name)).Nodup) (n : ByteArray) : L.length ≤ (L.filter fun t => !eq t.name n).length + 1 := by
 induction L with
 | nil => simp
 | cons t L ih =>
   rw [List.map_cons, List.nodup_cons] at h
   cases e : eq t.name n with
   | true =>
     have hall : L.filter (fun t => !eq t.name n) = L := by
      rw [List.filter_eq_self]
      intro u hu
      cases e2 : eq u.name n with
      | false => rfl
      | true =>
        exfalso
        refine h.1 (List.mem_map.2 ⟨u, hu, ?_⟩)
        rw [eq_iff.1 e2, eq_iff.1 e]
     rw [List.filter_cons_of_neg (by simp [e]), hall, List.length_cons]
     omega
   | false =>
     rw [List.filter_cons_of_pos (by simp [e]), List.length_cons, List.length_cons]
     have := ih h.2
     omega
theorem needed_dig {s : Sto} (r : Right s) {d : ByteArray} (h : d ∈ neededL s) : neededD s d = true := by
 obtain ⟨f, hf, rfl⟩ := List.mem_map.1 h
 obtain ⟨h1, h2⟩ := List.mem_filter.1 hf
 rw [neededD_of r h1]; exact h2
theorem lost_mv {s : Sto} (r : Right s) {m : Mov} (h : mvE s m = 0) : lostL (mvS s m) = lostL s := by
 have rr := right_mv r h
 obtain ⟨h1, h16, hw⟩ := mv_ways r h
 have key : ∀ d ∈ neededL s, ((goodL (mvS s m) d).length == 0) = ((goodL s d).length == 0) := by
  intro d hd
  rcases hw with ⟨_, h2, h3⟩ | ⟨_, h2, h3, h4, h5, h6⟩
  ·have hcp : (mvS s m).copies = wo ckey (key m.dig m.frm) s.copies := by rw [h2]
   have htr : (mvS s m).tiers = s.tiers := by rw [h2]
   have hga : ∀ t, goodAt (mvS s m) d t = (goodAt s d t && !(eq d m.dig && eq t m.frm)) := by
    intro t
    rw [Bool.eq_iff_iff, good_iff rr, Bool.and_eq_true, good_iff r, hcp]
    constructor
    ·rintro ⟨c, hc, rfl, rfl, hg⟩
     obtain ⟨g1, g2⟩ := (mem_wo (cop_up r) _ c).1 hc
     refine ⟨⟨c, g1, rfl, rfl, hg⟩, ?_⟩
     cases e1 : eq c.dig m.dig <;> cases e2 : eq c.tier m.frm <;> first | rfl | (exfalso; exact g2 ((ckey_iff ((cop_dig r g1).trans h16.symm)).2 ⟨eq_iff.1 e1, eq_iff.1 e2⟩))
    ·rintro ⟨⟨c, hc, rfl, rfl, hg⟩, hne⟩
     refine ⟨c, (mem_wo (cop_up r) _ c).2 ⟨hc, fun e => ?_⟩, rfl, rfl, hg⟩
     obtain ⟨e1, e2⟩ := (ckey_iff ((cop_dig r hc).trans h16.symm)).1 e
     rw [e1, e2, eq_refl, eq_refl] at hne
     cases hne
   by_cases hdm : d = m.dig
   ·subst hdm
    cases hg : goodAt s m.dig m.frm with
    | false =>
      have e : goodL (mvS s m) m.dig = goodL s m.dig := by
       unfold goodL
       rw [htr]
       refine List.filter_congr fun t _ => ?_
       rw [hga t.name]
       cases e2 : eq t.name m.frm with
       | false => simp
       | true => rw [eq_iff.1 e2, hg]; rfl
      rw [e]
    | true =>
      have hl := good_pos_len r hg
      have hne : (goodL s m.dig).length ≠ 1 := fun e => h3 ⟨needed_dig r hd, hg, e⟩
      have e : goodL (mvS s m) m.dig = (goodL s m.dig).filter fun t => !eq t.name m.frm := by
       unfold goodL
       rw [htr, List.filter_filter]
       refine List.filter_congr fun t _ => ?_
       rw [hga t.name, eq_refl, Bool.true_and, Bool.and_comm]
      have h7 := less_one (L := goodL s m.dig) ((names_nodup r).sublist (List.filter_sublist.map _)) m.frm
      rw [e]
      have h8 : ((goodL s m.dig).filter fun t => !eq t.name m.frm).length ≠ 0 := by omega
      have h9 : (goodL s m.dig).length ≠ 0 := by omega
      rw [beq_eq_false_iff_ne.2 h8, beq_eq_false_iff_ne.2 h9]
   ·have e : goodL (mvS s m) d = goodL s d := by
     unfold goodL
     rw [htr]
     refine List.filter_congr fun t _ => ?_
     rw [hga t.name]
     cases e2 : eq d m.dig with
     | false => simp
     | true => exact absurd (eq_iff.1 e2) hdm
    rw [e]
  ·have hcp : (mvS s m).copies = wth ckey ⟨m.dig, m.dst, true, askedOf s m.dig m.frm 0⟩ s.copies := by rw [h2]
   have htr : (mvS s m).tiers = s.tiers := by rw [h2]
   have hmono : ∀ t, goodAt s d t = true → goodAt (mvS s m) d t = true := by
    intro t ht
    obtain ⟨c, hc, rfl, rfl, hg⟩ := (good_iff r).1 ht
    rw [good_iff rr, hcp]
    refine ⟨c, (mem_wth (cop_up r) _ c).2 (.inr ⟨hc, fun e => ?_⟩), rfl, rfl, hg⟩
    obtain ⟨e1, e2⟩ := (ckey_iff (d := m.dig) (t := m.dst) ((cop_dig r hc).trans h16.symm)).1 e
    have : hasCopy s m.dig m.dst = true := has_iff.2 ⟨c, hc, e1, e2⟩
    rw [h4] at this; cases this
   by_cases hdm : d = m.dig
   ·subst hdm
    have g1 := good_pos_len r h5
    have g2 := good_pos_len rr (hmono _ h5)
    rw [beq_eq_false_iff_ne.2 (by omega : (goodL s m.dig).length ≠ 0), beq_eq_false_iff_ne.2 (by omega : (goodL (mvS s m) m.dig).length ≠ 0)]
   ·have e : goodL (mvS s m) d = goodL s d := by
     unfold goodL
     rw [htr]
     refine List.filter_congr fun t _ => ?_
     rw [Bool.eq_iff_iff]
     refine ⟨fun hh => ?_, hmono _⟩
     obtain ⟨c, hc, g1, g2, hg⟩ := (good_iff rr).1 hh
     rw [hcp] at hc
     rcases (mem_wth (cop_up r) _ c).1 hc with rfl | ⟨hc, _⟩
     ·exact absurd g1.symm hdm
     ·exact (good_iff r).2 ⟨c, hc, g1, g2, hg⟩
    rw [e]
 have hn : neededL (mvS s m) = neededL s := by
  rcases hw with ⟨_, h2, _⟩ | ⟨_, h2, _⟩ <;> rw [h2] <;> rfl
 unfold lostL
 rw [hn]
 exact List.filter_congr key
theorem do_ok {l : List Mov} : ∀ {s : Sto} (r : Right s) {i : Nat}, (doL s l i).2.2 = 0 → Right (doL s l i).1 ∧ lostL (doL s l i).1 = lostL s := by
 induction l with
 | nil => intro s r i h; exact ⟨r, rfl⟩
 | cons m l ih =>
   intro s r i h
   rw [doL] at h ⊢
   by_cases h0 : mvE s m = 0
   ·rw [if_pos h0] at h ⊢
    obtain ⟨h1, h2⟩ := ih (right_mv r h0) h
    exact ⟨h1, h2.trans (lost_mv r h0)⟩
   ·rw [if_neg h0] at h
    exact absurd h h0
end St
namespace St
theorem zero_split : ∀ {A X B Y : List UInt8}, (0 : UInt8) ∉ X → (0 : UInt8) ∉ Y → A ++ 0 :: B = X ++ 0 :: Y → A = X ∧ B = Y
 | [], [], B, Y, _, _, h => ⟨rfl, List.tail_eq_of_cons_eq h⟩
 | [], x :: X, B, Y, hX, _, h => by
   have := List.head_eq_of_cons_eq h
   exact absurd (by rw [this]; simp) hX
 | a :: A, [], B, Y, _, hY, h => by
   have := List.tail_eq_of_cons_eq h
   exact absurd (by rw [← this]; simp) hY
 | a :: A, x :: X, B, Y, hX, hY, h => by
   have h1 := List.head_eq_of_cons_eq h
   obtain ⟨h2, h3⟩ := zero_split (fun g => hX (List.mem_cons_of_mem _ g)) hY (List.tail_eq_of_cons_eq h)
   exact ⟨by rw [h1, h2], h3⟩
theorem mem_at {d : ByteArray} {u : UInt8} (h : u ∈ d.toList) : ∃ i, ∃ hi : i < d.size, d[i] = u := by
 rw [ByteArray.toList_eq] at h
 obtain ⟨i, hi, e⟩ := List.getElem_of_mem h
 exact ⟨i, by simpa using hi, by rw [← e]; simp; rfl⟩
theorem dig_no0 {d : ByteArray} (h : Fd.fileB d = true) : (0 : UInt8) ∉ d.toList := by
 intro h0
 obtain ⟨i, hi, e⟩ := mem_at h0
 unfold Fd.fileB at h
 have := (of_decide_eq_true h).2 i hi
 rw [e] at this
 revert this; decide
theorem name_no0 {d : ByteArray} (h : Fd.nameB d = true) : (0 : UInt8) ∉ d.toList := by
 intro h0
 obtain ⟨i, hi, e⟩ := mem_at h0
 unfold Fd.nameB at h
 have := (of_decide_eq_true h).2 i hi
 rw [e] at this
 have h2 := (Fd.tailN_iff _).1 (Fd.nmN_tail _ _ this)
 revert h2; decide
theorem cop_no0 {s : Sto} (r : Right s) {c : Cop} (hc : c ∈ s.copies) : (0 : UInt8) ∉ c.dig.toList ∧ (0 : UInt8) ∉ c.tier.toList := by
 obtain ⟨h1, h2, _⟩ := r.cop c hc
 obtain ⟨f, hf⟩ := Option.isSome_iff_exists.1 h1
 obtain ⟨h3, h4⟩ := find_mem hf
 obtain ⟨t, ht, hn⟩ := hasTier_mem h2
 refine ⟨?_, ?_⟩
 ·rw [← eq_iff.1 h4]; exact dig_no0 (r.dig f h3).1
 ·rw [← hn]; exact name_no0 (tier_ok r.tiers ht).1
theorem ckey_any {s : Sto} (r : Right s) {c : Cop} (hc : c ∈ s.copies) {d t : ByteArray} : ckey c = key d t ↔ c.dig = d ∧ c.tier = t := by
 constructor
 ·intro h
  have h1 := congrArg ByteArray.toList h
  unfold ckey at h1
  rw [key_list, key_list] at h1
  obtain ⟨z1, z2⟩ := cop_no0 r hc
  obtain ⟨e1, e2⟩ := zero_split z1 z2 h1.symm
  rw [ByteArray.toList_eq, ByteArray.toList_eq] at e1 e2
  exact ⟨(ByteArray.ext (Array.toList_inj.1 e1)).symm, (ByteArray.ext (Array.toList_inj.1 e2)).symm⟩
 ·rintro ⟨rfl, rfl⟩; rfl
theorem hasCopy_any {s : Sto} (r : Right s) (d t : ByteArray) : hasCopy s d t = hasK ckey s.copies (key d t) := by
 rw [Bool.eq_iff_iff, has_iff, hasK_iff]
 constructor
 ·rintro ⟨c, hc, h1, h2⟩; exact ⟨c, hc, (ckey_any r hc).2 ⟨h1, h2⟩⟩
 ·rintro ⟨c, hc, h⟩
  obtain ⟨h1, h2⟩ := (ckey_any r hc).1 h
  exact ⟨c, hc, h1, h2⟩
theorem copy_pos {s : Sto} (r : Right s) {d t : ByteArray} (h : hasCopy s d t = true) : ∃ c, s.copies[pos ckey (key d t) s.copies]? = some c ∧ c.dig = d ∧ c.tier = t ∧ goodAt s d t = c.good ∧ askedOf s d t 0 = c.asked := by
 have h16 := has16 r h
 rw [hasCopy_any r] at h
 obtain ⟨c, hc, h1⟩ := hasK_at (cop_up r) h
 obtain ⟨h2, h3⟩ := (ckey_any r (List.mem_of_getElem? hc)).1 h1
 have hp := (copyAt_pos (t := t) r h16).1 h
 have hg := (good_idx s d t).2 _ hp
 obtain ⟨c', hc', _, hg'⟩ := hg
 rw [hc] at hc'
 obtain rfl := Option.some.inj hc'
 have hfi := find_idx (p := isCop d t) (L := s.copies) (i := 0)
 refine ⟨c, hc, h2, h3, hg', ?_⟩
 unfold askedOf
 have hq0 : s.copies.find? (fun c => eq c.dig d && eq c.tier t) = s.copies.find? (isCop d t) := rfl
 rw [hq0]
 cases hq : s.copies.find? (isCop d t) with
 | none =>
   have h3 : copyAt s d t = -1 := hfi.2 hq
   omega
 | some c2 =>
   obtain ⟨j, g1, g2⟩ := hfi.1 c2 hq
   have g3 : copyAt s d t = ((0 + j : Nat) : Int) := g1
   have g4 : j = pos ckey (key d t) s.copies := by omega
   rw [g4, hc] at g2
   obtain rfl := Option.some.inj g2
   rfl
end St
end Go.Proofs.YthdiccdnggloiaaGreatDoor
namespace Go.Proofs.YthdiccdnggloiaaGreatDoor
open Go.RowKit Go.Sort Go.Shelf Go.Maps
theorem hasC_is (L : List Cop) (hu : St.Up St.ckey L) (hz : ∀ x ∈ L, x.dig.size ≤ 100 ∧ x.tier.size ≤ 100) (h1m : L.length ≤ 1000000) (k : ByteArray) (a : Option Addr) (ca : Nat) (w : World) (hl : L.length ≤ ca ∧ ca ≤ 9223372036854775807) (hr : RowE St.eC w a L) :
  Calls Tryz.prog 133 #[.agg #[.func (.func 144) #[] #[], .slice a L.length ca], .string k] w fun e w' => e = .returned (.bool (St.hasK St.ckey L k)) ∧ Below w.heap.size w w' := by
 obtain ⟨W1, hW1, hP, hz1, hB1⟩ := box w #[.func (.func 144) #[] #[], .slice a L.length ca] 97
 have HW1 := Lib.hid hW1; have HB1 := Lib.hid hB1
 have r0 : W1.cell? ⟨w.heap.size, 0, none⟩ = some (.func (.func 144) #[] #[]) := (hP.cell 0).trans rfl
 have r1 : W1.cell? ⟨w.heap.size, 1, none⟩ = some (.slice a L.length ca) := (hP.cell 1).trans rfl
 have HC := Lib.hid (placeC_is L hu hz h1m k a ca W1 hl (hr.keep hB1))
 clear hW1 hP hz1 hB1 hr
 go_enter Tryz.func133, Tryz.ntmps133
 go_wp2_with fail
 rw [HW1.out]
 go_wp2_with (go_at_call 55; (with_reducible refine HC.out.mono ?_); rintro e w4 ⟨rfl, hB4⟩)
 go_ret
 exact ⟨rfl, below_up HB1.out hB4⟩
theorem copyKey_big (d t : ByteArray) (hd : d.size ≤ 1048576) (ht : t.size ≤ 1048576) (w : World) : Calls Tryz.prog 56 #[.string d, .string t] w fun e w' => e = .returned (.string (St.key d t)) ∧ w = w' := by
 go_enter Tryz.func56, Tryz.ntmps56
 go_wp2_with fail
 go_ret
 exact ⟨rfl, rfl⟩
theorem eq_empty (d : ByteArray) : St.eq d ⟨#[]⟩ = d.toList.isEmpty := by
 have h : (⟨#[]⟩ : ByteArray).toList = [] := by rw [ByteArray.toList_eq]
 unfold St.eq
 rw [h]
 cases d.toList <;> rfl
theorem checkMove_is (s : Sto) (a : StA) (mb : Nat) (m : Mov) (w : World) (hI : StIn w s a) (hM : FMap w mb s.files) (r : St.Right s) (hz : m.dig.size ≤ 1048576 ∧ m.frm.size ≤ 1048576 ∧ m.dst.size ≤ 1048576) :
  Calls Tryz.prog 124 #[.agg #[.int .i64 s.least, .int .i64 s.wait, .slice a.ta s.tiers.length a.tc, .slice a.fa s.files.length a.fc, .slice a.ca s.copies.length a.cc, .slice a.ha s.held.length a.hc, .slice a.ba s.bin.length a.bc, .map (some mb)], .agg #[.int .i64 m.kind, .string m.dig, .string m.frm, .string m.dst]] w fun e w' => e = .returned (.int .i64 (St.mvE s m)) ∧ Below w.heap.size w w' := by
 obtain ⟨W1, hW1, hP, hz1, hB1⟩ := box w #[.int .i64 s.least, .int .i64 s.wait, .slice a.ta s.tiers.length a.tc, .slice a.fa s.files.length a.fc, .slice a.ca s.copies.length a.cc, .slice a.ha s.held.length a.hc, .slice a.ba s.bin.length a.bc, .map (some mb)] 135
 obtain ⟨W2, hW2, hX, hz2, hB2⟩ := box W1 #[.int .i64 m.kind, .string m.dig, .string m.frm, .string m.dst] 52
 rw [hz1] at hX
 have HW1 := Lib.hid hW1; have HW2 := Lib.hid hW2
 have HBB := Lib.hid (below_up hB1 hB2)
 have hP := hP.keep hB2
 have HI2 := Lib.hid (hI.keep HBB.out)
 have HM2 := Lib.hid (hM.keep HBB.out)
 obtain ⟨_, y1, y2, y3, y4, y5⟩ := St.sizes_iff.1 r.sizes
 obtain ⟨kd, hkd⟩ : ∃ kd, m.kind = kd := ⟨_, rfl⟩
 obtain ⟨hc, hhc⟩ : ∃ hc, St.hasCopy s m.dig m.frm = hc := ⟨_, rfl⟩
 obtain ⟨de, hde⟩ : ∃ de, St.eq m.dst ⟨#[]⟩ = de := ⟨_, rfl⟩
 obtain ⟨nd, hnd⟩ : ∃ nd, St.neededD s m.dig = nd := ⟨_, rfl⟩
 obtain ⟨gd, hgd⟩ : ∃ gd, St.goodAt s m.dig m.frm = gd := ⟨_, rfl⟩
 obtain ⟨gl, hgl⟩ : ∃ gl, (St.goodL s m.dig).length = gl := ⟨_, rfl⟩
 obtain ⟨h2, hh2⟩ : ∃ h2, St.hasCopy s m.dig m.dst = h2 := ⟨_, rfl⟩
 obtain ⟨tn, htn⟩ : ∃ tn, St.tierAt s.tiers m.dst = tn := ⟨_, rfl⟩
 have HE : Hid (St.mvE s m = if kd ≠ 1 ∧ kd ≠ 2 then 10 else if hc = false then 7 else if kd = 2 then (if de = false then 1 else if nd = true ∧ gd = true ∧ gl = 1 then 14 else 0)
  else if decide (0 ≤ tn) = false then 7 else if h2 = true then 6 else if gd = false then 11 else if St.freeIn s m.dst < St.sizeOf s.files m.dig then 12 else 0) := Lib.hid (by
  rw [← hkd, ← hhc, ← hde, ← hnd, ← hgd, ← hgl, ← hh2, ← htn, ← St.hasTier_idx]; rfl)
 have HCP : Hid (hc = true → ∃ c, s.copies[St.pos St.ckey (St.key m.dig m.frm) s.copies]? = some c ∧ c.good = gd) := Lib.hid fun h => by
  obtain ⟨c, h1, _, _, h4, _⟩ := St.copy_pos r (hhc.trans h)
  exact ⟨c, h1, h4.symm.trans hgd⟩
 have H16 : Hid (hc = true → m.dig.size = 16) := Lib.hid fun h => St.has16 r (hhc.trans h)
 have HTG : Hid (0 ≤ tn → ∃ (k : Nat) (x : Tir), tn = (k : Int) ∧ s.tiers[k]? = some x ∧ x.name = m.dst ∧ (0 ≤ x.room ∧ x.room ≤ 1000000000000) ∧ St.freeIn s m.dst = x.room - St.used s.files x.name s.copies) := Lib.hid fun h => by
  rw [← htn] at h
  obtain ⟨k, x, hk, hka, hx⟩ := St.tier_get h
  exact ⟨k, x, htn.symm.trans hka, hk, hx, (St.tier_good r (List.mem_of_getElem? hk)).2.1, by unfold St.freeIn; rw [St.room_get hk hka, hx]⟩
 have hkp : (St.hasK St.ckey s.copies (St.key m.dig m.frm)) = hc := by rw [← St.hasCopy_any r]; exact hhc
 have hkt : (St.hasK St.ckey s.copies (St.key m.dig m.dst)) = h2 := by rw [← St.hasCopy_any r]; exact hh2
 have hde2 : m.dst.toList.isEmpty = de := by rw [← eq_empty]; exact hde
 have hcz : ∀ x ∈ s.copies, x.dig.size ≤ 100 ∧ x.tier.size ≤ 100 := fun x hx => by have := St.cop_good r hx; omega
 have HCR := Lib.hid (fun V => copiesRow_is s a V)
 have HKF := Lib.hid (fun V => copyKey_big m.dig m.frm hz.1 hz.2.1 V)
 have HKT := Lib.hid (fun V => copyKey_big m.dig m.dst hz.1 hz.2.2 V)
 have HPL := Lib.hid (fun V (hv : Below W2.heap.size W2 V) => placeC_is s.copies (St.cop_up r) hcz (by omega) (St.key m.dig m.frm) a.ca a.cc V (HI2.out.keep hv).cl (HI2.out.keep hv).co)
 have HHS := Lib.hid (fun V (hv : Below W2.heap.size W2 V) => hasC_is s.copies (St.cop_up r) hcz (by omega) (St.key m.dig m.dst) a.ca a.cc V (HI2.out.keep hv).cl (HI2.out.keep hv).co)
 have HND := Lib.hid (fun V (hv : Below W2.heap.size W2 V) => needed_is s a mb m.dig V (HI2.out.keep hv) (HM2.out.keep hv) r (by omega))
 have HGO := Lib.hid (fun V (hv : Below W2.heap.size W2 V) (h16 : m.dig.size = 16) => good_is s a mb m.dig V (HI2.out.keep hv) r h16)
 unfold TirPost at HGO
 have HTA := Lib.hid (fun V (hv : Below W2.heap.size W2 V) => tierAt_is s a m.dst V (HI2.out.keep hv))
 have HFR := Lib.hid (fun x V (hv : Below W2.heap.size W2 V) (hr : 0 ≤ x.room ∧ x.room ≤ 1000000000000) => free_is s a x mb V (HI2.out.keep hv) (HM2.out.keep hv) r.fup (St.szs_of (F := s.files) (fun f hf => (r.dig f hf).2)) y3 hr)
 have HLK := Lib.hid (fun V (hv : Below W2.heap.size W2 V) => (HM2.out.keep hv).look (d := m.dig) (by omega))
 obtain ⟨f, hf⟩ : ∃ f, (St.lastOf s.files m.dig).getD St.zeroF = f := ⟨_, rfl⟩
 rw [hf] at HLK
 have HSZ : Hid (f.size = St.sizeOf s.files m.dig) := Lib.hid (by rw [← hf, St.lastOf_up r.fup]; exact St.filD_size _ _)
 unfold St.fval at HLK
 rw [hkp] at HPL
 rw [hkt] at HHS
 rw [hnd] at HND
 rw [hgl] at HGO
 rw [htn] at HTA
 rw [hkd] at hW2 hX ⊢
 have HW2 := Lib.hid hW2
 have hfs := fldSize f.dig f.frm f.size f.kind
 generalize St.pos St.ckey (St.key m.dig m.frm) s.copies = p at *
 have HCL : Hid (∀ W, Below W2.heap.size W2 W → (W.cell? ⟨w.heap.size, 0, none⟩ = some (.int .i64 s.least) ∧ W.cell? ⟨w.heap.size, 1, none⟩ = some (.int .i64 s.wait) ∧ W.cell? ⟨w.heap.size, 2, none⟩ = some (.slice a.ta s.tiers.length a.tc) ∧ W.cell? ⟨w.heap.size, 3, none⟩ = some (.slice a.fa s.files.length a.fc) ∧ W.cell? ⟨w.heap.size, 4, none⟩ = some (.slice a.ca s.copies.length a.cc) ∧ W.cell? ⟨w.heap.size, 5, none⟩ = some (.slice a.ha s.held.length a.hc) ∧ W.cell? ⟨w.heap.size, 6, none⟩ = some (.slice a.ba s.bin.length a.bc) ∧ W.cell? ⟨w.heap.size, 7, none⟩ = some (.map (some mb))) ∧ W.cell? ⟨w.heap.size + 1, 0, none⟩ = some (.int .i64 kd) ∧ W.cell? ⟨w.heap.size + 1, 1, none⟩ = some (.string m.dig) ∧ W.cell? ⟨w.heap.size + 1, 2, none⟩ = some (.string m.frm) ∧ W.cell? ⟨w.heap.size + 1, 3, none⟩ = some (.string m.dst)) := Lib.hid fun W hv => ⟨(hP.keep hv).eight, (hX.keep hv).four⟩
 have HY3 := Lib.hid y3
 clear hI hM r hz hW1 hP hz1 hB1 hW2 hX hz2 hB2 hkd hhc hde hnd hgd hgl hh2 htn hkp hkt hcz y1 y2 y3 y4 y5 hf
 go_enter Tryz.func124, Tryz.ntmps124
 go_upto_region 1 with fail
 rw [HW1.out, HW2.out]
 have hv : Below W2.heap.size W2 W2.drew := (Below.refl _ _).drew
 obtain ⟨⟨p0, p1, p2, p3, p4, p5, p6, p7⟩, m0, m1, m2, m3⟩ := HCL.out _ hv
 go_region_held3 (fun W => (W.cell? ⟨w.heap.size, 0, none⟩ = some (.int .i64 s.least) ∧ W.cell? ⟨w.heap.size, 1, none⟩ = some (.int .i64 s.wait) ∧ W.cell? ⟨w.heap.size, 2, none⟩ = some (.slice a.ta s.tiers.length a.tc) ∧ W.cell? ⟨w.heap.size, 3, none⟩ = some (.slice a.fa s.files.length a.fc) ∧ W.cell? ⟨w.heap.size, 4, none⟩ = some (.slice a.ca s.copies.length a.cc) ∧ W.cell? ⟨w.heap.size, 5, none⟩ = some (.slice a.ha s.held.length a.hc) ∧ W.cell? ⟨w.heap.size, 6, none⟩ = some (.slice a.ba s.bin.length a.bc) ∧ W.cell? ⟨w.heap.size, 7, none⟩ = some (.map (some mb))) ∧ W.cell? ⟨w.heap.size + 1, 0, none⟩ = some (.int .i64 kd) ∧ W.cell? ⟨w.heap.size + 1, 1, none⟩ = some (.string m.dig) ∧ W.cell? ⟨w.heap.size + 1, 2, none⟩ = some (.string m.frm) ∧ W.cell? ⟨w.heap.size + 1, 3, none⟩ = some (.string m.dst))
  (first | (with_reducible exact ⟨⟨p0, p1, p2, p3, p4, p5, p6, p7⟩, m0, m1, m2, m3⟩) | go_keep)
  (first
   | (go_at_call 54; (with_reducible refine (HCR.out _).mono ?_); rintro e wa ⟨rfl, hq⟩; have hv := below_up hv hq; obtain ⟨⟨p0, p1, p2, p3, p4, p5, p6, p7⟩, m0, m1, m2, m3⟩ := HCL.out _ hv)
   | (go_at_call 56; (with_reducible refine (HKF.out _).mono ?_); rintro e wb ⟨rfl, rfl⟩)
   | (go_at_call 55; (with_reducible refine (HPL.out _ hv).mono ?_); rintro e wc ⟨rfl, hq⟩; have hv := below_up hv hq; obtain ⟨⟨p0, p1, p2, p3, p4, p5, p6, p7⟩, m0, m1, m2, m3⟩ := HCL.out _ hv)
   | fail)
 rename_i hHeld
 clear hHeld
 by_cases hk12 : kd ≠ 1 ∧ kd ≠ 2
 ·have hk1 : (kd != 1) = true := by simpa using hk12.1
  have hk2 : (kd != 2) = true := by simpa using hk12.2
  have HBZ := Lib.hid (below_up HBB.out hv)
  go_wp2_with fail
  go_ret
  exact ⟨ret_int (by rw [HE.out]; exact (if_pos hk12).symm), HBZ.out⟩
 ·by_cases hk2 : kd = 2
  ·subst hk2
   cases hc with
   | false =>
     have HBZ := Lib.hid (below_up HBB.out hv)
     go_wp2_with fail
     go_ret
     exact ⟨ret_int (by rw [HE.out]; rfl), HBZ.out⟩
   | true =>
     have h16 := H16.out (by first | rfl | trivial)
     obtain ⟨c, hcp, hcg⟩ := HCP.out (by first | rfl | trivial)
     cases de with
     | false =>
       have HBZ := Lib.hid (below_up HBB.out hv)
       go_wp2_with fail
       go_ret
       exact ⟨ret_int (by rw [HE.out]; rfl), HBZ.out⟩
     | true =>
       have HC := Lib.hid hcp
       have hpl := (List.getElem?_eq_some_iff.1 hcp).1
       obtain ⟨bb, off, ha, hb, hcell⟩ := HI2.out.co (by omega)
       have HC2 : Hid (∀ V, Below W2.heap.size W2 V → V.cell? ⟨bb, off + p * 4 + 2, none⟩ = some (.bool gd)) := Lib.hid fun V hv => (hv.cell (p := ⟨bb, off + p * 4 + 2, none⟩) hb).trans (by rw [← hcg]; exact hcell p c hcp 2 (.bool c.good) rfl)
       have hp0 : (0 : Int) ≤ (p : Int) := by omega
       have hp1 : (p : Int) < (s.copies.length : Int) := by omega
       have hp4 := HY3.out
       rw [ha] at p4 HND HGO HCL
       clear hcp hcg hb hcell ha
       cases nd with
       | false =>
         go_wp2_with (go_at_call 171; (with_reducible refine (HND.out _ hv).mono ?_); rintro e wd ⟨rfl, hq⟩; have hv := below_up hv hq; obtain ⟨⟨p0, p1, p2, p3, p4, p5, p6, p7⟩, m0, m1, m2, m3⟩ := HCL.out _ hv)
         have HBZ := Lib.hid (below_up HBB.out hv)
         go_ret
         exact ⟨ret_int (by rw [HE.out]; rfl), HBZ.out⟩
       | true =>
         cases gd with
         | false =>
           go_wp2_with (go_at_call 171; (with_reducible refine (HND.out _ hv).mono ?_); rintro e wd ⟨rfl, hq⟩; have hv := below_up hv hq; obtain ⟨⟨p0, p1, p2, p3, p4, p5, p6, p7⟩, m0, m1, m2, m3⟩ := HCL.out _ hv; have c2 := HC2.out _ hv)
           have HBZ := Lib.hid (below_up HBB.out hv)
           go_ret
           exact ⟨ret_int (by rw [HE.out]; rfl), HBZ.out⟩
         | true =>
           have HG := Lib.hid (fun V hv => HGO.out V hv h16)
           by_cases hg1 : gl = 1
           ·subst hg1
            go_wp2_with (first
             | (go_at_call 171; (with_reducible refine (HND.out _ hv).mono ?_); rintro e wd ⟨rfl, hq⟩; have hv := below_up hv hq; obtain ⟨⟨p0, p1, p2, p3, p4, p5, p6, p7⟩, m0, m1, m2, m3⟩ := HCL.out _ hv; have c2 := HC2.out _ hv)
             | (go_at_call 103; (with_reducible refine (HG.out _ hv).mono ?_); rintro e we ⟨g, cap, rfl, ho, hq⟩; have hv := below_up hv hq; obtain ⟨⟨p0, p1, p2, p3, p4, p5, p6, p7⟩, m0, m1, m2, m3⟩ := HCL.out _ hv))
            have HBZ := Lib.hid (below_up HBB.out hv)
            go_ret
            exact ⟨ret_int (by rw [HE.out]; rfl), HBZ.out⟩
           ·have hg2 : ((gl : Int) == 1) = false := by rw [beq_eq_false_iff_ne]; omega
            have hg3 : ¬ ((gl : Int) = 1) := by omega
            go_wp2_with (first
             | (go_at_call 171; (with_reducible refine (HND.out _ hv).mono ?_); rintro e wd ⟨rfl, hq⟩; have hv := below_up hv hq; obtain ⟨⟨p0, p1, p2, p3, p4, p5, p6, p7⟩, m0, m1, m2, m3⟩ := HCL.out _ hv; have c2 := HC2.out _ hv)
             | (go_at_call 103; (with_reducible refine (HG.out _ hv).mono ?_); rintro e we ⟨g, cap, rfl, ho, hq⟩; have hv := below_up hv hq; obtain ⟨⟨p0, p1, p2, p3, p4, p5, p6, p7⟩, m0, m1, m2, m3⟩ := HCL.out _ hv))
            have HBZ := Lib.hid (below_up HBB.out hv)
            go_ret
            exact ⟨ret_int (by rw [HE.out]; simp [hg1]), HBZ.out⟩
  ·obtain rfl : kd = 1 := by omega
   cases hc with
   | false =>
     have HBZ := Lib.hid (below_up HBB.out hv)
     go_wp2_with fail
     go_ret
     exact ⟨ret_int (by rw [HE.out]; rfl), HBZ.out⟩
   | true =>
     have h16 := H16.out (by first | rfl | trivial)
     obtain ⟨c, hcp, hcg⟩ := HCP.out (by first | rfl | trivial)
     go_upto_region 13 with (go_at_call 91; (with_reducible refine (HTA.out _ hv).mono ?_); rintro e wd ⟨rfl, hq⟩; have hv := below_up hv hq; obtain ⟨⟨p0, p1, p2, p3, p4, p5, p6, p7⟩, m0, m1, m2, m3⟩ := HCL.out _ hv)
     by_cases ht : tn < 0
     ·have ht1 : decide (tn < 0) = true := decide_eq_true ht
      have ht2 : decide (0 ≤ tn) = false := decide_eq_false (by omega)
      have HBZ := Lib.hid (below_up HBB.out hv)
      go_wp2_with fail
      go_ret
      exact ⟨ret_int (by rw [HE.out]; rw [ht2]; rfl), HBZ.out⟩
     ·have ht1 : decide (tn < 0) = false := decide_eq_false ht
      have ht2 : decide (0 ≤ tn) = true := decide_eq_true (by omega)
      obtain ⟨k, x, htk, hkx, hxn, hxr, hfi⟩ := HTG.out (by omega)
      have HE2 : Hid (St.mvE s m = if h2 = true then 6 else if gd = false then 11 else if x.room - St.used s.files x.name s.copies < f.size then 12 else 0) := Lib.hid (by rw [HE.out, ht2, hfi, HSZ.out]; rfl)
      clear HE
      have HE := HE2
      clear HE2
      have HF := Lib.hid (fun V hv => HFR.out x V hv hxr)
      clear hxn hfi hxr
      generalize x.room - St.used s.files x.name s.copies = fq at *
      go_upto_region 15 with fail
      have hv := hv.drew
      clear p0 p1 p2 p3 p4 p5 p6 p7 m0 m1 m2 m3
      obtain ⟨⟨p0, p1, p2, p3, p4, p5, p6, p7⟩, m0, m1, m2, m3⟩ := HCL.out _ hv
      go_region_held3 (fun W => (W.cell? ⟨w.heap.size, 0, none⟩ = some (.int .i64 s.least) ∧ W.cell? ⟨w.heap.size, 1, none⟩ = some (.int .i64 s.wait) ∧ W.cell? ⟨w.heap.size, 2, none⟩ = some (.slice a.ta s.tiers.length a.tc) ∧ W.cell? ⟨w.heap.size, 3, none⟩ = some (.slice a.fa s.files.length a.fc) ∧ W.cell? ⟨w.heap.size, 4, none⟩ = some (.slice a.ca s.copies.length a.cc) ∧ W.cell? ⟨w.heap.size, 5, none⟩ = some (.slice a.ha s.held.length a.hc) ∧ W.cell? ⟨w.heap.size, 6, none⟩ = some (.slice a.ba s.bin.length a.bc) ∧ W.cell? ⟨w.heap.size, 7, none⟩ = some (.map (some mb))) ∧ W.cell? ⟨w.heap.size + 1, 0, none⟩ = some (.int .i64 1) ∧ W.cell? ⟨w.heap.size + 1, 1, none⟩ = some (.string m.dig) ∧ W.cell? ⟨w.heap.size + 1, 2, none⟩ = some (.string m.frm) ∧ W.cell? ⟨w.heap.size + 1, 3, none⟩ = some (.string m.dst))
       (first | (with_reducible exact ⟨⟨p0, p1, p2, p3, p4, p5, p6, p7⟩, m0, m1, m2, m3⟩) | go_keep)
       (first
        | (go_at_call 54; (with_reducible refine (HCR.out _).mono ?_); rintro e wa ⟨rfl, hq⟩; have hv := below_up hv hq; obtain ⟨⟨p0, p1, p2, p3, p4, p5, p6, p7⟩, m0, m1, m2, m3⟩ := HCL.out _ hv)
        | (go_at_call 56; (with_reducible refine (HKT.out _).mono ?_); rintro e wb ⟨rfl, rfl⟩)
        | (go_at_call 133; (with_reducible refine (HHS.out _ hv).mono ?_); rintro e wc ⟨rfl, hq⟩; have hv := below_up hv hq; obtain ⟨⟨p0, p1, p2, p3, p4, p5, p6, p7⟩, m0, m1, m2, m3⟩ := HCL.out _ hv)
        | fail)
      rename_i hHeld
      clear hHeld
      cases h2 with
      | true =>
        have HBZ := Lib.hid (below_up HBB.out hv)
        go_wp2_with fail
        go_ret
        exact ⟨ret_int (by rw [HE.out]; rfl), HBZ.out⟩
      | false =>
        have HC := Lib.hid hcp
        have hpl := (List.getElem?_eq_some_iff.1 hcp).1
        have hkl := (List.getElem?_eq_some_iff.1 hkx).1
        obtain ⟨bb, off, ha, hb, hcell⟩ := HI2.out.co (by omega)
        obtain ⟨tb, tof, hta, htb, htcell⟩ := HI2.out.ti (by omega)
        have c2 : wc.cell? ⟨bb, off + p * 4 + 2, none⟩ = some (.bool gd) := (hv.cell (p := ⟨bb, off + p * 4 + 2, none⟩) hb).trans (by rw [← hcg]; exact hcell p c hcp 2 (.bool c.good) rfl)
        have HT4 : Hid (∀ V, Below W2.heap.size W2 V → V.cell? ⟨tb, tof + k * 4, none⟩ = some (.string x.name) ∧ V.cell? ⟨tb, tof + k * 4 + 1, none⟩ = some (.int .i64 x.room) ∧ V.cell? ⟨tb, tof + k * 4 + 2, none⟩ = some (.int .i64 x.cost) ∧ V.cell? ⟨tb, tof + k * 4 + 3, none⟩ = some (.bool x.away)) := Lib.hid fun V hv =>
         ⟨(hv.cell (p := ⟨tb, tof + k * 4, none⟩) htb).trans (htcell k x hkx 0 (.string x.name) rfl), (hv.cell (p := ⟨tb, tof + k * 4 + 1, none⟩) htb).trans (htcell k x hkx 1 (.int .i64 x.room) rfl), (hv.cell (p := ⟨tb, tof + k * 4 + 2, none⟩) htb).trans (htcell k x hkx 2 (.int .i64 x.cost) rfl), (hv.cell (p := ⟨tb, tof + k * 4 + 3, none⟩) htb).trans (htcell k x hkx 3 (.bool x.away) rfl)⟩
        have hp0 : (0 : Int) ≤ (p : Int) := by omega
        have hp1 : (p : Int) < (s.copies.length : Int) := by omega
        have hp4 := HY3.out
        have hk0 : (0 : Int) ≤ (k : Int) := by omega
        have hk1' : (k : Int) < (s.tiers.length : Int) := by omega
        rw [ha] at p4
        rw [ha] at HF
        rw [ha] at HCL
        clear hcp hcg hb hcell ha htb htcell hkx
        cases gd with
        | false =>
          have HBZ := Lib.hid (below_up HBB.out hv)
          go_wp2_with fail
          go_ret
          exact ⟨ret_int (by rw [HE.out]; rfl), HBZ.out⟩
        | true =>
          subst htk
          go_upto_region 19 with fail
          have hv := hv.drew
          rw [hta] at HF
          rw [hta] at HCL
          clear p0 p1 p2 p3 p4 p5 p6 p7 m0 m1 m2 m3 c2
          obtain ⟨⟨p0, p1, p2, p3, p4, p5, p6, p7⟩, m0, m1, m2, m3⟩ := HCL.out _ hv
          obtain ⟨t0, t1, t2, t3⟩ := HT4.out _ hv
          have hl := HLK.out _ hv
          by_cases hfq : fq < f.size
          ·have HFQ := Lib.hid hfq
           have hf1 : decide (fq < f.size) = true := decide_eq_true hfq
           have hf2 : (fq < f.size) = True := eq_true hfq
           go_region_held3 (fun W => ((W.cell? ⟨w.heap.size, 0, none⟩ = some (.int .i64 s.least) ∧ W.cell? ⟨w.heap.size, 1, none⟩ = some (.int .i64 s.wait) ∧ W.cell? ⟨w.heap.size, 2, none⟩ = some (.slice (some ⟨tb, tof, none⟩) s.tiers.length a.tc) ∧ W.cell? ⟨w.heap.size, 3, none⟩ = some (.slice a.fa s.files.length a.fc) ∧ W.cell? ⟨w.heap.size, 4, none⟩ = some (.slice (some ⟨bb, off, none⟩) s.copies.length a.cc) ∧ W.cell? ⟨w.heap.size, 5, none⟩ = some (.slice a.ha s.held.length a.hc) ∧ W.cell? ⟨w.heap.size, 6, none⟩ = some (.slice a.ba s.bin.length a.bc) ∧ W.cell? ⟨w.heap.size, 7, none⟩ = some (.map (some mb))) ∧ W.cell? ⟨w.heap.size + 1, 0, none⟩ = some (.int .i64 1) ∧ W.cell? ⟨w.heap.size + 1, 1, none⟩ = some (.string m.dig) ∧ W.cell? ⟨w.heap.size + 1, 2, none⟩ = some (.string m.frm) ∧ W.cell? ⟨w.heap.size + 1, 3, none⟩ = some (.string m.dst)) ∧ (W.cell? ⟨tb, tof + k * 4, none⟩ = some (.string x.name) ∧ W.cell? ⟨tb, tof + k * 4 + 1, none⟩ = some (.int .i64 x.room) ∧ W.cell? ⟨tb, tof + k * 4 + 2, none⟩ = some (.int .i64 x.cost) ∧ W.cell? ⟨tb, tof + k * 4 + 3, none⟩ = some (.bool x.away)) ∧ (Instr.lookup 133 (.map (some mb)) (.string m.dig) false).run Tryz.prog W = .ok (.agg #[.string f.dig, .int .i64 f.size, .int .i64 f.kind, .string f.frm]) W)
            (first | (with_reducible exact ⟨⟨⟨p0, p1, p2, p3, p4, p5, p6, p7⟩, m0, m1, m2, m3⟩, ⟨t0, t1, t2, t3⟩, hl⟩))
            (first
             | (go_at_call 97; (with_reducible refine (HF.out _ hv).mono ?_); rintro e we ⟨rfl, hq⟩; have hv := below_up hv hq; obtain ⟨⟨p0, p1, p2, p3, p4, p5, p6, p7⟩, m0, m1, m2, m3⟩ := HCL.out _ hv; obtain ⟨t0, t1, t2, t3⟩ := HT4.out _ hv; have hl := HLK.out _ hv)
             | fail)
           all_goals
            rename_i hHeld
            clear hHeld
            have HBZ := Lib.hid (below_up HBB.out hv)
            go_wp2_with fail
            go_ret
            exact ⟨ret_int (by rw [HE.out]; exact (if_pos (by have := HFQ.out; omega)).symm), HBZ.out⟩
          ·have HFQ := Lib.hid hfq
           have hf1 : decide (fq < f.size) = false := decide_eq_false hfq
           have hf2 : (fq < f.size) = False := eq_false hfq
           go_region_held3 (fun W => ((W.cell? ⟨w.heap.size, 0, none⟩ = some (.int .i64 s.least) ∧ W.cell? ⟨w.heap.size, 1, none⟩ = some (.int .i64 s.wait) ∧ W.cell? ⟨w.heap.size, 2, none⟩ = some (.slice (some ⟨tb, tof, none⟩) s.tiers.length a.tc) ∧ W.cell? ⟨w.heap.size, 3, none⟩ = some (.slice a.fa s.files.length a.fc) ∧ W.cell? ⟨w.heap.size, 4, none⟩ = some (.slice (some ⟨bb, off, none⟩) s.copies.length a.cc) ∧ W.cell? ⟨w.heap.size, 5, none⟩ = some (.slice a.ha s.held.length a.hc) ∧ W.cell? ⟨w.heap.size, 6, none⟩ = some (.slice a.ba s.bin.length a.bc) ∧ W.cell? ⟨w.heap.size, 7, none⟩ = some (.map (some mb))) ∧ W.cell? ⟨w.heap.size + 1, 0, none⟩ = some (.int .i64 1) ∧ W.cell? ⟨w.heap.size + 1, 1, none⟩ = some (.string m.dig) ∧ W.cell? ⟨w.heap.size + 1, 2, none⟩ = some (.string m.frm) ∧ W.cell? ⟨w.heap.size + 1, 3, none⟩ = some (.string m.dst)) ∧ (W.cell? ⟨tb, tof + k * 4, none⟩ = some (.string x.name) ∧ W.cell? ⟨tb, tof + k * 4 + 1, none⟩ = some (.int .i64 x.room) ∧ W.cell? ⟨tb, tof + k * 4 + 2, none⟩ = some (.int .i64 x.cost) ∧ W.cell? ⟨tb, tof + k * 4 + 3, none⟩ = some (.bool x.away)) ∧ (Instr.lookup 133 (.map (some mb)) (.string m.dig) false).run Tryz.prog W = .ok (.agg #[.string f.dig, .int .i64 f.size, .int .i64 f.kind, .string f.frm]) W)
            (first | (with_reducible exact ⟨⟨⟨p0, p1, p2, p3, p4, p5, p6, p7⟩, m0, m1, m2, m3⟩, ⟨t0, t1, t2, t3⟩, hl⟩))
            (first
             | (go_at_call 97; (with_reducible refine (HF.out _ hv).mono ?_); rintro e we ⟨rfl, hq⟩; have hv := below_up hv hq; obtain ⟨⟨p0, p1, p2, p3, p4, p5, p6, p7⟩, m0, m1, m2, m3⟩ := HCL.out _ hv; obtain ⟨t0, t1, t2, t3⟩ := HT4.out _ hv; have hl := HLK.out _ hv)
             | fail)
           all_goals
            rename_i hHeld
            clear hHeld
            have HBZ := Lib.hid (below_up HBB.out hv)
            go_wp2_with fail
            go_ret
            exact ⟨ret_int (by rw [HE.out]; exact (if_neg (by have := HFQ.out; omega)).symm), HBZ.out⟩
theorem flat_delC (L : List Cop) (p : Nat) : (St.eC.flat L).take (p * 4) ++ (St.eC.flat L).drop ((p + 1) * 4) = St.eC.flat (L.eraseIdx p) := by
 have h1 := Enc.flat_take St.eC L p
 have h2 := Enc.flat_drop St.eC L (p + 1)
 have h3 : St.eC.k = 4 := rfl
 rw [h3] at h1 h2
 rw [h1, h2, ← Enc.flat_append, List.eraseIdx_eq_take_drop_succ]
theorem woC_is (L : List Cop) (hu : St.Up St.ckey L) (hz : ∀ x ∈ L, x.dig.size ≤ 100 ∧ x.tier.size ≤ 100) (h1m : L.length ≤ 900000) (k : ByteArray) (a : Option Addr) (ca : Nat) (w : World) (hl : L.length ≤ ca ∧ ca ≤ 9223372036854775807) (hr : RowE St.eC w a L) :
  Calls Tryz.prog 186 #[.agg #[.func (.func 144) #[] #[], .slice a L.length ca], .string k] w (ClnPost St.eC 74 w (St.wo St.ckey k L)) := by
 obtain ⟨W1, hW1, hP, hz1, hB1⟩ := box w #[.func (.func 144) #[] #[], .slice a L.length ca] 97
 have HW1 := Lib.hid hW1; have HBB := Lib.hid hB1; have HZS : Hid (w.heap.size ≤ W1.heap.size) := Lib.hid hB1.size
 have HCL : Hid (∀ V, Below W1.heap.size W1 V → V.cell? ⟨w.heap.size, 0, none⟩ = some (.func (.func 144) #[] #[]) ∧ V.cell? ⟨w.heap.size, 1, none⟩ = some (.slice a L.length ca)) := Lib.hid fun V hv => ⟨((hP.keep hv).cell 0).trans rfl, ((hP.keep hv).cell 1).trans rfl⟩
 have HPL := Lib.hid (fun V (hv : Below W1.heap.size W1 V) => placeC_is L hu hz (by omega) k a ca V hl ((hr.keep HBB.out).keep hv))
 have HCN := Lib.hid (fun V (hv : Below W1.heap.size W1 V) => clnC_is (L := L) a ca V ((hr.keep HBB.out).keep hv) (by omega))
 unfold ClnPost at HCN
 have HW : Hid (St.wo St.ckey k L = if St.hasK St.ckey L k = true then L.eraseIdx (St.pos St.ckey k L) else L) := Lib.hid rfl
 have HPT := Lib.hid (fun h : St.hasK St.ckey L k = true => St.hasK_at hu h)
 obtain ⟨p, hp⟩ : ∃ p, St.pos St.ckey k L = p := ⟨_, rfl⟩
 obtain ⟨hb, hhb⟩ : ∃ hb, St.hasK St.ckey L k = hb := ⟨_, rfl⟩
 rw [hp, hhb] at HPL HW HPT
 obtain ⟨n, hn⟩ : ∃ n, L.length = n := ⟨_, rfl⟩
 have HN := Lib.hid hn
 rw [hn] at hl h1m HCL HPL HCN HW1 ⊢
 have hmf : ∀ (fn : Fn) (first cap : Array Value) (w : World), (Instr.makeFunc fn first cap).run Tryz.prog w = .ok (.func fn first cap) w := fun _ _ _ _ => rfl
 clear hr hW1 hP hz1 hB1 hu hz hp hhb hn
 go_enter Tryz.func186, Tryz.ntmps186
 go_upto_region 1 with fail
 rw [HW1.out]
 have hv : Below W1.heap.size W1 W1 := Below.refl _ _
 obtain ⟨r0, r1⟩ := HCL.out _ hv
 go_upto_region 2 with (go_at_call 55; (with_reducible refine (HPL.out _ hv).mono ?_); rintro e wp ⟨rfl, hq⟩; have hv := below_up hv hq; obtain ⟨r0, r1⟩ := HCL.out _ hv)
 cases hb
 ·have hW := HW.out
  rw [if_neg (by decide)] at hW
  have HWL : Hid (St.wo St.ckey k L = L) := Lib.hid hW
  clear hW
  go_wp2_with (first
   | (go_at_call 139; (with_reducible refine (HCN.out _ hv).mono ?_); rintro e w4 ⟨g4, c4, rfl, ho4, hq⟩; have HO4 := Lib.hid (ho4.down (Nat.le_trans HZS.out hv.size)); have l1 := ho4.caps.1; have l2 := ho4.caps.2; have HV4 := Lib.hid (below_up HBB.out (below_up hv hq)); clear ho4 hq)
   | (go_at_call 138; (with_reducible refine (clnC_clip _ _ _ _ l1 l2).mono ?_); rintro e wc ⟨rfl, rfl⟩))
  go_ret
  refine ⟨g4, n, by rw [HWL.out, HN.out]; rfl, ?_, HV4.out⟩
  rw [HWL.out, HN.out]
  exact HO4.out.clip
 ·obtain ⟨y, hy, _⟩ := HPT.out rfl
  have hpn : p < n := by rw [← HN.out]; exact (List.getElem?_eq_some_iff.1 hy).1
  obtain ⟨m, rfl⟩ : ∃ m, n = m + 1 := ⟨n - 1, by omega⟩
  have hW := HW.out
  rw [if_pos rfl] at hW
  have HWL : Hid (St.wo St.ckey k L = L.eraseIdx p) := Lib.hid hW
  have HWN : Hid ((L.eraseIdx p).length = m) := Lib.hid (by rw [List.length_eraseIdx_of_lt (by rw [HN.out]; exact hpn), HN.out]; rfl)
  clear hW hy
  have hp0 : (0 : Int) ≤ (p : Int) := by omega
  have hpw : IntKind.i64.wrap ((p : Int) + 1) = (p : Int) + 1 := by rw [IntKind.wrap_i64]; omega
  go_wp2_with (first
   | (go_at_call 139; (with_reducible refine (HCN.out _ hv).mono ?_); rintro e w4 ⟨g4, c4, rfl, ho4, hq⟩; have ho : OwnV w4 w.heap.size 74 4 (.slice g4 (m + 1) c4) (m + 1) (St.eC.flat L) := ho4.down (Nat.le_trans HZS.out hv.size); have HV4 := Lib.hid (below_up HBB.out (below_up hv hq)); obtain ⟨g, hg, hc⟩ : ∃ g, g4 = some ⟨g, 0, none⟩ ∧ OwnC w4 w.heap.size 74 4 g (m + 1) c4 (St.eC.flat L) := (by (rcases ho with ⟨_, h0, _⟩ | ⟨g, cap, h0, hc⟩); (exact absurd h0 (by omega)); (cases h0; exact ⟨g, rfl, hc⟩)); subst hg; have HGL := Lib.hid hc.lt.1; have HDL := Lib.hid (cp_del w.heap.size g m c4 p (St.eC.flat L) w4 hc (by omega) (by omega) (Enc.flat_one St.eC L)); rw [flat_delC] at HDL; clear ho4 hq ho hc)
   | (go_at_call 187; (with_reducible refine HDL.out.mono ?_); rintro e w8 ⟨rfl, hc8, hg8⟩; have HC8 := Lib.hid hc8; have HF := Lib.hid (HV4.out.grown hg8 HV4.out.size (fun b e => by cases e; exact HGL.out)); have l1 : m ≤ c4 := (by obtain ⟨_, _, _, h, _⟩ := HC8.out; exact h); have l2 : c4 ≤ 9223372036854775807 := (by obtain ⟨_, _, _, _, h, _⟩ := HC8.out; exact h); clear hc8 hg8)
   | (go_at_call 138; (with_reducible refine (clnC_clip _ _ _ _ l1 l2).mono ?_); rintro e wc ⟨rfl, rfl⟩))
  go_ret
  refine ⟨some ⟨g, 0, none⟩, m, by rw [HWL.out, HWN.out]; rfl, ?_, HF.out⟩
  rw [HWL.out, HWN.out]
  exact .inr ⟨g, m, rfl, HC8.out.clip⟩
end Go.Proofs.YthdiccdnggloiaaGreatDoor

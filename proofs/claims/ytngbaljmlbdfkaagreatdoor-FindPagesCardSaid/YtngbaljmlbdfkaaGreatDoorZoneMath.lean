/- Plain mathematics of zones: the offset at a moment, the stretches in which it stays, the moments with given local seconds, and numbers in order. -/
import Derived.Test.YtngbaljmlbdfkaaGreatDoorEventsMath
namespace Go.Proofs.YtngbaljmlbdfkaaGreatDoor.Zn
set_option linter.unusedVariables false
def zok (o : Int) : Bool := decide (-840 ≤ o ∧ o ≤ 840)
theorem zok_iff (o : Int) : zok o = true ↔ -840 ≤ o ∧ o ≤ 840 := by simp [zok]
theorem zok_no (o : Int) : zok o = false ↔ o < -840 ∨ 840 < o := by simp only [zok, decide_eq_false_iff_not]; omega
/-- Change i's error behind the first i, which are right. -/
def bad (F O : Nat → Int) (i : Nat) : Int :=
  if Ev.mom (F i) = true ∧ zok (O i) = true then (if i = 0 then 0 else if F i ≤ F (i - 1) then 5 else 0) else 2
theorem bad_mom {F O : Nat → Int} {i : Nat} (h : Ev.mom (F i) = false ∨ zok (O i) = false) : bad F O i = 2 := by
  unfold bad; rw [if_neg]; rintro ⟨h1, h2⟩; rw [h1, h2] at h; simp at h
theorem bad_first {F O : Nat → Int} {i : Nat} (h1 : Ev.mom (F i) = true) (h2 : zok (O i) = true) (h : i = 0) : bad F O i = 0 := by
  unfold bad; rw [if_pos ⟨h1, h2⟩, if_pos h]
theorem bad_ord {F O : Nat → Int} {i : Nat} (h1 : Ev.mom (F i) = true) (h2 : zok (O i) = true) (h0 : i ≠ 0) (h : F i ≤ F (i - 1)) : bad F O i = 5 := by
  unfold bad; rw [if_pos ⟨h1, h2⟩, if_neg h0, if_pos h]
theorem bad_ok {F O : Nat → Int} {i : Nat} (h1 : Ev.mom (F i) = true) (h2 : zok (O i) = true) (h0 : i ≠ 0) (h : F (i - 1) < F i) : bad F O i = 0 := by
  unfold bad; rw [if_pos ⟨h1, h2⟩, if_neg h0, if_neg (by omega)]
/-- The first error among the changes i, i + 1 .. i + k - 1. -/
def scan (F O : Nat → Int) : Nat → Nat → Int
  | _, 0 => 0
  | i, k + 1 => if bad F O i = 0 then scan F O (i + 1) k else bad F O i
def err (f : Int) (F O : Nat → Int) (n : Nat) : Int := if 200 < n then 4 else if zok f = true then scan F O 0 n else 2
theorem scan_ok {F O : Nat → Int} {i k : Nat} (h : bad F O i = 0) : scan F O i (k + 1) = scan F O (i + 1) k := by rw [scan, if_pos h]
theorem scan_bad {F O : Nat → Int} {i k : Nat} (h : bad F O i ≠ 0) : scan F O i (k + 1) = bad F O i := by rw [scan, if_neg h]
theorem scan_here {F O : Nat → Int} {n j : Nat} {q e : Int} (h : scan F O j (n - j) = q) (hj : j < n) (hb : bad F O j = e) (he : e ≠ 0) : e = q := by
  rw [show n - j = (n - j - 1) + 1 by omega, scan_bad (by rw [hb]; exact he), hb] at h; exact h
theorem scan_next {F O : Nat → Int} {n j : Nat} {q : Int} (h : scan F O j (n - j) = q) (hj : j < n) (hb : bad F O j = 0) : scan F O (j + 1) (n - (j + 1)) = q := by
  rw [show n - j = (n - (j + 1)) + 1 by omega, scan_ok hb] at h; exact h
theorem all_next {F O : Nat → Int} {j : Nat} (h : ∀ i, i < j → bad F O i = 0) (hb : bad F O j = 0) : ∀ i, i < j + 1 → bad F O i = 0 := by
  intro i hi; by_cases e : i = j
  · exact e ▸ hb
  · exact h i (by omega)
theorem scan_zero {F O : Nat → Int} (k : Nat) : ∀ i, scan F O i k = 0 → ∀ j, i ≤ j → j < i + k → bad F O j = 0 := by
  induction k with
  | zero => intro i _ j h1 h2; omega
  | succ k ih =>
    intro i h j h1 h2
    by_cases hb : bad F O i = 0
    · by_cases e : j = i
      · subst e; exact hb
      · rw [scan_ok hb] at h; exact ih (i + 1) h j (by omega) (by omega)
    · rw [scan_bad hb] at h; exact absurd h hb
theorem bad_zero {F O : Nat → Int} {i : Nat} (h : bad F O i = 0) : ((0 ≤ F i ∧ F i ≤ 6311433599) ∧ (-840 ≤ O i ∧ O i ≤ 840)) ∧ (i = 0 ∨ F (i - 1) < F i) := by
  unfold bad at h
  split at h
  · rename_i hm
    refine ⟨⟨(Ev.mom_iff _).1 hm.1, (zok_iff _).1 hm.2⟩, ?_⟩
    split at h
    · exact .inl (by assumption)
    · split at h
      · omega
      · right; omega
  · omega
/-- A zone that is right. -/
structure Right (f : Int) (F O : Nat → Int) (n : Nat) : Prop where
  few : n ≤ 200
  first : -840 ≤ f ∧ f ≤ 840
  mom : ∀ i, i < n → (0 ≤ F i ∧ F i ≤ 6311433599) ∧ (-840 ≤ O i ∧ O i ≤ 840)
  up : ∀ i, i + 1 < n → F i < F (i + 1)
theorem right_of {f : Int} {F O : Nat → Int} {n : Nat} (h : err f F O n = 0) : Right f F O n := by
  unfold err at h
  split at h
  · omega
  · split at h
    · rename_i hz
      have hs := scan_zero n 0 h
      refine ⟨by omega, (zok_iff _).1 hz, fun i hi => (bad_zero (hs i (by omega) (by omega))).1, fun i hi => ?_⟩
      have := (bad_zero (hs (i + 1) (by omega) (by omega))).2
      rcases this with e | e
      · omega
      · simpa using e
    · omega
theorem Right.rise {f : Int} {F O : Nat → Int} {n : Nat} (h : Right f F O n) (i : Nat) : ∀ j, i < j → j < n → F i < F j := by
  intro j hij hj
  obtain ⟨k, rfl⟩ : ∃ k, j = i + 1 + k := ⟨j - i - 1, by omega⟩
  induction k with
  | zero => exact h.up i (by omega)
  | succ k ih => have := ih (by omega) (by omega); have := h.up (i + 1 + k) (by omega); rw [Nat.add_succ]; simp only [Nat.succ_eq_add_one]; omega
/-- The offset at a moment: that of the last change not later. -/
def at_ (f : Int) (F O : Nat → Int) (m : Int) : Nat → Int
  | 0 => f
  | k + 1 => if F k ≤ m then O k else at_ f F O m k
theorem at_bd {f : Int} {F O : Nat → Int} {n : Nat} (h : Right f F O n) (m : Int) : ∀ k, k ≤ n → -840 ≤ at_ f F O m k ∧ at_ f F O m k ≤ 840 := by
  intro k
  induction k with
  | zero => intro _; exact h.first
  | succ k ih => intro hk; unfold at_; split; exact (h.mom k (by omega)).2; exact ih (by omega)
/-- Where stretch i begins, where it ends, and its offset. -/
def frm (F : Nat → Int) (i : Nat) : Int := if i = 0 then 0 else F (i - 1)
def ofs (f : Int) (O : Nat → Int) (i : Nat) : Int := if i = 0 then f else O (i - 1)
def upto (F : Nat → Int) (n i : Nat) : Int := if i = n then 6311433599 else F i - 1
theorem frm_succ (F : Nat → Int) (i : Nat) : frm F (i + 1) = F i := by simp [frm]
theorem ofs_succ (f : Int) (O : Nat → Int) (i : Nat) : ofs f O (i + 1) = O i := by simp [ofs]
theorem Right.frm_bd {f : Int} {F O : Nat → Int} {n : Nat} (h : Right f F O n) (i : Nat) (hi : i ≤ n) : 0 ≤ frm F i ∧ frm F i ≤ 6311433599 := by
  unfold frm; split; omega; exact (h.mom (i - 1) (by omega)).1
theorem Right.ofs_bd {f : Int} {F O : Nat → Int} {n : Nat} (h : Right f F O n) (i : Nat) (hi : i ≤ n) : -840 ≤ ofs f O i ∧ ofs f O i ≤ 840 := by
  unfold ofs; split; exact h.first; exact (h.mom (i - 1) (by omega)).2
theorem at_later {f : Int} {F O : Nat → Int} {n : Nat} (h : Right f F O n) (m : Int) (i : Nat) (hm : i < n → m < F i) : ∀ k, i ≤ k → k ≤ n → at_ f F O m k = at_ f F O m i := by
  intro k hik
  obtain ⟨d, rfl⟩ : ∃ d, k = i + d := ⟨k - i, by omega⟩
  clear hik
  induction d with
  | zero => intro _; rfl
  | succ d ih =>
    intro hk
    have e := ih (by omega)
    have h1 := hm (by omega)
    have h2 : m < F (i + d) := by
      by_cases d0 : d = 0
      · subst d0; exact h1
      · have := h.rise i (i + d) (by omega) (by omega); omega
    rw [show i + (d + 1) = i + d + 1 by omega, at_, if_neg (by omega), e]
/-- In stretch i the offset is that of the stretch. -/
theorem at_in {f : Int} {F O : Nat → Int} {n : Nat} (h : Right f F O n) (m : Int) (i : Nat) (hi : i ≤ n) (h1 : frm F i ≤ m) (h2 : i < n → m < F i) : at_ f F O m n = ofs f O i := by
  rw [at_later h m i h2 n hi (Nat.le_refl _)]
  cases i with
  | zero => rfl
  | succ i => rw [frm_succ] at h1; rw [ofs_succ, at_, if_pos h1]
/-- Each moment lies in a stretch. -/
theorem find_in {f : Int} {F O : Nat → Int} {n : Nat} (h : Right f F O n) (m : Int) (h0 : 0 ≤ m) : ∃ i, i ≤ n ∧ frm F i ≤ m ∧ (i < n → m < F i) := by
  have key : ∀ k, k ≤ n → (∃ i, i ≤ k ∧ frm F i ≤ m ∧ (i < k → m < F i)) := by
    intro k
    induction k with
    | zero => intro _; exact ⟨0, by omega, by simpa [frm] using h0, fun h => by omega⟩
    | succ k ih =>
      intro hk
      obtain ⟨i, hi, h1, h2⟩ := ih (by omega)
      by_cases c : F k ≤ m
      · exact ⟨k + 1, by omega, by rw [frm_succ]; exact c, fun h => by omega⟩
      · refine ⟨i, by omega, h1, fun _ => ?_⟩
        by_cases e : i = k
        · subst e; omega
        · exact h2 (by omega)
  exact key n (Nat.le_refl _)
/-- The stretches of the first k changes: from, to and offset. -/
def pcs (f : Int) (F O : Nat → Int) (k : Nat) : List (Int × Int × Int) := ((List.range k).filter fun i => decide (frm F i < F i)).map fun i => (frm F i, F i - 1, ofs f O i)
def all (f : Int) (F O : Nat → Int) (n : Nat) : List (Int × Int × Int) := pcs f F O n ++ [(frm F n, 6311433599, ofs f O n)]
theorem pcs_yes {f : Int} {F O : Nat → Int} {k : Nat} (h : frm F k < F k) : pcs f F O (k + 1) = pcs f F O k ++ [(frm F k, F k - 1, ofs f O k)] := by
  simp [pcs, List.range_succ, List.filter_append, h]
theorem pcs_no {f : Int} {F O : Nat → Int} {k : Nat} (h : ¬ frm F k < F k) : pcs f F O (k + 1) = pcs f F O k := by
  simp [pcs, List.range_succ, List.filter_append, h]
theorem pcs_len (f : Int) (F O : Nat → Int) (k : Nat) : (pcs f F O k).length ≤ k := by
  unfold pcs; rw [List.length_map]; exact Nat.le_trans (List.length_filter_le _ _) (by simp)
theorem all_len (f : Int) (F O : Nat → Int) (n : Nat) : (all f F O n).length ≤ n + 1 := by
  have := pcs_len f F O n; simp [all]; omega
theorem pcs_prefix (f : Int) (F O : Nat → Int) (k : Nat) : ∀ n, k ≤ n → pcs f F O k <+: pcs f F O n := by
  intro n
  induction n with
  | zero => intro h; rw [show k = 0 by omega]; exact List.prefix_refl _
  | succ n ih =>
    intro h
    by_cases e : k = n + 1
    · subst e; exact List.prefix_refl _
    · refine (ih (by omega)).trans ?_
      by_cases c : frm F n < F n
      · rw [pcs_yes c]; exact List.prefix_append _ _
      · rw [pcs_no c]; exact List.prefix_refl _
theorem pcs_all (f : Int) (F O : Nat → Int) (n k : Nat) (h : k ≤ n) : pcs f F O k <+: all f F O n := (pcs_prefix f F O k n h).trans (List.prefix_append _ _)
/-- What a stretch is. -/
def Piece (f : Int) (F O : Nat → Int) (n : Nat) (x : Int × Int × Int) : Prop := ∃ i, i ≤ n ∧ (i < n → frm F i < F i) ∧ x = (frm F i, upto F n i, ofs f O i)
theorem mem_all {f : Int} {F O : Nat → Int} {n : Nat} {x : Int × Int × Int} : x ∈ all f F O n ↔ Piece f F O n x := by
  unfold all pcs Piece
  simp only [List.mem_append, List.mem_map, List.mem_filter, List.mem_range, List.mem_singleton, decide_eq_true_iff]
  constructor
  · rintro (⟨i, ⟨hi, h⟩, rfl⟩ | rfl)
    · exact ⟨i, by omega, fun _ => h, by simp [upto, show i ≠ n by omega]⟩
    · exact ⟨n, by omega, fun h => by omega, by simp [upto]⟩
  · rintro ⟨i, hi, h, rfl⟩
    by_cases e : i = n
    · right; subst e; simp [upto]
    · left; exact ⟨i, ⟨by omega, h (by omega)⟩, by simp [upto, e]⟩
theorem Piece.bd {f : Int} {F O : Nat → Int} {n : Nat} {x : Int × Int × Int} (h : Right f F O n) (hp : Piece f F O n x) : (0 ≤ x.1 ∧ x.1 ≤ 6311433599) ∧ (x.1 ≤ x.2.1 ∧ x.2.1 ≤ 6311433599) ∧ (-840 ≤ x.2.2 ∧ x.2.2 ≤ 840) := by
  obtain ⟨i, hi, hl, rfl⟩ := hp
  have h1 := h.frm_bd i hi
  refine ⟨h1, ?_, h.ofs_bd i hi⟩
  show frm F i ≤ upto F n i ∧ upto F n i ≤ 6311433599
  unfold upto; split
  · omega
  · have := hl (by omega); have := (h.mom i (by omega)).1; omega
theorem Piece.at_ {f : Int} {F O : Nat → Int} {n : Nat} {x : Int × Int × Int} (h : Right f F O n) (hp : Piece f F O n x) (m : Int) (h1 : x.1 ≤ m) (h2 : m ≤ x.2.1) : at_ f F O m n = x.2.2 := by
  obtain ⟨i, hi, hl, rfl⟩ := hp
  refine at_in h m i hi h1 fun hn => ?_
  have : m ≤ upto F n i := h2
  unfold upto at this; rw [if_neg (by omega)] at this; omega
theorem all_apart {f : Int} {F O : Nat → Int} {n : Nat} (h : Right f F O n) : (all f F O n).Pairwise fun x y => x.2.1 < y.1 := by
  unfold all pcs
  rw [List.pairwise_append]
  refine ⟨?_, by simp, ?_⟩
  · rw [List.pairwise_map]
    refine List.Pairwise.imp_of_mem ?_ ((List.pairwise_lt_range (n := n)).filter _)
    intro i j hi hj hij
    have hj' := List.mem_range.1 (List.mem_filter.1 hj).1
    show F i - 1 < frm F j
    unfold frm; rw [if_neg (by omega)]
    by_cases e : i = j - 1
    · subst e; omega
    · have := h.rise i (j - 1) (by omega) (by omega); omega
  · intro x hx y hy
    obtain rfl := List.mem_singleton.1 hy
    obtain ⟨i, hi, rfl⟩ := List.mem_map.1 hx
    have hi' := List.mem_range.1 (List.mem_filter.1 hi).1
    show F i - 1 < frm F n
    unfold frm; rw [if_neg (by omega)]
    by_cases e : i = n - 1
    · subst e; omega
    · have := h.rise i (n - 1) (by omega) (by omega); omega
/-- In a list of stretches the first that ends not before m is m's. -/
theorem first_at {f : Int} {F O : Nat → Int} {n : Nat} (h : Right f F O n) (m : Int) (h0 : 0 ≤ m) (pre : List (Int × Int × Int)) (x : Int × Int × Int) (hp : pre ++ [x] <+: all f F O n) (hall : ∀ y ∈ pre, y.2.1 < m) (hx : m ≤ x.2.1) : at_ f F O m n = x.2.2 := by
  obtain ⟨t, ht⟩ := hp
  have hmx : Piece f F O n x := mem_all.1 (by rw [← ht]; simp)
  by_cases h1 : x.1 ≤ m
  · exact hmx.at_ h m h1 hx
  · -- m's own stretch would be an earlier one
    exfalso
    obtain ⟨i, hi, i1, i2⟩ := find_in h m h0
    have hpi : Piece f F O n (frm F i, upto F n i, ofs f O i) := ⟨i, hi, fun hn => by have := i2 hn; omega, rfl⟩
    have hmem := mem_all.2 hpi
    have hup : m ≤ upto F n i ∨ i = n := by unfold upto; split; right; assumption; left; have := i2 (by omega); omega
    have hap := all_apart h
    rw [← ht, List.append_assoc] at hmem hap
    rcases List.mem_append.1 hmem with hm | hm
    · have := hall _ hm
      rcases hup with hup | hup
      · simp only [] at this; omega
      · have hxm := (List.pairwise_append.1 hap).2.2 _ hm x (by simp)
        have hb := hmx.bd h
        have hu : upto F n i = 6311433599 := by unfold upto; rw [if_pos hup]
        simp only [] at hxm this; omega
    · rcases List.mem_cons.1 hm with e | hm
      · rw [← e] at h1; simp only [] at h1; omega
      · have := (List.pairwise_cons.1 ((List.pairwise_append.1 hap).2.1)).1 _ hm
        simp only [] at this; omega
/-- The program's moments, and the reference's before they are put in order. -/
def hit (l : Int) (x : Int × Int × Int) : Bool := decide (x.1 ≤ l - 60 * x.2.2 ∧ l - 60 * x.2.2 ≤ x.2.1)
def got (l : Int) (xs : List (Int × Int × Int)) : List Int := (xs.filter (hit l)).map fun x => l - 60 * x.2.2
theorem got_yes {l : Int} {xs : List (Int × Int × Int)} {x : Int × Int × Int} (h : hit l x = true) : got l (xs ++ [x]) = got l xs ++ [l - 60 * x.2.2] := by simp [got, List.filter_append, h]
theorem got_no {l : Int} {xs : List (Int × Int × Int)} {x : Int × Int × Int} (h : hit l x = false) : got l (xs ++ [x]) = got l xs := by simp [got, List.filter_append, h]
theorem got_len (l : Int) (xs : List (Int × Int × Int)) : (got l xs).length ≤ xs.length := by unfold got; rw [List.length_map]; exact List.length_filter_le _ _
def seen (f : Int) (F O : Nat → Int) (n : Nat) (l o : Int) : Bool := Ev.mom (l - 60 * o) && decide (at_ f F O (l - 60 * o) n = o)
def refs (f : Int) (F O : Nat → Int) (n : Nat) (l : Int) (k : Nat) : List Int := ((List.range k).filter fun (i : Nat) => seen f F O n l ((i : Int) - 840)).map fun (i : Nat) => l - 60 * ((i : Int) - 840)
theorem refs_yes {f : Int} {F O : Nat → Int} {n : Nat} {l : Int} {k : Nat} (h : seen f F O n l ((k : Int) - 840) = true) : refs f F O n l (k + 1) = refs f F O n l k ++ [l - 60 * ((k : Int) - 840)] := by
  simp [refs, List.range_succ, List.filter_append, h]
theorem refs_no {f : Int} {F O : Nat → Int} {n : Nat} {l : Int} {k : Nat} (h : seen f F O n l ((k : Int) - 840) = false) : refs f F O n l (k + 1) = refs f F O n l k := by
  simp [refs, List.range_succ, List.filter_append, h]
theorem refs_len (f : Int) (F O : Nat → Int) (n : Nat) (l : Int) (k : Nat) : (refs f F O n l k).length ≤ k := by
  unfold refs; rw [List.length_map]; exact Nat.le_trans (List.length_filter_le _ _) (by simp)
theorem got_up {f : Int} {F O : Nat → Int} {n : Nat} (h : Right f F O n) (l : Int) : (got l (all f F O n)).Pairwise (· < ·) := by
  unfold got
  rw [List.pairwise_map]
  refine List.Pairwise.imp_of_mem ?_ ((all_apart h).filter _)
  intro x y hx hy hxy
  have h1 := (List.mem_filter.1 hx).2; have h2 := (List.mem_filter.1 hy).2
  unfold hit at h1 h2
  have h1 := of_decide_eq_true h1; have h2 := of_decide_eq_true h2
  omega
theorem refs_down (f : Int) (F O : Nat → Int) (n : Nat) (l : Int) (k : Nat) : (refs f F O n l k).Pairwise fun x y => y < x := by
  unfold refs
  rw [List.pairwise_map]
  exact ((List.pairwise_lt_range (n := k)).filter _).imp fun h => by omega
theorem got_mem {f : Int} {F O : Nat → Int} {n : Nat} (h : Right f F O n) (l m : Int) : m ∈ got l (all f F O n) ↔ m ∈ refs f F O n l 1681 := by
  unfold got refs
  simp only [List.mem_map, List.mem_filter, List.mem_range]
  constructor
  · rintro ⟨x, ⟨hx, hh⟩, rfl⟩
    have hp := mem_all.1 hx
    have hb := hp.bd h
    unfold hit at hh
    have hh := of_decide_eq_true hh
    have ha := hp.at_ h _ hh.1 hh.2
    refine ⟨(x.2.2 + 840).toNat, ⟨by omega, ?_⟩, ?_⟩
    · have e : (((x.2.2 + 840).toNat : Nat) : Int) - 840 = x.2.2 := by omega
      rw [e]; unfold seen; rw [(Ev.mom_iff _).2 ⟨by omega, by omega⟩, ha]; simp
    · omega
  · rintro ⟨i, ⟨hi, hs⟩, rfl⟩
    unfold seen at hs
    rw [Bool.and_eq_true, decide_eq_true_iff] at hs
    obtain ⟨hm, ha⟩ := hs
    have hm := (Ev.mom_iff _).1 hm
    obtain ⟨j, hj, j1, j2⟩ := find_in h (l - 60 * ((i : Int) - 840)) hm.1
    have e := at_in h _ j hj j1 j2
    rw [ha] at e
    refine ⟨(frm F j, upto F n j, ofs f O j), ⟨mem_all.2 ⟨j, hj, fun hn => by have := j2 hn; omega, rfl⟩, ?_⟩, ?_⟩
    · unfold hit
      rw [decide_eq_true_iff]
      show frm F j ≤ l - 60 * ofs f O j ∧ l - 60 * ofs f O j ≤ upto F n j
      rw [← e]
      refine ⟨j1, ?_⟩
      unfold upto; split
      · exact hm.2
      · have := j2 (by omega); omega
    · show l - 60 * ofs f O j = _
      rw [← e]
/-- Two lists that rise, of the same members, are equal. -/
theorem eq_of_rise : ∀ (a b : List Int), a.Pairwise (· < ·) → b.Pairwise (· < ·) → (∀ x, x ∈ a ↔ x ∈ b) → a = b
  | [], [], _, _, _ => rfl
  | [], y :: b, _, _, h => by have := (h y).2 (by simp); simp at this
  | x :: a, [], _, _, h => by have := (h x).1 (by simp); simp at this
  | x :: a, y :: b, ha, hb, h => by
    obtain ⟨ha1, ha2⟩ := List.pairwise_cons.1 ha
    obtain ⟨hb1, hb2⟩ := List.pairwise_cons.1 hb
    have e : x = y := by
      rcases List.mem_cons.1 ((h x).1 (by simp)) with e | e
      · exact e
      · rcases List.mem_cons.1 ((h y).2 (by simp)) with e' | e'
        · exact e'.symm
        · have := ha1 _ e'; have := hb1 _ e; omega
    subst e
    congr 1
    refine eq_of_rise a b ha2 hb2 fun z => ⟨fun hz => ?_, fun hz => ?_⟩
    · rcases List.mem_cons.1 ((h z).1 (by simp [hz])) with e | e
      · have := ha1 z hz; omega
      · exact e
    · rcases List.mem_cons.1 ((h z).2 (by simp [hz])) with e | e
      · have := hb1 z hz; omega
      · exact e
/-- What is in order, and has the reference's moments, is what the program has. -/
theorem rising_eq {f : Int} {F O : Nat → Int} {n : Nat} (h : Right f F O n) (l : Int) (ys : List Int) (hp : ys.Perm (refs f F O n l 1681)) (hs : ys.Pairwise (· ≤ ·)) : ys = got l (all f F O n) := by
  refine eq_of_rise _ _ ?_ (got_up h l) fun x => (hp.mem_iff).trans (got_mem h l x).symm
  have hd : ys.Nodup := (hp.nodup_iff).2 ((refs_down f F O n l 1681).imp fun h => by omega)
  exact (hs.and hd).imp fun h => by omega
end Go.Proofs.YtngbaljmlbdfkaaGreatDoor.Zn

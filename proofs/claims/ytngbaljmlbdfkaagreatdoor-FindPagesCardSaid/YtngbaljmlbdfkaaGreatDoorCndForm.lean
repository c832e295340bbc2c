/- What an operation of a condition needs. -/
import Derived.Test.YtngbaljmlbdfkaaGreatDoorCnd
import Derived.Test.YtngbaljmlbdfkaaGreatDoorFdPh
namespace Go.Proofs.YtngbaljmlbdfkaaGreatDoor
open Go.RowKit Go.Sort
set_option linter.unusedVariables false
namespace Cnd
def fText (op : Int) : Bool := decide (op = 4 ∨ op = 5)
def fLow (op : Int) : Bool := decide (op = 6 ∨ op = 7 ∨ op = 8 ∨ op = 14)
def fHigh (op : Int) : Bool := decide (op = 7 ∨ op = 8)
def fAt (op : Int) : Int := if op = 14 then 1 else if op = 15 then 2 else 0
def kidsB (op : Int) (kn : Nat) : Bool := if op = 3 then decide (kn = 1) else if 4 ≤ op then decide (kn = 0) else true
def formB (op : Int) (kn an : Nat) (text : ByteArray) (low high : Int) : Bool :=
  kidsB op kn && decide ((an : Int) = fAt op) && (fText op || text.toList.isEmpty) && (fLow op || low == 0) && (fHigh op || high == 0)
def textE (op : Int) (text : ByteArray) : Int :=
  if op = 4 then (if Fd.nameB text = true then 0 else 3) else if op = 5 then (if 1 ≤ text.size ∧ text.size ≤ 200 then (if Fd.plainB text = true then 0 else 9) else 4) else 0
def most (op : Int) : Int := if op = 6 then 1000000 else if op = 7 then 5 else if op = 8 then 6311433599 else if op = 14 then 20100000 else 0
def least (op : Int) : Int := if op = 6 then 1 else 0
def inB (op x : Int) : Bool := decide (least op ≤ x ∧ x ≤ most op)
def numE (op low high : Int) (an : Nat) (lat lon : Nat → Int) : Int :=
  if (fLow op = true → inB op low = true) ∧ (fHigh op = true → inB op high = true) ∧ (∀ k, k < an → Fd.placeB (lat k) (lon k) = true) then
    (if (fHigh op = true ∧ high < low) ∨ (op = 15 ∧ lat 1 < lat 0) then 5 else 0) else 2
def bareE (op : Int) (kn : Nat) (text : ByteArray) (low high : Int) (an : Nat) (lat lon : Nat → Int) : Int :=
  if 1 ≤ op ∧ op ≤ 16 then (if formB op kn an text low high = true then (if textE op text = 0 then numE op low high an lat lon else textE op text) else 1) else 10
def bare : Cnd → Int
  | zero => 0
  | mk op ka kn kc kids text low high aa an ac lat lon => bareE op kn text low high an lat lon
def aheadK (f : Nat → List (Cnd × Nat) → List (Cnd × Nat)) : Nat → List (Cnd × Nat) → List (Cnd × Nat)
  | 0, l => l
  | k + 1, l => f k (aheadK f k l)
/-- All conditions, with how deep they are. -/
def ahead : Cnd → Nat → List (Cnd × Nat) → List (Cnd × Nat)
  | zero, _, l => l
  | mk op ka kn kc kids text low high aa an ac lat lon, d, l =>
    if 100 < l.length then l else if 12 < d then l ++ [(mk op ka kn kc kids text low high aa an ac lat lon, d)]
    else aheadK (fun i => ahead (kids i) (d + 1)) kn (l ++ [(mk op ka kn kc kids text low high aa an ac lat lon, d)])
def errAt (i : Nat) (p : Cnd × Nat) : Int := if 100 ≤ i ∨ 12 < p.2 then 4 else p.1.bare
def errL : Nat → List (Cnd × Nat) → Int
  | _, [] => 0
  | i, p :: l => if errAt i p = 0 then errL (i + 1) l else errAt i p
theorem bareE_kind {op : Int} {kn : Nat} {text : ByteArray} {low high : Int} {an : Nat} {lat lon : Nat → Int} (h : ¬ (1 ≤ op ∧ op ≤ 16)) : bareE op kn text low high an lat lon = 10 := by unfold bareE; rw [if_neg h]
theorem bareE_form {op : Int} {kn : Nat} {text : ByteArray} {low high : Int} {an : Nat} {lat lon : Nat → Int} (h : 1 ≤ op ∧ op ≤ 16) (g : formB op kn an text low high = false) : bareE op kn text low high an lat lon = 1 := by
  unfold bareE; rw [if_pos h, if_neg (by rw [g]; simp)]
theorem bareE_text {op : Int} {kn : Nat} {text : ByteArray} {low high : Int} {an : Nat} {lat lon : Nat → Int} {e : Int} (h : 1 ≤ op ∧ op ≤ 16) (g : formB op kn an text low high = true) (t : textE op text = e) (h0 : e ≠ 0) : bareE op kn text low high an lat lon = e := by
  unfold bareE; rw [if_pos h, if_pos g, t, if_neg h0]
theorem bareE_num {op : Int} {kn : Nat} {text : ByteArray} {low high : Int} {an : Nat} {lat lon : Nat → Int} {e : Int} (h : 1 ≤ op ∧ op ≤ 16) (g : formB op kn an text low high = true) (t : textE op text = 0) (n : numE op low high an lat lon = e) : bareE op kn text low high an lat lon = e := by
  unfold bareE; rw [if_pos h, if_pos g, t, if_pos rfl, n]
theorem numE_low {op low high : Int} {an : Nat} {lat lon : Nat → Int} (h : fLow op = true) (g : inB op low = false) : numE op low high an lat lon = 2 := if_neg fun k => by have := k.1 h; rw [g] at this; cases this
theorem numE_high {op low high : Int} {an : Nat} {lat lon : Nat → Int} (h : fHigh op = true) (g : inB op high = false) : numE op low high an lat lon = 2 := if_neg fun k => by have := k.2.1 h; rw [g] at this; cases this
theorem numE_place {op low high : Int} {an : Nat} {lat lon : Nat → Int} (k : Nat) (h : k < an) (g : Fd.placeB (lat k) (lon k) = false) : numE op low high an lat lon = 2 := if_neg fun q => by have := q.2.2 k h; rw [g] at this; cases this
theorem numE_ord {op low high : Int} {an : Nat} {lat lon : Nat → Int} (h1 : fLow op = true → inB op low = true) (h2 : fHigh op = true → inB op high = true) (h3 : ∀ k, k < an → Fd.placeB (lat k) (lon k) = true) (h : (fHigh op = true ∧ high < low) ∨ (op = 15 ∧ lat 1 < lat 0)) : numE op low high an lat lon = 5 := by
  unfold numE; rw [if_pos ⟨h1, h2, h3⟩, if_pos h]
theorem numE_ok {op low high : Int} {an : Nat} {lat lon : Nat → Int} (h1 : fLow op = true → inB op low = true) (h2 : fHigh op = true → inB op high = true) (h3 : ∀ k, k < an → Fd.placeB (lat k) (lon k) = true) (h : ¬ ((fHigh op = true ∧ high < low) ∨ (op = 15 ∧ lat 1 < lat 0))) : numE op low high an lat lon = 0 := by
  unfold numE; rw [if_pos ⟨h1, h2, h3⟩, if_neg h]
theorem formB_an {op : Int} {kn an : Nat} {text : ByteArray} {low high : Int} (h : formB op kn an text low high = true) : (an : Int) = fAt op := by
  unfold formB at h; simp only [Bool.and_eq_true, decide_eq_true_eq] at h; exact h.1.1.1.2
/-- A condition's error. -/
def err (c : Cnd) : Int := errL 0 (ahead c 0 [])
theorem errL_append : ∀ (l m : List (Cnd × Nat)) (i : Nat), errL i (l ++ m) = if errL i l = 0 then errL (i + l.length) m else errL i l
  | [], m, i => by simp [errL]
  | p :: l, m, i => by
    rw [List.cons_append, errL, errL]
    by_cases h : errAt i p = 0
    · rw [if_pos h, if_pos h, errL_append l m (i + 1)]
      simp only [List.length_cons]
      rw [show i + 1 + l.length = i + (l.length + 1) by omega]
    · rw [if_neg h, if_neg h, if_neg h]
theorem errL_len : ∀ (l : List (Cnd × Nat)) (i : Nat), errL i l = 0 → l = [] ∨ i + l.length ≤ 100
  | [], i, h => .inl rfl
  | p :: l, i, h => by
    rw [errL] at h
    by_cases hp : errAt i p = 0
    · rw [if_pos hp] at h
      have hi : ¬ 100 ≤ i := fun g => by unfold errAt at hp; rw [if_pos (.inl g)] at hp; cases hp
      rcases errL_len l (i + 1) h with rfl | g
      · right; simp; omega
      · right; simp only [List.length_cons]; omega
    · rw [if_neg hp] at h; exact absurd h hp
theorem errL_le {l : List (Cnd × Nat)} (h : errL 0 l = 0) : l.length ≤ 100 := by
  rcases errL_len l 0 h with rfl | g
  · simp
  · omega
theorem aheadK_pre {f : Nat → List (Cnd × Nat) → List (Cnd × Nat)} (hf : ∀ i l, ∃ m, f i l = l ++ m) : ∀ (k : Nat) (l : List (Cnd × Nat)), ∃ m, aheadK f k l = l ++ m
  | 0, l => ⟨[], by simp [aheadK]⟩
  | k + 1, l => by
    obtain ⟨m, hm⟩ := aheadK_pre hf k l
    obtain ⟨m2, hm2⟩ := hf k (aheadK f k l)
    exact ⟨m ++ m2, by rw [aheadK, hm2, hm, List.append_assoc]⟩
theorem ahead_pre : ∀ (c : Cnd) (d : Nat) (l : List (Cnd × Nat)), ∃ m, ahead c d l = l ++ m
  | zero, d, l => ⟨[], by simp [ahead]⟩
  | mk op ka kn kc kids text low high aa an ac lat lon, d, l => by
    rw [ahead]
    split
    · exact ⟨[], by simp⟩
    · split
      · exact ⟨_, rfl⟩
      · obtain ⟨m, hm⟩ := aheadK_pre (f := fun i => ahead (kids i) (d + 1)) (fun i l => ahead_pre (kids i) (d + 1) l) kn (l ++ [(mk op ka kn kc kids text low high aa an ac lat lon, d)])
        exact ⟨_ :: m, by rw [hm, List.append_assoc]; rfl⟩
theorem errL_pre {l m : List (Cnd × Nat)} (h : errL 0 l ≠ 0) : errL 0 (l ++ m) = errL 0 l := by rw [errL_append, if_neg h]
theorem aheadK_more {f : Nat → List (Cnd × Nat) → List (Cnd × Nat)} (hf : ∀ i l, ∃ m, f i l = l ++ m) (l : List (Cnd × Nat)) (j k : Nat) (h : j ≤ k) (he : errL 0 (aheadK f j l) ≠ 0) : errL 0 (aheadK f k l) = errL 0 (aheadK f j l) := by
  induction k with
  | zero => obtain rfl : j = 0 := by omega
            rfl
  | succ k ih =>
    by_cases e : j = k + 1
    · subst e; rfl
    · have := ih (by omega)
      obtain ⟨m, hm⟩ := hf k (aheadK f k l)
      rw [aheadK, hm, errL_pre (by rw [this]; exact he), this]
theorem ahead_len : ∀ (c : Cnd) (d : Nat) (l : List (Cnd × Nat)), l.length ≤ 101 → (ahead c d l).length ≤ 101
  | zero, d, l, h => by simpa [ahead] using h
  | mk op ka kn kc kids text low high aa an ac lat lon, d, l, h => by
    rw [ahead]
    split
    · exact h
    · split
      · simp; omega
      · have : ∀ k (l : List (Cnd × Nat)), l.length ≤ 101 → (aheadK (fun i => ahead (kids i) (d + 1)) k l).length ≤ 101 := by
          intro k
          induction k with
          | zero => intro l h; exact h
          | succ k ih => intro l h; rw [aheadK]; exact ahead_len (kids k) (d + 1) _ (ih l h)
        exact this _ _ (by simp; omega)
/-- A condition too many, or one too deep. -/
theorem ahead_large {c : Cnd} {d : Nat} {l : List (Cnd × Nat)} (hc : c ≠ zero) (hl : errL 0 l = 0) (h : l.length = 100 ∨ 12 < d) : errL 0 (ahead c d l) = 4 := by
  have hle := errL_le hl
  cases c with
  | zero => exact absurd rfl hc
  | mk op ka kn kc kids text low high aa an ac lat lon =>
    have e : errL 0 (l ++ [(mk op ka kn kc kids text low high aa an ac lat lon, d)]) = 4 := by
      rw [errL_append, if_pos hl, errL]
      have : errAt (0 + l.length) (mk op ka kn kc kids text low high aa an ac lat lon, d) = 4 := if_pos (by rcases h with h | h; exact .inl (by omega); exact .inr h)
      rw [this, if_neg (by decide)]
    rw [ahead, if_neg (by omega)]
    split
    · exact e
    · obtain ⟨m, hm⟩ := aheadK_pre (f := fun i => ahead (kids i) (d + 1)) (fun i l => ahead_pre (kids i) (d + 1) l) kn (l ++ [(mk op ka kn kc kids text low high aa an ac lat lon, d)])
      rw [hm, errL_pre (by rw [e]; decide), e]
theorem err_snoc {c : Cnd} {d : Nat} {l : List (Cnd × Nat)} (hl : errL 0 l = 0) (h1 : l.length < 100) (h2 : d ≤ 12) : errL 0 (l ++ [(c, d)]) = c.bare := by
  rw [errL_append, if_pos hl, errL]
  have : errAt (0 + l.length) (c, d) = c.bare := if_neg (by intro g; rcases g with g | g; omega; have : 12 < d := g; omega)
  rw [this]
  split
  · rename_i h; rw [h]; rfl
  · rfl
theorem ahead_bad {c : Cnd} {d : Nat} {l : List (Cnd × Nat)} (hc : c ≠ zero) (hl : errL 0 l = 0) (h1 : l.length < 100) (h2 : d ≤ 12) (hb : c.bare ≠ 0) : errL 0 (ahead c d l) = c.bare := by
  cases c with
  | zero => exact absurd rfl hc
  | mk op ka kn kc kids text low high aa an ac lat lon =>
    have e := err_snoc (c := mk op ka kn kc kids text low high aa an ac lat lon) hl h1 h2
    rw [ahead, if_neg (by omega), if_neg (by omega)]
    obtain ⟨m, hm⟩ := aheadK_pre (f := fun i => ahead (kids i) (d + 1)) (fun i l => ahead_pre (kids i) (d + 1) l) kn (l ++ [(mk op ka kn kc kids text low high aa an ac lat lon, d)])
    rw [hm, errL_pre (by rw [e]; exact hb), e]
theorem ahead_kids {op : Int} {ka : Option Addr} {kn kc : Nat} {kids : Nat → Cnd} {text : ByteArray} {low high : Int} {aa : Option Addr} {an ac : Nat} {lat lon : Nat → Int} {d : Nat} {l : List (Cnd × Nat)} (h1 : l.length ≤ 100) (h2 : d ≤ 12) :
    ahead (mk op ka kn kc kids text low high aa an ac lat lon) d l = aheadK (fun i => ahead (kids i) (d + 1)) kn (l ++ [(mk op ka kn kc kids text low high aa an ac lat lon, d)]) := by
  rw [ahead, if_neg (by omega), if_neg (by omega)]
end Cnd
end Go.Proofs.YtngbaljmlbdfkaaGreatDoor

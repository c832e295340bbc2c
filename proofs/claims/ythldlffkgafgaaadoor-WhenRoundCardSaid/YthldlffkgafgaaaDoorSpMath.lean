/- Stretches of a year, a month or a day: plain lists. -/
import Derived.Test.YthldlffkgafgaaaDoorLocLaw2
import Derived.Test.YthldlffkgafgaaaDoorRsMath
namespace Go.Proofs.YthldlffkgafgaaaDoor
namespace Sp
abbrev D3 := Int × Int × Int
/-- The first and the last date that a form tells; none: it is of no form. -/
def kind (s : List UInt8) : Option (D3 × D3) :=
  if s.length = 4 then (if 0 ≤ Sc.fx s 0 4 then some ((Sc.fx s 0 4, 1, 1), (Sc.fx s 0 4, 12, 31)) else none)
  else if s.length = 7 then (if 0 ≤ Sc.fx s 0 4 ∧ s[4]? = some 45 ∧ 0 ≤ Sc.fx s 5 7 then some ((Sc.fx s 0 4, Sc.fx s 5 7, 1), (Sc.fx s 0 4, Sc.fx s 5 7, Cal.len (Sc.fx s 0 4) (Sc.fx s 5 7))) else none)
  else if s.length = 10 then (if 0 ≤ Sc.fx s 0 4 ∧ s[4]? = some 45 ∧ 0 ≤ Sc.fx s 5 7 ∧ s[7]? = some 45 ∧ 0 ≤ Sc.fx s 8 10 then some ((Sc.fx s 0 4, Sc.fx s 5 7, Sc.fx s 8 10), (Sc.fx s 0 4, Sc.fx s 5 7, Sc.fx s 8 10)) else none)
  else none
def vld (d : D3) : Bool := Cal.vld d.1 d.2.1 d.2.2
def num (d : D3) : Int := Cal.num d.1 d.2.1 d.2.2
/-- The stretch and the error. -/
def outF (k : Option (D3 × D3)) : Int := match k with
  | some (a, b) => if vld a = true ∧ vld b = true then num a * 86400 else 0
  | none => 0
def outT (k : Option (D3 × D3)) : Int := match k with
  | some (a, b) => if vld a = true ∧ vld b = true then num b * 86400 + 86399 else 0
  | none => 0
def outE (k : Option (D3 × D3)) : Int := match k with
  | some (a, b) => if vld a = true ∧ vld b = true then 0 else 1
  | none => 8
theorem dig (s : List UInt8) (a b : Nat) : Dg.allD (Ft.win s a b) = true ↔ 0 ≤ Sc.fx s a b := ⟨fun h => by unfold Sc.fx; rw [if_pos h]; omega, fun h => (Rs.fx_dig h).1⟩
theorem val_fx {s : List UInt8} {a b : Nat} (h : Dg.allD (Ft.win s a b) = true) : (Dg.val (Ft.win s a b) : Int) = Sc.fx s a b := by unfold Sc.fx; rw [if_pos h]
def f4 : List UInt8 := [48, 48, 48, 48]
def f7 : List UInt8 := [48, 48, 48, 48, 45, 48, 48]
def f10 : List UInt8 := [48, 48, 48, 48, 45, 48, 48, 45, 48, 48]
theorem few4 : Ft.Few f4 := .inl (by decide)
theorem few7 : Ft.Few f7 := .inl (by decide)
theorem few10 : Ft.Few f10 := .inl (by decide)
theorem sep_iff {s form : List UInt8} {j n : Nat} {c : UInt8} (hf : form[j]? = some c) (hl : form.length = n) (hj : j < n) : (¬ (j < form.length ∧ s[j]? ≠ form[j]?)) ↔ s[j]? = some c := by
  rw [hf, hl]
  constructor
  · intro hh
    by_cases e : s[j]? = some c
    · exact e
    · exact absurd ⟨hj, e⟩ hh
  · rintro e ⟨_, hn⟩; exact hn e
theorem res4 (s : List UInt8) : Ft.res s f4 = if s.length = 4 ∧ 0 ≤ Sc.fx s 0 4 then some [Sc.fx s 0 4] else none := by
  by_cases hl : s.length = 4
  · have e : Ft.res s f4 = Ft.go s f4 (0 + 1 + 4) 0 0 [] := by unfold Ft.res; rw [if_pos (show s.length = f4.length from hl)]; rfl
    have g0 := Ft.group (s := s) (form := f4) 4 0 0 [] (by omega) (fun i _ h => by match i, h with | 0, _ => rfl | 1, _ => rfl | 2, _ => rfl | 3, _ => rfl) (by show (none : Option UInt8) ≠ some 48; simp)
    rw [e, g0]
    by_cases h : Dg.allD (Ft.win s 0 4) = true
    · rw [if_pos ⟨h, fun h => absurd h.1 (by show ¬ 0 + 4 < 4; omega)⟩, if_pos ⟨hl, (dig _ _ _).1 h⟩]
      show some [(Dg.val (Ft.win s 0 4) : Int)] = _
      rw [val_fx h]
    · rw [if_neg (fun hh => h hh.1), if_neg (fun hh => h ((dig _ _ _).2 hh.2))]
  · have e : Ft.res s f4 = none := by unfold Ft.res; rw [if_neg (by show ¬ s.length = 4; exact hl)]
    rw [e, if_neg (fun h => hl h.1)]
theorem res7 (s : List UInt8) : Ft.res s f7 = if s.length = 7 ∧ 0 ≤ Sc.fx s 0 4 ∧ s[4]? = some 45 ∧ 0 ≤ Sc.fx s 5 7 then some [Sc.fx s 0 4, Sc.fx s 5 7] else none := by
  by_cases hl : s.length = 7
  · have e : Ft.res s f7 = Ft.go s f7 (3 + 1 + 4) 0 0 [] := by unfold Ft.res; rw [if_pos (show s.length = f7.length from hl)]; rfl
    have g0 := Ft.group (s := s) (form := f7) 4 3 0 [] (by omega) (fun i _ h => by match i, h with | 0, _ => rfl | 1, _ => rfl | 2, _ => rfl | 3, _ => rfl) (by show some (45 : UInt8) ≠ some 48; decide)
    have g1 := fun acc => Ft.group (s := s) (form := f7) 2 0 5 acc (by omega) (fun i h1 h => by have e : i = 5 ∨ i = 6 := (by omega); rcases e with rfl | rfl <;> rfl) (by show (none : Option UInt8) ≠ some 48; simp)
    have q4 := sep_iff (s := s) (form := f7) (j := 4) (c := 45) (n := 7) rfl rfl (by omega)
    rw [e, g0]
    by_cases h : Dg.allD (Ft.win s 0 4) = true ∧ s[4]? = some 45
    · rw [if_pos ⟨h.1, q4.2 h.2⟩]
      show Ft.go s f7 (0 + 1 + 2) 5 5 _ = _
      rw [g1]
      by_cases h2 : Dg.allD (Ft.win s 5 7) = true
      · rw [if_pos ⟨h2, fun h => absurd h.1 (by show ¬ 5 + 2 < 7; omega)⟩, if_pos ⟨hl, (dig _ _ _).1 h.1, h.2, (dig _ _ _).1 h2⟩]
        show some [(Dg.val (Ft.win s 0 4) : Int), (Dg.val (Ft.win s 5 7) : Int)] = _
        rw [val_fx h.1, val_fx h2]
      · rw [if_neg (fun hh => h2 hh.1), if_neg (fun hh => h2 ((dig _ _ _).2 hh.2.2.2))]
    · rw [if_neg (fun hh => h ⟨hh.1, q4.1 hh.2⟩), if_neg (fun hh => h ⟨(dig _ _ _).2 hh.2.1, hh.2.2.1⟩)]
  · have e : Ft.res s f7 = none := by unfold Ft.res; rw [if_neg (by show ¬ s.length = 7; exact hl)]
    rw [e, if_neg (fun h => hl h.1)]
theorem res10 (s : List UInt8) : Ft.res s f10 = if s.length = 10 ∧ 0 ≤ Sc.fx s 0 4 ∧ s[4]? = some 45 ∧ 0 ≤ Sc.fx s 5 7 ∧ s[7]? = some 45 ∧ 0 ≤ Sc.fx s 8 10 then some [Sc.fx s 0 4, Sc.fx s 5 7, Sc.fx s 8 10] else none := by
  by_cases hl : s.length = 10
  · have e : Ft.res s f10 = Ft.go s f10 (6 + 1 + 4) 0 0 [] := by unfold Ft.res; rw [if_pos (show s.length = f10.length from hl)]; rfl
    have g0 := Ft.group (s := s) (form := f10) 4 6 0 [] (by omega) (fun i _ h => by match i, h with | 0, _ => rfl | 1, _ => rfl | 2, _ => rfl | 3, _ => rfl) (by show some (45 : UInt8) ≠ some 48; decide)
    have g1 := fun acc => Ft.group (s := s) (form := f10) 2 3 5 acc (by omega) (fun i h1 h => by have e : i = 5 ∨ i = 6 := (by omega); rcases e with rfl | rfl <;> rfl) (by show some (45 : UInt8) ≠ some 48; decide)
    have g2 := fun acc => Ft.group (s := s) (form := f10) 2 0 8 acc (by omega) (fun i h1 h => by have e : i = 8 ∨ i = 9 := (by omega); rcases e with rfl | rfl <;> rfl) (by show (none : Option UInt8) ≠ some 48; simp)
    have q4 := sep_iff (s := s) (form := f10) (j := 4) (c := 45) (n := 10) rfl rfl (by omega)
    have q7 := sep_iff (s := s) (form := f10) (j := 7) (c := 45) (n := 10) rfl rfl (by omega)
    rw [e, g0]
    by_cases h : Dg.allD (Ft.win s 0 4) = true ∧ s[4]? = some 45
    · rw [if_pos ⟨h.1, q4.2 h.2⟩]
      show Ft.go s f10 (3 + 1 + 2) 5 5 _ = _
      rw [g1]
      by_cases h2 : Dg.allD (Ft.win s 5 7) = true ∧ s[7]? = some 45
      · rw [if_pos ⟨h2.1, q7.2 h2.2⟩]
        show Ft.go s f10 (0 + 1 + 2) 8 8 _ = _
        rw [g2]
        by_cases h3 : Dg.allD (Ft.win s 8 10) = true
        · rw [if_pos ⟨h3, fun h => absurd h.1 (by show ¬ 8 + 2 < 10; omega)⟩, if_pos ⟨hl, (dig _ _ _).1 h.1, h.2, (dig _ _ _).1 h2.1, h2.2, (dig _ _ _).1 h3⟩]
          show some [(Dg.val (Ft.win s 0 4) : Int), (Dg.val (Ft.win s 5 7) : Int), (Dg.val (Ft.win s 8 10) : Int)] = _
          rw [val_fx h.1, val_fx h2.1, val_fx h3]
        · rw [if_neg (fun hh => h3 hh.1), if_neg (fun hh => h3 ((dig _ _ _).2 hh.2.2.2.2.2))]
      · rw [if_neg (fun hh => h2 ⟨hh.1, q7.1 hh.2⟩), if_neg (fun hh => h2 ⟨(dig _ _ _).2 hh.2.2.2.1, hh.2.2.2.2.1⟩)]
    · rw [if_neg (fun hh => h ⟨hh.1, q4.1 hh.2⟩), if_neg (fun hh => h ⟨(dig _ _ _).2 hh.2.1, hh.2.2.1⟩)]
  · have e : Ft.res s f10 = none := by unfold Ft.res; rw [if_neg (by show ¬ s.length = 10; exact hl)]
    rw [e, if_neg (fun h => hl h.1)]
theorem num_bd {d : D3} (h : vld d = true) : 0 ≤ num d ∧ num d ≤ 73048 := by have := Cal.num_bd _ _ _ h; exact ⟨this.1, this.2.1⟩
/-- Both dates of a form are right, or none. -/
theorem year_vld (y : Int) : Cal.vld y 12 31 = Cal.vld y 1 1 := by
  rw [Bool.eq_iff_iff, Cal.vld_iff, Cal.vld_iff]
  have e : Cal.len y 12 = 31 := by simp [Cal.len]
  have e1 : Cal.len y 1 = 31 := by simp [Cal.len]
  rw [e, e1]; omega
theorem month_vld (y m : Int) : Cal.vld y m (Cal.len y m) = Cal.vld y m 1 := by
  rw [Bool.eq_iff_iff, Cal.vld_iff, Cal.vld_iff]
  have := Cal.len_bd y m
  omega
end Sp
end Go.Proofs.YthldlffkgafgaaaDoor

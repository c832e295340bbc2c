/- What readLocal reads is what the reference's secondsOf reads: plain lists. -/
import Derived.Test.YthldlffkgafgaaaDoorFtSix
import Derived.Test.YthldlffkgafgaaaDoorSecs
namespace Go.Proofs.YthldlffkgafgaaaDoor
namespace Ft
/-- A form of date and time. -/
def formOf (d b : UInt8) : List UInt8 := [48, 48, 48, 48, d, 48, 48, d, 48, 48, b, 48, 48, 58, 48, 48, 58, 48, 48]
theorem skip {s form : List UInt8} : ∀ (n k j fr : Nat) (acc : List Int), (∀ i, j ≤ i → i < j + n → form[i]? = some 48) → go s form (k + n) j fr acc = go s form k (j + n) fr acc := by
  intro n
  induction n with
  | zero => intro k j fr acc _; rfl
  | succ n ih =>
    intro k j fr acc h
    rw [show k + (n + 1) = (k + n) + 1 by omega, go_zero (h j (by omega) (by omega)), ih k (j + 1) fr acc (fun i h1 h2 => h i (by omega) (by omega)), show j + 1 + n = j + (n + 1) by omega]
theorem group {s form : List UInt8} (n k fr : Nat) (acc : List Int) (hn : 0 < n) (hz : ∀ i, fr ≤ i → i < fr + n → form[i]? = some 48) (hs : form[fr + n]? ≠ some 48) :
    go s form (k + 1 + n) fr fr acc = if Dg.allD (win s fr (fr + n)) = true ∧ ¬ (fr + n < form.length ∧ s[fr + n]? ≠ form[fr + n]?) then go s form k (fr + n + 1) (fr + n + 1) (acc ++ [(Dg.val (win s fr (fr + n)) : Int)]) else none := by
  rw [skip n (k + 1) fr fr acc hz]
  by_cases h1 : Dg.allD (win s fr (fr + n)) = true
  · by_cases h2 : fr + n < form.length ∧ s[fr + n]? ≠ form[fr + n]?
    · rw [if_neg (fun h => h.2 h2), go_numSep hs (by omega) h1 h2.1 h2.2]
    · rw [if_pos ⟨h1, h2⟩, go_num hs (by omega) h1 h2]
  · rw [if_neg (fun h => h1 h.1), go_bad hs (by omega) (by simpa using h1)]
theorem go_form (s : List UInt8) (d b : UInt8) (hd : d ≠ 48) (hb : b ≠ 48) :
    go s (formOf d b) 20 0 0 [] = if (Dg.allD (win s 0 4) = true ∧ s[4]? = some d) ∧ (Dg.allD (win s 5 7) = true ∧ s[7]? = some d) ∧ (Dg.allD (win s 8 10) = true ∧ s[10]? = some b) ∧ (Dg.allD (win s 11 13) = true ∧ s[13]? = some 58) ∧ (Dg.allD (win s 14 16) = true ∧ s[16]? = some 58) ∧ Dg.allD (win s 17 19) = true
      then some [(Dg.val (win s 0 4) : Int), Dg.val (win s 5 7), Dg.val (win s 8 10), Dg.val (win s 11 13), Dg.val (win s 14 16), Dg.val (win s 17 19)] else none := by
  have g0 := group (s := s) (form := formOf d b) 4 15 0 [] (by omega) (fun i _ h => by match i, h with | 0, _ => rfl | 1, _ => rfl | 2, _ => rfl | 3, _ => rfl) (by show some d ≠ some 48; simpa using hd)
  have g1 := fun acc => group (s := s) (form := formOf d b) 2 12 5 acc (by omega) (fun i h1 h => by have e : i = 5 ∨ i = 6 := (by omega); rcases e with rfl | rfl <;> rfl) (by show some d ≠ some 48; simpa using hd)
  have g2 := fun acc => group (s := s) (form := formOf d b) 2 9 8 acc (by omega) (fun i h1 h => by have e : i = 8 ∨ i = 9 := (by omega); rcases e with rfl | rfl <;> rfl) (by show some b ≠ some 48; simpa using hb)
  have g3 := fun acc => group (s := s) (form := formOf d b) 2 6 11 acc (by omega) (fun i h1 h => by have e : i = 11 ∨ i = 12 := (by omega); rcases e with rfl | rfl <;> rfl) (by show some (58 : UInt8) ≠ some 48; decide)
  have g4 := fun acc => group (s := s) (form := formOf d b) 2 3 14 acc (by omega) (fun i h1 h => by have e : i = 14 ∨ i = 15 := (by omega); rcases e with rfl | rfl <;> rfl) (by show some (58 : UInt8) ≠ some 48; decide)
  have g5 := fun acc => group (s := s) (form := formOf d b) 2 0 17 acc (by omega) (fun i h1 h => by have e : i = 17 ∨ i = 18 := (by omega); rcases e with rfl | rfl <;> rfl) (by show (none : Option UInt8) ≠ some 48; simp)
  have p : ∀ (j : Nat) (c : UInt8), (formOf d b)[j]? = some c → j < 19 → ((¬ (j < (formOf d b).length ∧ s[j]? ≠ (formOf d b)[j]?)) ↔ s[j]? = some c) := by
    intro j c h hj
    rw [h]
    have : (formOf d b).length = 19 := rfl
    rw [this]
    constructor
    · intro hh
      by_cases e : s[j]? = some c
      · exact e
      · exact absurd ⟨hj, e⟩ hh
    · rintro e ⟨_, hn⟩; exact hn e
  have q4 := p 4 d rfl (by omega)
  have q7 := p 7 d rfl (by omega)
  have q10 := p 10 b rfl (by omega)
  have q13 := p 13 58 rfl (by omega)
  have q16 := p 16 58 rfl (by omega)
  show go s (formOf d b) (15 + 1 + 4) 0 0 [] = _
  rw [g0]
  by_cases c0 : Dg.allD (win s 0 4) = true ∧ s[4]? = some d
  · rw [if_pos ⟨c0.1, q4.2 c0.2⟩]
    show go s (formOf d b) (12 + 1 + 2) 5 5 _ = _
    rw [g1]
    by_cases c1 : Dg.allD (win s 5 7) = true ∧ s[7]? = some d
    · rw [if_pos ⟨c1.1, q7.2 c1.2⟩]
      show go s (formOf d b) (9 + 1 + 2) 8 8 _ = _
      rw [g2]
      by_cases c2 : Dg.allD (win s 8 10) = true ∧ s[10]? = some b
      · rw [if_pos ⟨c2.1, q10.2 c2.2⟩]
        show go s (formOf d b) (6 + 1 + 2) 11 11 _ = _
        rw [g3]
        by_cases c3 : Dg.allD (win s 11 13) = true ∧ s[13]? = some 58
        · rw [if_pos ⟨c3.1, q13.2 c3.2⟩]
          show go s (formOf d b) (3 + 1 + 2) 14 14 _ = _
          rw [g4]
          by_cases c4 : Dg.allD (win s 14 16) = true ∧ s[16]? = some 58
          · rw [if_pos ⟨c4.1, q16.2 c4.2⟩]
            show go s (formOf d b) (0 + 1 + 2) 17 17 _ = _
            rw [g5]
            by_cases c5 : Dg.allD (win s 17 19) = true
            · rw [if_pos ⟨c5, fun h => absurd h.1 (by show ¬ 19 < 19; omega)⟩, if_pos ⟨c0, c1, c2, c3, c4, c5⟩]; rfl
            · rw [if_neg (fun h => c5 h.1), if_neg (fun h => c5 h.2.2.2.2.2)]
          · rw [if_neg (fun h => c4 ⟨h.1, q16.1 h.2⟩), if_neg (fun h => c4 h.2.2.2.2.1)]
        · rw [if_neg (fun h => c3 ⟨h.1, q13.1 h.2⟩), if_neg (fun h => c3 h.2.2.2.1)]
      · rw [if_neg (fun h => c2 ⟨h.1, q10.1 h.2⟩), if_neg (fun h => c2 h.2.2.1)]
    · rw [if_neg (fun h => c1 ⟨h.1, q7.1 h.2⟩), if_neg (fun h => c1 h.2.1)]
  · rw [if_neg (fun h => c0 ⟨h.1, q4.1 h.2⟩), if_neg (fun h => c0 h.1)]
/-- What readLocal reads is what secondsOf reads. -/
theorem loc_law (s : List UInt8) (d b : UInt8) (hd : d ≠ 48) (hb : b ≠ 48) : loc (res s (formOf d b)) = if Sc.secs s d b < 0 then none else some (Sc.secs s d b) := by
  by_cases hl : s.length = 19
  · have e : res s (formOf d b) = go s (formOf d b) 20 0 0 [] := by unfold res; rw [if_pos (show s.length = (formOf d b).length from hl)]; rfl
    rw [e, go_form s d b hd hb]
    by_cases hsep : s[4]? = some d ∧ s[7]? = some d ∧ s[10]? = some b ∧ s[13]? = some 58 ∧ s[16]? = some 58
    · have hg : Sc.good s d b := ⟨hl, hsep⟩
      unfold Sc.secs
      rw [if_pos hg]
      obtain ⟨s4, s7, s10, s13, s16⟩ := hsep
      by_cases h : Dg.allD (win s 0 4) = true ∧ Dg.allD (win s 5 7) = true ∧ Dg.allD (win s 8 10) = true ∧ Dg.allD (win s 11 13) = true ∧ Dg.allD (win s 14 16) = true ∧ Dg.allD (win s 17 19) = true
      · obtain ⟨h0, h1, h2, h3, h4, h5⟩ := h
        rw [if_pos ⟨⟨h0, s4⟩, ⟨h1, s7⟩, ⟨h2, s10⟩, ⟨h3, s13⟩, ⟨h4, s16⟩, h5⟩]
        unfold Sc.fx
        rw [if_pos h0, if_pos h1, if_pos h2, if_pos h3, if_pos h4, if_pos h5]
        generalize Dg.val (win s 0 4) = Y
        generalize Dg.val (win s 5 7) = M
        generalize Dg.val (win s 8 10) = D
        generalize Dg.val (win s 11 13) = x3
        generalize Dg.val (win s 14 16) = x4
        generalize Dg.val (win s 17 19) = x5
        show (if Cal.vld (Y : Int) (M : Int) (D : Int) = true ∧ (x3 : Int) ≤ 23 ∧ (x4 : Int) ≤ 59 ∧ (x5 : Int) ≤ 59 then some (Cal.num (Y : Int) (M : Int) (D : Int) * 86400 + 3600 * (x3 : Int) + 60 * (x4 : Int) + (x5 : Int)) else none) = _
        by_cases hc : Cal.vld (Y : Int) (M : Int) (D : Int) = true ∧ (x3 : Int) ≤ 23 ∧ (x4 : Int) ≤ 59 ∧ (x5 : Int) ≤ 59
        · have hn := Cal.num_bd _ _ _ hc.1
          have ht : Sc.tell (Y : Int) (M : Int) (D : Int) (x3 : Int) (x4 : Int) (x5 : Int) = Cal.num (Y : Int) (M : Int) (D : Int) * 86400 + (x3 : Int) * 3600 + (x4 : Int) * 60 + (x5 : Int) := by
            unfold Sc.tell; rw [if_pos ⟨hc.1, by omega, by omega, by omega⟩]
          rw [if_pos hc, ht, if_neg (by omega)]
          congr 1; omega
        · have ht : Sc.tell (Y : Int) (M : Int) (D : Int) (x3 : Int) (x4 : Int) (x5 : Int) = -1 := by
            unfold Sc.tell; rw [if_neg (fun hh => hc ⟨hh.1, hh.2.1.2, hh.2.2.1.2, hh.2.2.2.2⟩)]
          rw [if_neg hc, ht]; rfl
      · rw [if_neg (fun hh => h ⟨hh.1.1, hh.2.1.1, hh.2.2.1.1, hh.2.2.2.1.1, hh.2.2.2.2.1.1, hh.2.2.2.2.2⟩)]
        have ht : Sc.tell (Sc.fx s 0 4) (Sc.fx s 5 7) (Sc.fx s 8 10) (Sc.fx s 11 13) (Sc.fx s 14 16) (Sc.fx s 17 19) = -1 := by
          unfold Sc.tell
          rw [if_neg]
          rintro ⟨hv, ha, hb', hc⟩
          obtain ⟨v1, _, v3, _, v5, _⟩ := (Cal.vld_iff _ _ _).1 hv
          apply h
          have key : ∀ a c, 0 ≤ Sc.fx s a c → Dg.allD (win s a c) = true := by
            intro a c hh
            unfold Sc.fx at hh
            split at hh
            · assumption
            · omega
          exact ⟨key _ _ (by omega), key _ _ (by omega), key _ _ (by omega), key _ _ (by omega), key _ _ (by omega), key _ _ (by omega)⟩
        rw [ht]; rfl
    · rw [if_neg (fun hh => hsep ⟨hh.1.2, hh.2.1.2, hh.2.2.1.2, hh.2.2.2.1.2, hh.2.2.2.2.1.2⟩)]
      have hs : Sc.secs s d b = -1 := by unfold Sc.secs; rw [if_neg (fun hh => hsep hh.2)]
      rw [hs]; rfl
  · have e : res s (formOf d b) = none := by unfold res; rw [if_neg (by show ¬ s.length = 19; exact hl)]
    have hs : Sc.secs s d b = -1 := by unfold Sc.secs; rw [if_neg (fun hh => hl hh.1)]
    rw [e, hs]; rfl
theorem loc_plain (s : List UInt8) : loc (res s plainF) = if Sc.secs s 58 32 < 0 then none else some (Sc.secs s 58 32) := loc_law s 58 32 (by decide) (by decide)
theorem loc_stamp (s : List UInt8) : loc (res s stampF) = if Sc.secs s 45 84 < 0 then none else some (Sc.secs s 45 84) := loc_law s 45 84 (by decide) (by decide)
end Ft
end Go.Proofs.YthldlffkgafgaaaDoor

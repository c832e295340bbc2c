/- strings.Split and strings.Cut at a separator of one byte: plain lists. -/
import Derived.Test.YtpgjpnnjlilokaaDoorTxMath
import Derived.Lib.Split
namespace Go.Proofs.YtpgjpnnjlilokaaDoor
namespace Pr
open Go.Lib
/-- The pieces of a list between the bytes c. -/
def spl (c : UInt8) : List UInt8 → List (List UInt8)
  | [] => [[]]
  | b :: l => if b = c then [] :: spl c l else match spl c l with | [] => [[b]] | x :: r => (b :: x) :: r
theorem spl_ne (c : UInt8) : ∀ l, spl c l ≠ []
  | [] => by simp [spl]
  | b :: l => by
    unfold spl
    split
    · simp
    · split <;> simp
/-- What stands before the first c, and what behind. -/
def cut1 (c : UInt8) : List UInt8 → Option (List UInt8 × List UInt8)
  | [] => none
  | b :: l => if b = c then some ([], l) else (cut1 c l).map fun p => (b :: p.1, p.2)
theorem index_cons_eq (c : UInt8) (l : List UInt8) : index (c :: l) [c] = 0 := by simp [index]
theorem index_cons_ne {b c : UInt8} (h : b ≠ c) (l : List UInt8) : index (b :: l) [c] = if index l [c] == -1 then -1 else index l [c] + 1 := by
  have : ¬ c = b := fun e => h e.symm
  simp [index, this]
theorem index_cut1 (c : UInt8) : ∀ l : List UInt8, (cut1 c l = none ∧ index l [c] = -1) ∨ ∃ i : Nat, index l [c] = i ∧ cut1 c l = some (l.take i, l.drop (i + 1))
  | [] => .inl ⟨rfl, by simp [index]⟩
  | b :: l => by
    by_cases h : b = c
    · subst h
      exact .inr ⟨0, index_cons_eq _ _, by simp [cut1]⟩
    · rcases index_cut1 c l with ⟨h1, h2⟩ | ⟨i, h1, h2⟩
      · exact .inl ⟨by rw [cut1, if_neg h, h1]; rfl, by rw [index_cons_ne h, h2]; rfl⟩
      · refine .inr ⟨i + 1, ?_, by rw [cut1, if_neg h, h2]; rfl⟩
        rw [index_cons_ne h, h1, if_neg (by rw [beq_iff_eq]; omega)]; omega
theorem cut_cut1 (c : UInt8) (l : List UInt8) : cut l [c] = match cut1 c l with | some p => (p.1, p.2, true) | none => (l, [], false) := by
  unfold cut
  rcases index_cut1 c l with ⟨h1, h2⟩ | ⟨i, h1, h2⟩
  · rw [h1, h2, if_neg (by omega)]
  · rw [h1, h2, if_pos (by omega)]; simp
theorem split_miss {s sub : List UInt8} (h : index s sub = -1) : split s sub = [s] := by unfold split; rw [count_miss h]; rfl
theorem split_hit {s sub : List UInt8} {i : Nat} (hsub : sub ≠ []) (h : index s sub = i) : split s sub = s.take i :: split (s.drop (i + sub.length)) sub := by
  unfold split
  rw [count_hit hsub h, Nat.add_comm, splitK, if_neg (by rw [h, beq_iff_eq]; omega), h]
  simp
theorem split_cut1 (c : UInt8) (l : List UInt8) : split l [c] = match cut1 c l with | some p => p.1 :: split p.2 [c] | none => [l] := by
  rcases index_cut1 c l with ⟨h1, h2⟩ | ⟨i, h1, h2⟩
  · rw [h1, split_miss h2]
  · rw [h2, split_hit (by simp) h1]; simp
theorem spl_cut1 (c : UInt8) : ∀ l, spl c l = match cut1 c l with | some p => p.1 :: spl c p.2 | none => [l]
  | [] => rfl
  | b :: l => by
    by_cases h : b = c
    · simp [spl, cut1, h]
    · have ih := spl_cut1 c l
      rw [spl, if_neg h, cut1, if_neg h, ih]
      cases cut1 c l <;> rfl
theorem cut1_len {c : UInt8} : ∀ {l : List UInt8} {a b : List UInt8}, cut1 c l = some (a, b) → l = a ++ c :: b
  | [], _, _, h => by simp [cut1] at h
  | x :: l, a, b, h => by
    unfold cut1 at h
    split at h
    · rename_i hx
      injection h with h; injection h with h1 h2
      subst h1 h2 hx; rfl
    · cases hc : cut1 c l with
      | none => rw [hc] at h; cases h
      | some p =>
        rw [hc] at h; injection h with h; injection h with h1 h2
        subst h1 h2
        rw [cut1_len (a := p.1) (b := p.2) hc]; rfl
theorem cut1_append {c : UInt8} : ∀ {a : List UInt8} (b : List UInt8), c ∉ a → cut1 c (a ++ c :: b) = some (a, b)
  | [], b, _ => by simp [cut1]
  | x :: a, b, h => by
    have hx : x ≠ c := fun e => h (by simp [e])
    rw [List.cons_append, cut1, if_neg hx, cut1_append b (fun hm => h (List.mem_cons_of_mem _ hm))]; rfl
theorem cut1_none {c : UInt8} : ∀ {a : List UInt8}, c ∉ a → cut1 c a = none
  | [], _ => rfl
  | x :: a, h => by
    have hx : x ≠ c := fun e => h (by simp [e])
    rw [cut1, if_neg hx, cut1_none (fun hm => h (List.mem_cons_of_mem _ hm))]; rfl
theorem cut1_mem {c : UInt8} : ∀ {l : List UInt8}, cut1 c l = none → c ∉ l
  | [], _ => by simp
  | x :: l, h => by
    unfold cut1 at h
    split at h
    · cases h
    · rename_i hx
      cases hc : cut1 c l with
      | none => intro hm; rcases List.mem_cons.1 hm with e | e; exact hx e.symm; exact cut1_mem hc e
      | some p => rw [hc] at h; cases h
theorem cut1_not_mem {c : UInt8} : ∀ {l a b : List UInt8}, cut1 c l = some (a, b) → c ∉ a
  | [], _, _, h => by simp [cut1] at h
  | x :: l, a, b, h => by
    unfold cut1 at h
    split at h
    · injection h with h; injection h with h1 h2; subst h1; simp
    · rename_i hx
      cases hc : cut1 c l with
      | none => rw [hc] at h; cases h
      | some p =>
        rw [hc] at h; injection h with h; injection h with h1 h2
        subst h1
        intro hm
        rcases List.mem_cons.1 hm with e | e
        · exact hx e.symm
        · exact cut1_not_mem (a := p.1) (b := p.2) hc e
theorem split_spl (c : UInt8) : ∀ (n : Nat) (l : List UInt8), l.length ≤ n → split l [c] = spl c l
  | n, l, hn => by
    rw [split_cut1, spl_cut1]
    cases hc : cut1 c l with
    | none => rfl
    | some p =>
      have hl := cut1_len (a := p.1) (b := p.2) hc
      have hl2 : l.length = p.1.length + (p.2.length + 1) := by rw [hl]; simp
      match n, hn with
      | 0, hn => omega
      | n + 1, hn => simp only [split_spl c n p.2 (by omega)]
theorem spl_append {c : UInt8} {a : List UInt8} (b : List UInt8) (h : c ∉ a) : spl c (a ++ c :: b) = a :: spl c b := by rw [spl_cut1, cut1_append b h]
theorem spl_none {c : UInt8} {a : List UInt8} (h : c ∉ a) : spl c a = [a] := by rw [spl_cut1, cut1_none h]
/-- As cells. -/
theorem splitB_spl (c : UInt8) (s : List UInt8) : (splitB (Tx.mk [c]) 0 (countB (Tx.mk s) (Tx.mk [c])) (Tx.mk s)) = (spl c s).map Tx.mk := by
  have h := splitB_data (Tx.mk [c]) 0 (countB (Tx.mk s) (Tx.mk [c])) (Tx.mk s)
  have h2 : splitK (Tx.mk [c]).data.toList 0 (countB (Tx.mk s) (Tx.mk [c])) (Tx.mk s).data.toList = spl c s := by
    rw [← split_spl c _ s (Nat.le_refl _)]; rfl
  rw [h2] at h
  rw [← h, List.map_map]
  conv => lhs; rw [← List.map_id (splitB _ _ _ _)]
  refine List.map_congr_left fun x _ => ?_
  rfl
theorem spl_len_le (c : UInt8) (l : List UInt8) : (spl c l).length ≤ l.length + 1 := by
  induction l with
  | nil => simp [spl]
  | cons b l ih =>
    unfold spl
    split
    · simp; omega
    · split
      · simp
      · rename_i h; rw [h] at ih; simp at ih ⊢; omega
theorem spl_mem_le (c : UInt8) : ∀ (l : List UInt8) (x : List UInt8), x ∈ spl c l → x.length ≤ l.length
  | [], x, h => by simp [spl] at h; simp [h]
  | b :: l, x, h => by
    unfold spl at h
    split at h
    · rcases List.mem_cons.1 h with e | e
      · subst e; simp
      · have := spl_mem_le c l x e; simp; omega
    · split at h
      · simp at h; subst h; simp
      · rename_i y r hs
        rcases List.mem_cons.1 h with e | e
        · subst e
          have := spl_mem_le c l y (by rw [hs]; simp)
          simp; omega
        · have := spl_mem_le c l x (by rw [hs]; exact List.mem_cons_of_mem _ e)
          simp; omega
theorem countB_spl (c : UInt8) (s : List UInt8) : countB (Tx.mk s) (Tx.mk [c]) + 1 = (spl c s).length := by
  have : ∀ n (l : List UInt8), l.length ≤ n → count l [c] + 1 = (spl c l).length := by
    intro n
    induction n with
    | zero =>
      intro l hl
      have : l = [] := List.length_eq_zero_iff.1 (by omega)
      subst this
      rw [count_miss (by simp [index])]; rfl
    | succ n ih =>
      intro l hl
      rw [spl_cut1]
      rcases index_cut1 c l with ⟨h1, h2⟩ | ⟨i, h1, h2⟩
      · rw [h1, count_miss h2]; rfl
      · rw [h2, count_hit (by simp) h1]
        have hl2 := congrArg List.length (cut1_len h2)
        simp only [List.length_append, List.length_cons] at hl2
        have := ih (l.drop (i + 1)) (by rw [List.length_drop]; omega)
        simp only [List.length_cons, List.length_nil, Nat.zero_add] at this ⊢; omega
  exact this _ s (Nat.le_refl _)
end Pr
end Go.Proofs.YtpgjpnnjlilokaaDoor

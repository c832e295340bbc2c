/- Parts of the proof, no condition: StScrM. -/
import Derived.Test.YthdiccdnggloiaaDoorRk4
set_option linter.unusedSimpArgs false
set_option linter.unusedVariables false
namespace Go.Proofs.YthdiccdnggloiaaDoor
open Go.RowKit
namespace St
section
variable (tier : ByteArray) (S : List ByteArray)
def cnt (L : List Cop) : Nat := L.countP fun c => eq c.tier tier
def one (k : Nat) (c : Cop) : Cop := if eq c.tier tier = true then (match S[k]? with | some x => { c with good := eq x c.dig } | none => c) else c
def oneN (k : Nat) (c : Cop) : Int := if eq c.tier tier = true then (match S[k]? with | some x => (if (eq x c.dig != c.good) = true then 1 else 0) | none => 0) else 0
def scr : Nat → List Cop → List Cop
 | _, [] => []
 | k, c :: L => one tier S k c :: scr (if eq c.tier tier = true then k + 1 else k) L
def chg : Nat → List Cop → Int
 | _, [] => 0
 | k, c :: L => oneN tier S k c + chg (if eq c.tier tier = true then k + 1 else k) L
theorem cnt_cons (c : Cop) (L : List Cop) : cnt tier (c :: L) = (if eq c.tier tier = true then 1 else 0) + cnt tier L := by
 unfold cnt
 rw [List.countP_cons]
 omega
theorem cnt_snoc (L : List Cop) (c : Cop) : cnt tier (L ++ [c]) = cnt tier L + (if eq c.tier tier = true then 1 else 0) := by
 unfold cnt
 rw [List.countP_append]
 simp [List.countP_cons]
theorem scr_len : ∀ (L : List Cop) (k : Nat), (scr tier S k L).length = L.length
 | [], _ => rfl
 | c :: L, k => by rw [scr, List.length_cons, scr_len L]; rfl
theorem scr_snoc (c : Cop) : ∀ (L : List Cop) (k : Nat), scr tier S k (L ++ [c]) = scr tier S k L ++ [one tier S (k + cnt tier L) c]
 | [], k => by simp [scr, cnt]
 | y :: L, k => by
   rw [List.cons_append, scr, scr, scr_snoc c L, cnt_cons, List.cons_append]
   congr 3
   split <;> (congr 1; omega)
theorem chg_snoc (c : Cop) : ∀ (L : List Cop) (k : Nat), chg tier S k (L ++ [c]) = chg tier S k L + oneN tier S (k + cnt tier L) c
 | [], k => by simp [chg, cnt]
 | y :: L, k => by
   rw [List.cons_append, chg, chg, chg_snoc c L, cnt_cons]
   have e : (if eq y.tier tier = true then k + 1 else k) + cnt tier L = k + ((if eq y.tier tier = true then 1 else 0) + cnt tier L) := by split <;> omega
   rw [e]; omega
theorem chg_bd : ∀ (L : List Cop) (k : Nat), 0 ≤ chg tier S k L ∧ chg tier S k L ≤ L.length
 | [], _ => by simp [chg]
 | c :: L, k => by
   have h := chg_bd L (if eq c.tier tier = true then k + 1 else k)
   have h1 : 0 ≤ oneN tier S k c ∧ oneN tier S k c ≤ 1 := by
    unfold oneN
    split
    ·split
     ·split <;> omega
     ·omega
    ·omega
   rw [chg, List.length_cons]
   omega
theorem cnt_le (L : List Cop) : cnt tier L ≤ L.length := List.countP_le_length
theorem cnt_take (L : List Cop) (j : Nat) : cnt tier (L.take j) ≤ cnt tier L := by
 have : cnt tier L = cnt tier (L.take j) + cnt tier (L.drop j) := by
  unfold cnt
  rw [← List.countP_append, List.take_append_drop]
 omega
def scrL (L : List Cop) (j : Nat) : List Cop := scr tier S 0 (L.take j) ++ L.drop j
variable {tier S}
theorem scrL_zero (L : List Cop) : scrL tier S L 0 = L := by simp [scrL, scr]
theorem scrL_all (L : List Cop) : scrL tier S L L.length = scr tier S 0 L := by simp [scrL]
theorem scrL_at {L : List Cop} {j : Nat} {c : Cop} (h : L[j]? = some c) : (scrL tier S L j)[j]? = some c := by
 have hlt := (List.getElem?_eq_some_iff.1 h).1
 have hl : (scr tier S 0 (L.take j)).length = j := by rw [scr_len, List.length_take]; omega
 unfold scrL
 rw [List.getElem?_append_right (by omega), hl, List.getElem?_drop, Nat.sub_self, Nat.add_zero]
 exact h
theorem scrL_succ {L : List Cop} {j : Nat} {c : Cop} (h : L[j]? = some c) : scrL tier S L (j + 1) = (scrL tier S L j).set j (one tier S (cnt tier (L.take j)) c) := by
 obtain ⟨hlt, hg⟩ := List.getElem?_eq_some_iff.1 h
 have hl : (scr tier S 0 (L.take j)).length = j := by rw [scr_len, List.length_take]; omega
 unfold scrL
 rw [List.take_add_one, h, Option.toList_some, scr_snoc, Nat.zero_add, List.set_append_right _ _ (by omega), hl, Nat.sub_self, List.drop_eq_getElem_cons hlt, List.set_cons_zero, List.append_assoc]
 rfl
theorem set_same {α : Type} {L : List α} {j : Nat} {c : α} (h : L[j]? = some c) : L.set j c = L := by
 apply List.ext_getElem?
 intro i
 rw [List.getElem?_set]
 by_cases e : j = i
 ·subst e
  rw [if_pos rfl, if_pos (List.getElem?_eq_some_iff.1 h).1, h]
 ·rw [if_neg e]
theorem scrL_stay {L : List Cop} {j : Nat} {c : Cop} (h : L[j]? = some c) (ho : one tier S (cnt tier (L.take j)) c = c) : scrL tier S L (j + 1) = scrL tier S L j := by
 rw [scrL_succ h, ho, set_same (scrL_at h)]
theorem chg_succ {L : List Cop} {j : Nat} {c : Cop} (h : L[j]? = some c) : chg tier S 0 (L.take (j + 1)) = chg tier S 0 (L.take j) + oneN tier S (cnt tier (L.take j)) c := by
 rw [List.take_add_one, h, Option.toList_some, chg_snoc, Nat.zero_add]
theorem cnt_succ {L : List Cop} {j : Nat} {c : Cop} (h : L[j]? = some c) : cnt tier (L.take (j + 1)) = cnt tier (L.take j) + (if eq c.tier tier = true then 1 else 0) := by
 rw [List.take_add_one, h, Option.toList_some, cnt_snoc]
end
def scrE (s : Sto) (tier : ByteArray) (S : List ByteArray) : Int := if hasTier s.tiers tier = true then (if cnt tier s.copies = S.length then 0 else 1) else 7
def scrS (s : Sto) (tier : ByteArray) (S : List ByteArray) : Sto := { s with copies := scr tier S 0 s.copies }
def scrN (s : Sto) (tier : ByteArray) (S : List ByteArray) : Int := chg tier S 0 s.copies
end St
end Go.Proofs.YthdiccdnggloiaaDoor

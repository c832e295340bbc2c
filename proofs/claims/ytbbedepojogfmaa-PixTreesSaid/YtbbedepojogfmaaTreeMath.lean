/- A tree's map as two lists: numbers and hashes. -/
import Derived.Maps.OwnSet
import Derived.Maps.OwnOps
import Derived.Lib.SlKeysI
import Derived.Test.YtbbedepojogfmaaKit
namespace Go.Proofs.Ytbbedepojogfmaa
open Go.RowKit Go.Maps
set_option linter.unusedVariables false
/-- The datum of a tree: numbers I, their hashes Hs. -/
structure Tr (D : DataW Unit) (I Hs : List Int) : Prop where
  len : I.length = Hs.length
  nd : I.Nodup
  rng : ∀ x ∈ I, 1 ≤ x ∧ x ≤ 1000000
  has : ∀ x, Maps.has D (.int .i64 x) = decide (x ∈ I)
  at_ : ∀ (i : Nat) (x h : Int), I[i]? = some x → Hs[i]? = some h → ∀ z, D.atKey (.int .i64 x) z = .lit (.int .u64 h)
  size : Maps.size D = I.length
  hb : ∀ h ∈ Hs, 0 ≤ h ∧ h < 18446744073709551616
theorem Tr.nil : Tr (.map []) [] [] :=
  ⟨rfl, List.nodup_nil, fun x h => by (cases h), fun x => by simp [Maps.has], fun i x h e => by simp at e, rfl, fun h e => by cases e⟩
theorem lit_ne {x y : Int} (h : y ≠ x) : (Lit.int .i64 y) ≠ (Lit.int .i64 x) := fun e => h (by injection e)
theorem Tr.add {D : DataW Unit} {I Hs : List Int} (t : Tr D I Hs) (ht : Tidy D) {x : Int} (h : Int) (hx : x ∉ I) (hr : 1 ≤ x ∧ x ≤ 1000000) (hbh : 0 ≤ h ∧ h < 18446744073709551616) : Tr (D.put (.int .i64 x) (.lit (.int .u64 h))) (I ++ [x]) (Hs ++ [h]) := by
  refine ⟨by simp [t.len], ?_, ?_, fun y => ?_, fun i y g hy hg z => ?_, ?_, fun g hg => ?_⟩
  · rw [List.nodup_append]
    exact ⟨t.nd, by simp, fun a ha b hb => by rw [List.mem_singleton] at hb; subst hb; exact fun e => hx (e ▸ ha)⟩
  · intro y hy
    rcases List.mem_append.1 hy with h1 | h1
    · exact t.rng y h1
    · rw [List.mem_singleton] at h1; subst h1; exact hr
  · by_cases e : y = x
    · subst e
      rw [has_put_same ht.isMap (show WideAt.IsKeyLit (.int .i64 y) from trivial)]; simp
    · rw [has_put_other (lit_ne e), t.has]; simp [e]
  · by_cases hi : i < I.length
    · rw [List.getElem?_append_left hi] at hy
      rw [List.getElem?_append_left (by rw [← t.len]; exact hi)] at hg
      have e : y ≠ x := fun e => hx (e ▸ List.mem_of_getElem? hy)
      rw [atKey_put_other (lit_ne e)]
      exact t.at_ i y g hy hg z
    · rw [List.getElem?_append_right (by omega)] at hy
      rw [List.getElem?_append_right (by rw [← t.len]; omega)] at hg
      have h0 : i - I.length = 0 := by
        have := (List.getElem?_eq_some_iff.1 hy).1; simp at this; omega
      rw [h0] at hy
      rw [← t.len, h0] at hg
      simp at hy hg
      subst hy hg
      exact atKey_put_same ht.isMap (show WideAt.IsKeyLit (.int .i64 x) from trivial) _ _
  · rw [size_put ht, t.has, if_neg (by simp [hx]), t.size]; simp
  · rcases List.mem_append.1 hg with h1 | h1
    · exact t.hb g h1
    · rw [List.mem_singleton] at h1; subst h1; exact hbh
theorem Tr.del {D : DataW Unit} {I Hs : List Int} (t : Tr D I Hs) (ht : Tidy D) {x : Int} (k : Nat) (hk : I[k]? = some x) : Tr (D.del (.int .i64 x)) (I.eraseIdx k) (Hs.eraseIdx k) := by
  have hlt := (List.getElem?_eq_some_iff.1 hk).1
  have hmem := List.mem_of_getElem? hk
  have hnd := t.nd
  have hsub : ∀ y, y ∈ I.eraseIdx k ↔ y ∈ I ∧ y ≠ x := by
    intro y
    rw [List.mem_eraseIdx_iff_getElem?]
    constructor
    · rintro ⟨i, hne, hi⟩
      refine ⟨List.mem_of_getElem? hi, fun e => ?_⟩
      subst e
      exact hne ((List.getElem?_inj (List.getElem?_eq_some_iff.1 hi).1 hnd).1 (hi.trans hk.symm))
    · rintro ⟨hy, hne⟩
      obtain ⟨i, hi⟩ := List.mem_iff_getElem?.1 hy
      exact ⟨i, fun e => hne (by subst e; rw [hk] at hi; exact (Option.some.inj hi).symm), hi⟩
  refine ⟨?_, ?_, fun y hy => t.rng y ((hsub y).1 hy).1, fun y => ?_, fun i y g hy hg z => ?_, ?_, fun g hg => t.hb g (List.mem_of_mem_eraseIdx hg)⟩
  · rw [List.length_eraseIdx, List.length_eraseIdx, t.len]
  · exact hnd.sublist (List.eraseIdx_sublist _ _)
  · by_cases e : y = x
    · subst e; rw [has_del_same]; simp [hsub]
    · rw [has_del_other (lit_ne e), t.has]; simp [hsub, e]
  · have hyI := (hsub y).1 (List.mem_of_getElem? hy)
    rw [atKey_del_other (lit_ne hyI.2)]
    rw [List.getElem?_eraseIdx] at hy hg
    split at hy
    · rename_i h1; rw [if_pos h1] at hg; exact t.at_ i y g hy hg z
    · rename_i h1; rw [if_neg h1] at hg; exact t.at_ (i + 1) y g hy hg z
  · have := size_del (k := .int .i64 x) ht
    rw [t.has, decide_eq_true hmem, if_pos rfl, t.size] at this
    rw [List.length_eraseIdx_of_lt hlt]; omega
/-- The hash at a number. -/
def Tr.val (D : DataW Unit) (x : Int) : Nat := match D.atKey (.int .i64 x) (.lit (.int .u64 0)) with | .lit (.int _ c) => c.toNat | _ => 0
theorem Tr.val_at {D : DataW Unit} {I Hs : List Int} (t : Tr D I Hs) {i : Nat} {x h : Int} (hi : I[i]? = some x) (hh : Hs[i]? = some h) : Tr.val D x = h.toNat := by
  unfold Tr.val; rw [t.at_ i x h hi hh]
theorem Tr.perm {D : DataW Unit} {I Hs : List Int} (t : Tr D I Hs) {P : Program} {k : TypeId} {R : Value → Option (DataW Unit × List MemPlace)} {w : World} {b n : Nat} (hown : w.ownsMap P k R b n D) (K : Keyed P k) (hk : P.underlying k = some (.int .i64)) : I.Perm (intKeys D) :=
  CollectedI.perm (left := fun _ => false) ⟨t.nd, fun x => by rw [t.has]; simp⟩ hown K hk (fun _ => rfl)
theorem sorted_leI (l : List Int) : (l.mergeSort leI).Pairwise (· ≤ ·) :=
  (List.pairwise_mergeSort (le := leI) (fun a b c h1 h2 => by simp [leI] at *; omega) (fun a b => by simp [leI]; omega) l).imp fun h => by simpa [leI] using h
/-- Two orders of one list are one. -/
theorem near_eq (I ys : List Int) (p : Int → Bool) (h : ys.Perm (I.filter p)) (hs : ys.Pairwise (· ≤ ·)) : (I.mergeSort leI).filter p = ys := by
  refine List.Perm.eq_of_pairwise (le := (· ≤ ·)) (fun a b _ _ h1 h2 => Int.le_antisymm h1 h2) ((sorted_leI I).filter p) hs ?_
  exact ((List.mergeSort_perm I leI).filter p).trans h.symm
end Go.Proofs.Ytbbedepojogfmaa

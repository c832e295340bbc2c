/- Diff and Patch: photos by what they say, libraries as lists, one change. Plain. -/
import Derived.Test.YtipmegkmkbbklaaPhRow
import Derived.Test.YtipmegkmkbbklaaFdSame
import Derived.Deep.Cut
namespace Go.Proofs.Ytipmegkmkbbklaa
open Go.RowKit Go.Sort Go.Shelf
set_option linter.unusedVariables false
/-- A photo without the places of its slices. -/
def Ph.core (p : Ph) : Ph := { p with wa := none, wc := 0, ta := none, tc := 0, pa := none, pc := 0 }
theorem Ph.same_core (p r : Ph) : p.same r = p.core.same r.core := rfl
theorem Ph.err_core (p : Ph) : p.core.err = p.err := rfl
theorem Ph.id_core (p : Ph) : p.core.id = p.id := rfl
theorem Ph.core_core (p : Ph) : p.core.core = p.core := rfl
theorem Ph.same_of_core {p r : Ph} (h : p.core = r.core) : p.same r = true := by rw [Ph.same_core, h]; exact Ph.same_self _
namespace Dd
abbrev Lib := List Ph
def cores (L : Lib) : Lib := L.map Ph.core
def Rise (L : Lib) : Prop := L.Pairwise fun p q => p.id < q.id
def Right (L : Lib) : Prop := ∀ p, p ∈ L → p.err = 0
def has (L : Lib) (id : Int) : Bool := L.any fun q => q.id == id
def pos (L : Lib) (id : Int) : Nat := (L.takeWhile fun q => decide (q.id < id)).length
theorem has_cores (L : Lib) (id : Int) : has (cores L) id = has L id := by
  unfold has cores; rw [List.any_map]; rfl
theorem pos_cores (L : Lib) (id : Int) : pos (cores L) id = pos L id := by
  unfold pos cores; rw [List.takeWhile_map, List.length_map]; rfl
theorem rise_cores {L : Lib} : Rise (cores L) ↔ Rise L := by
  unfold Rise cores; rw [List.pairwise_map]; rfl
theorem right_cores {L : Lib} : Right (cores L) ↔ Right L := by
  unfold Right cores
  constructor
  · intro h p hp; exact h p.core (List.mem_map_of_mem hp)
  · intro h p hp
    obtain ⟨q, hq, rfl⟩ := List.mem_map.1 hp
    exact h q hq
theorem pos_le (L : Lib) (id : Int) : pos L id ≤ L.length := (List.takeWhile_sublist _).length_le
theorem take_pos (L : Lib) (id : Int) : L.take (pos L id) = L.takeWhile fun q => decide (q.id < id) := by
  unfold pos
  induction L with
  | nil => rfl
  | cons q L ih =>
    rw [List.takeWhile_cons]
    split
    · rw [List.length_cons, List.take_succ_cons, ih]
    · rfl
theorem drop_pos (L : Lib) (id : Int) : L.drop (pos L id) = L.dropWhile fun q => decide (q.id < id) := by
  unfold pos
  induction L with
  | nil => rfl
  | cons q L ih =>
    rw [List.takeWhile_cons, List.dropWhile_cons]
    split
    · rw [List.length_cons, List.drop_succ_cons, ih]
    · rfl
theorem mem_takeWhile_lt {L : Lib} {id : Int} : ∀ q, q ∈ (L.takeWhile fun q => decide (q.id < id)) → q.id < id := by
  induction L with
  | nil => intro q h; simp at h
  | cons r L ih =>
    intro q h
    rw [List.takeWhile_cons] at h
    split at h
    · rename_i hr
      rcases List.mem_cons.1 h with rfl | h
      · exact of_decide_eq_true hr
      · exact ih q h
    · simp at h
theorem mem_dropWhile_ge {L : Lib} {id : Int} (hr : Rise L) : ∀ q, q ∈ (L.dropWhile fun q => decide (q.id < id)) → id ≤ q.id := by
  induction L with
  | nil => intro q h; simp at h
  | cons r L ih =>
    intro q h
    rw [List.dropWhile_cons] at h
    have h1 := (List.pairwise_cons.1 hr).1
    split at h
    · exact ih (List.pairwise_cons.1 hr).2 q h
    · rename_i hn
      have hn : id ≤ r.id := by simpa using hn
      rcases List.mem_cons.1 h with rfl | h
      · exact hn
      · have := h1 q h; omega
/-- A rising list around an Id: what is below it; what is not. -/
theorem split {L : Lib} (hr : Rise L) (id : Int) : ∃ A B, L = A ++ B ∧ A.length = pos L id ∧ L.take (pos L id) = A ∧ L.drop (pos L id) = B ∧ (∀ q, q ∈ A → q.id < id) ∧ (∀ q, q ∈ B → id ≤ q.id) := by
  refine ⟨L.take (pos L id), L.drop (pos L id), (List.take_append_drop _ _).symm, ?_, rfl, rfl, ?_, ?_⟩
  · rw [List.length_take]; exact Nat.min_eq_left (pos_le L id)
  · rw [take_pos]; exact mem_takeWhile_lt
  · rw [drop_pos]; exact mem_dropWhile_ge hr
theorem has_iff {L : Lib} {id : Int} : has L id = true ↔ ∃ q, q ∈ L ∧ q.id = id := by
  unfold has; rw [List.any_eq_true]
  constructor
  · rintro ⟨q, h1, h2⟩; exact ⟨q, h1, by simpa using h2⟩
  · rintro ⟨q, h1, h2⟩; exact ⟨q, h1, by simpa using h2⟩
/-- There: the element at the Id's place. -/
theorem there {L : Lib} (hr : Rise L) {id : Int} (h : has L id = true) : ∃ A q B, L = A ++ q :: B ∧ A.length = pos L id ∧ q.id = id ∧ (∀ r, r ∈ A → r.id < id) ∧ (∀ r, r ∈ B → id < r.id) := by
  obtain ⟨A, B, h1, h2, _, _, h3, h4⟩ := split hr id
  obtain ⟨q, hq, hid⟩ := has_iff.1 h
  cases B with
  | nil => rw [h1, List.append_nil] at hq; have := h3 q hq; omega
  | cons r B =>
    have hrr : ∀ s, s ∈ B → r.id < s.id := by
      have := hr
      rw [h1] at this
      exact (List.pairwise_cons.1 (List.pairwise_append.1 this).2.1).1
    have hge := h4 r (by simp)
    have : r.id = id := by
      rw [h1] at hq
      rcases List.mem_append.1 hq with g | g
      · have := h3 q g; omega
      · rcases List.mem_cons.1 g with rfl | g
        · exact hid
        · have := hrr q g; omega
    exact ⟨A, r, B, h1, h2, this, h3, fun s hs => by have := hrr s hs; omega⟩
theorem not_there {L : Lib} (hr : Rise L) {id : Int} (h : has L id = false) : ∃ A B, L = A ++ B ∧ A.length = pos L id ∧ (∀ r, r ∈ A → r.id < id) ∧ (∀ r, r ∈ B → id < r.id) := by
  obtain ⟨A, B, h1, h2, _, _, h3, h4⟩ := split hr id
  refine ⟨A, B, h1, h2, h3, fun r hrB => ?_⟩
  have := h4 r hrB
  by_cases e : r.id = id
  · have : has L id = true := has_iff.2 ⟨r, by rw [h1]; exact List.mem_append_right _ hrB, e⟩
    rw [h] at this; cases this
  · omega
/-- One change. -/
def patched (L : Lib) (drop : Bool) (p : Ph) : Lib :=
  if drop = true then L.take (pos L p.id) ++ L.drop (pos L p.id + 1)
  else if has L p.id = true then L.take (pos L p.id) ++ [p] ++ L.drop (pos L p.id + 1)
  else L.take (pos L p.id) ++ [p] ++ L.drop (pos L p.id)
theorem patched_cores (L : Lib) (d : Bool) (p : Ph) : cores (patched L d p) = patched (cores L) d p.core := by
  unfold patched
  rw [Ph.id_core, has_cores, pos_cores]
  split
  · simp [cores, List.map_take, List.map_drop]
  · split <;> simp [cores, List.map_take, List.map_drop]
theorem take_len {α : Type} {A B : List α} {n : Nat} (h : A.length = n) : (A ++ B).take n = A := by subst h; simp
theorem drop_len {α : Type} {A B : List α} {n : Nat} (h : A.length = n) : (A ++ B).drop n = B := by subst h; simp
theorem drop_len1 {α : Type} {A B : List α} {q : α} {n : Nat} (h : A.length = n) : (A ++ q :: B).drop (n + 1) = B := by subst h; simp
/-- The reference: without an Id. -/
def without (L : Lib) (id : Int) : Lib := L.filter fun q => !(q.id == id)
theorem filter_all {A : Lib} {id : Int} (h : ∀ r, r ∈ A → r.id ≠ id) : (A.filter fun q => !(q.id == id)) = A := by
  rw [List.filter_eq_self]
  intro r hr
  simpa using h r hr
theorem without_eq {L : Lib} (hr : Rise L) {p : Ph} (h : has L p.id = true) : patched L true p = without L p.id := by
  obtain ⟨A, q, B, h1, h2, h3, h4, h5⟩ := there hr h
  have e : patched L true p = L.take (pos L p.id) ++ L.drop (pos L p.id + 1) := rfl
  rw [e, ← h2, h1, take_len rfl, drop_len1 rfl, without, List.filter_append, List.filter_cons]
  rw [filter_all (fun r hr => by have := h4 r hr; omega), if_neg (by simp [h3]), filter_all (fun r hr => by have := h5 r hr; omega)]
/-- The reference: the loop of Put. -/
def putStep (p : Ph) (s : Lib × Bool) (q : Ph) : Lib × Bool :=
  (if q.id = p.id then (if s.2 = false ∧ p.id ≤ q.id then s.1 ++ [p] else s.1) else (if s.2 = false ∧ p.id ≤ q.id then s.1 ++ [p] else s.1) ++ [q], if s.2 = false ∧ p.id ≤ q.id then true else s.2)
def putSt (p : Ph) (L : Lib) : Lib × Bool := L.foldl (putStep p) ([], false)
def put (L : Lib) (p : Ph) : Lib := if (putSt p L).2 = true then (putSt p L).1 else (putSt p L).1 ++ [p]
theorem put_low (p : Ph) : ∀ (A out : Lib), (∀ r, r ∈ A → r.id < p.id) → A.foldl (putStep p) (out, false) = (out ++ A, false) := by
  intro A
  induction A with
  | nil => intro out _; simp
  | cons r A ih =>
    intro out h
    have hr := h r (by simp)
    have e : putStep p (out, false) r = (out ++ [r], false) := by
      unfold putStep
      rw [if_neg (by omega), if_neg (by simp; omega), if_neg (by simp; omega)]
    rw [List.foldl_cons, e, ih _ (fun s hs => h s (by simp [hs]))]; simp
theorem put_high (p : Ph) : ∀ (B out : Lib), (∀ r, r ∈ B → p.id < r.id) → B.foldl (putStep p) (out, true) = (out ++ B, true) := by
  intro B
  induction B with
  | nil => intro out _; simp
  | cons r B ih =>
    intro out h
    have hr := h r (by simp)
    have e : putStep p (out, true) r = (out ++ [r], true) := by
      unfold putStep
      rw [if_neg (by omega), if_neg (by simp), if_neg (by simp)]
    rw [List.foldl_cons, e, ih _ (fun s hs => h s (by simp [hs]))]; simp
theorem put_first (p q : Ph) (out : Lib) (h : p.id ≤ q.id) : putStep p (out, false) q = (if q.id = p.id then out ++ [p] else out ++ [p] ++ [q], true) := by
  unfold putStep
  simp [h]
theorem put_eq {L : Lib} (hr : Rise L) (p : Ph) : patched L false p = put L p := by
  cases h : has L p.id
  · obtain ⟨A, B, h1, h2, h4, h5⟩ := not_there hr h
    have e : patched L false p = L.take (pos L p.id) ++ [p] ++ L.drop (pos L p.id) := by unfold patched; rw [if_neg (by simp), if_neg (by rw [h]; simp)]
    rw [e, ← h2, h1, take_len rfl, drop_len rfl]
    unfold put putSt
    cases B with
    | nil => simp only [List.append_nil]; rw [put_low p A [] h4]; simp
    | cons q B =>
      have hq := h5 q (by simp)
      rw [List.foldl_append, put_low p A [] h4, List.foldl_cons, put_first p q _ (Int.le_of_lt hq), if_neg (show ¬ q.id = p.id by omega), put_high p B _ (fun r hr => h5 r (by simp [hr]))]
      simp
  · obtain ⟨A, q, B, h1, h2, h3, h4, h5⟩ := there hr h
    have e : patched L false p = L.take (pos L p.id) ++ [p] ++ L.drop (pos L p.id + 1) := by unfold patched; rw [if_neg (by simp), if_pos h]
    rw [e, ← h2, h1, take_len rfl, drop_len1 rfl]
    unfold put putSt
    rw [List.foldl_append, put_low p A [] h4, List.foldl_cons, put_first p q _ (by omega), if_pos h3, put_high p B _ h5]
    simp
theorem patched_rise {L : Lib} (hr : Rise L) (d : Bool) (p : Ph) (h : d = true → has L p.id = true) : Rise (patched L d p) := by
  have key : ∀ A B : Lib, Rise A → Rise B → (∀ r, r ∈ A → r.id < p.id) → (∀ r, r ∈ B → p.id < r.id) → Rise (A ++ B) ∧ Rise (A ++ [p] ++ B) := by
    intro A B hA hB h1 h2
    refine ⟨List.pairwise_append.2 ⟨hA, hB, fun a ha b hb => by have := h1 a ha; have := h2 b hb; omega⟩, ?_⟩
    rw [List.append_assoc]
    refine List.pairwise_append.2 ⟨hA, ?_, ?_⟩
    · exact List.pairwise_cons.2 ⟨h2, hB⟩
    · intro a ha b hb
      have := h1 a ha
      rcases List.mem_cons.1 hb with rfl | hb
      · exact this
      · have := h2 b hb; omega
  cases hh : has L p.id
  · obtain ⟨A, B, h1, h2, h4, h5⟩ := not_there hr hh
    have hd : d = false := by cases d; rfl; rw [h rfl] at hh; cases hh
    subst hd
    have e : patched L false p = L.take (pos L p.id) ++ [p] ++ L.drop (pos L p.id) := by unfold patched; rw [if_neg (by simp), if_neg (by rw [hh]; simp)]
    rw [e, ← h2]
    rw [h1] at hr ⊢
    rw [take_len rfl, drop_len rfl]
    obtain ⟨g1, g2, _⟩ := List.pairwise_append.1 hr
    exact (key A B g1 g2 h4 h5).2
  · obtain ⟨A, q, B, h1, h2, h3, h4, h5⟩ := there hr hh
    have hr' := hr
    rw [h1] at hr'
    obtain ⟨g1, g2, _⟩ := List.pairwise_append.1 hr'
    have g2 := (List.pairwise_cons.1 g2).2
    cases d
    · have e : patched L false p = L.take (pos L p.id) ++ [p] ++ L.drop (pos L p.id + 1) := by unfold patched; rw [if_neg (by simp), if_pos hh]
      rw [e, ← h2, h1, take_len rfl, drop_len1 rfl]
      exact (key A B g1 g2 h4 h5).2
    · have e : patched L true p = L.take (pos L p.id) ++ L.drop (pos L p.id + 1) := rfl
      rw [e, ← h2, h1, take_len rfl, drop_len1 rfl]
      exact (key A B g1 g2 h4 h5).1
theorem patched_mem {L : Lib} {d : Bool} {p q : Ph} (h : q ∈ patched L d p) : q ∈ L ∨ (d = false ∧ q = p) := by
  unfold patched at h
  split at h
  · rcases List.mem_append.1 h with h | h
    · exact .inl (List.mem_of_mem_take h)
    · exact .inl (List.mem_of_mem_drop h)
  · rename_i hd
    have hd : d = false := by simpa using hd
    split at h <;>
    · rcases List.mem_append.1 h with h | h
      · rcases List.mem_append.1 h with h | h
        · exact .inl (List.mem_of_mem_take h)
        · exact .inr ⟨hd, by simpa using h⟩
      · exact .inl (List.mem_of_mem_drop h)
theorem patched_len {L : Lib} (hr : Rise L) (p : Ph) : (patched L false p).length = if has L p.id = true then L.length else L.length + 1 := by
  cases hh : has L p.id
  · obtain ⟨A, B, h1, h2, h4, h5⟩ := not_there hr hh
    have e : patched L false p = L.take (pos L p.id) ++ [p] ++ L.drop (pos L p.id) := by unfold patched; rw [if_neg (by simp), if_neg (by rw [hh]; simp)]
    rw [e, ← h2, h1, take_len rfl, drop_len rfl]; simp <;> omega
  · obtain ⟨A, q, B, h1, h2, h3, h4, h5⟩ := there hr hh
    have e : patched L false p = L.take (pos L p.id) ++ [p] ++ L.drop (pos L p.id + 1) := by unfold patched; rw [if_neg (by simp), if_pos hh]
    rw [e, ← h2, h1, take_len rfl, drop_len1 rfl]; simp <;> omega
/-- The photo that says just an Id. -/
def only (id : Int) : Ph := { Ph.zero with id := id }
/-- The error of a change. -/
def chk (L : Lib) (d : Bool) (p : Ph) : Int :=
  if d = true then (if p.same (only p.id) = true then (if has L p.id = true then 0 else 7) else 1)
  else if p.err = 0 then (if has L p.id = false ∧ 1000 ≤ L.length then 12 else 0) else p.err
theorem chk_cores (L : Lib) (d : Bool) (p : Ph) : chk (cores L) d p.core = chk L d p := by
  unfold chk
  rw [Ph.id_core, has_cores, Ph.err_core]
  have h1 : p.core.same (only p.id) = p.same (only p.id) := rfl
  have h2 : (cores L).length = L.length := by unfold cores; exact List.length_map ..
  rw [h1, h2]
/-- Changes one after the other: the error, and what the library is then. -/
def run : Lib → List (Bool × Ph) → Int × Lib
  | L, [] => (0, L)
  | L, (d, p) :: cs => if chk L d p = 0 then run (patched L d p) cs else (chk L d p, [])
theorem run_ok {L : Lib} {d : Bool} {p : Ph} {cs : List (Bool × Ph)} (h : chk L d p = 0) : run L ((d, p) :: cs) = run (patched L d p) cs := by rw [run, if_pos h]
theorem run_bad {L : Lib} {d : Bool} {p : Ph} {cs : List (Bool × Ph)} (h : chk L d p ≠ 0) : run L ((d, p) :: cs) = (chk L d p, []) := by rw [run, if_neg h]
def coreC (C : List (Bool × Ph)) : List (Bool × Ph) := C.map fun c => (c.1, c.2.core)
theorem run_cores (C : List (Bool × Ph)) : ∀ L : Lib, run (cores L) (coreC C) = ((run L C).1, cores (run L C).2) := by
  induction C with
  | nil => intro L; rfl
  | cons c C ih =>
    intro L
    obtain ⟨d, p⟩ := c
    show run (cores L) ((d, p.core) :: coreC C) = _
    by_cases h : chk L d p = 0
    · rw [run_ok (by rw [chk_cores]; exact h), run_ok h, ← patched_cores, ih]
    · rw [run_bad (by rw [chk_cores]; exact h), run_bad h, chk_cores]; rfl
/-- What changes there are. -/
def diff (A B : Lib) : List (Bool × Ph) :=
  ((A.filter fun p => !has B p.id).map fun p => (true, only p.id)) ++ ((B.filter fun p => !(has A p.id && ((A[pos A p.id]?.getD Ph.zero).same p))).map fun p => (false, p))
theorem same_lists {L M : Lib} (h : cores L = cores M) : Fd.eqRow L.length M.length (fun i => (L[i]?.getD Ph.zero).same (M[i]?.getD Ph.zero)) = true := by
  have hl : L.length = M.length := by have := congrArg List.length h; simpa [cores] using this
  rw [hl]
  refine Fd.eqRow_yes fun j hj => Ph.same_of_core ?_
  have h1 : (cores L)[j]? = (cores M)[j]? := by rw [h]
  unfold cores at h1
  rw [List.getElem?_map, List.getElem?_map, List.getElem?_eq_getElem (by omega), List.getElem?_eq_getElem hj] at h1
  rw [List.getElem?_eq_getElem (by omega), List.getElem?_eq_getElem hj]
  simpa using h1
end Dd
end Go.Proofs.Ytipmegkmkbbklaa
namespace Go.Proofs.Ytipmegkmkbbklaa
open Go.RowKit Go.Sort Go.Shelf
set_option linter.unusedVariables false
namespace Dd
def at_ (L : Lib) (i : Nat) : Ph := L[i]?.getD Ph.zero
theorem at_mem {L : Lib} {i : Nat} (h : i < L.length) : at_ L i ∈ L := by unfold at_; rw [List.getElem?_eq_getElem h]; exact List.getElem_mem h
theorem mem_at {L : Lib} {q : Ph} (h : q ∈ L) : ∃ i, i < L.length ∧ at_ L i = q := by
  obtain ⟨i, hi, e⟩ := List.mem_iff_getElem.1 h
  exact ⟨i, hi, by unfold at_; rw [List.getElem?_eq_getElem hi]; exact e⟩
theorem take_at {L : Lib} {j : Nat} (h : j < L.length) : L.take (j + 1) = L.take j ++ [at_ L j] := by
  rw [List.take_add_one]; unfold at_; rw [List.getElem?_eq_getElem h]; rfl
theorem putSt_next {L : Lib} {p : Ph} {j : Nat} (h : j < L.length) : putSt p (L.take (j + 1)) = putStep p (putSt p (L.take j)) (at_ L j) := by
  rw [take_at h]; unfold putSt; rw [List.foldl_append]; rfl
theorem putStep_mem {p q r : Ph} {s : Lib × Bool} (h : r ∈ (putStep p s q).1) : r ∈ s.1 ∨ r = p ∨ r = q := by
  unfold putStep at h
  have key : ∀ {A : Lib}, A = (if s.2 = false ∧ p.id ≤ q.id then s.1 ++ [p] else s.1) → r ∈ A → r ∈ s.1 ∨ r = p := by
    intro A e hA
    subst e
    split at hA
    · rcases List.mem_append.1 hA with g | g
      · exact .inl g
      · exact .inr (by simpa using g)
    · exact .inl hA
  simp only at h
  split at h
  · rcases key rfl h with g | g
    · exact .inl g
    · exact .inr (.inl g)
  · rcases List.mem_append.1 h with g | g
    · rcases key rfl g with g | g
      · exact .inl g
      · exact .inr (.inl g)
    · exact .inr (.inr (by simpa using g))
theorem putSt_mem {p r : Ph} {L : Lib} (h : r ∈ (putSt p L).1) : r = p ∨ r ∈ L := by
  unfold putSt at h
  have key : ∀ (B : Lib) (s : Lib × Bool), r ∈ (B.foldl (putStep p) s).1 → r ∈ s.1 ∨ r = p ∨ r ∈ B := by
    intro B
    induction B with
    | nil => intro s h; exact .inl h
    | cons b B ih =>
      intro s h
      rcases ih _ h with g | g | g
      · rcases putStep_mem g with g | g | g
        · exact .inl g
        · exact .inr (.inl g)
        · exact .inr (.inr (by simp [g]))
      · exact .inr (.inl g)
      · exact .inr (.inr (by simp [g]))
  rcases key L _ h with g | g | g
  · simp at g
  · exact .inl g
  · exact .inr g
theorem put_mem {p r : Ph} {L : Lib} (h : r ∈ put L p) : r = p ∨ r ∈ L := by
  unfold put at h
  split at h
  · exact putSt_mem h
  · rcases List.mem_append.1 h with g | g
    · exact putSt_mem g
    · exact .inl (by simpa using g)
theorem putSt_len (p : Ph) (L : Lib) : (putSt p L).1.length ≤ L.length + 1 ∧ ((putSt p L).2 = false → (putSt p L).1.length ≤ L.length) := by
  unfold putSt
  have key : ∀ (B : Lib) (s : Lib × Bool) (k : Nat), (s.1.length ≤ k + 1 ∧ (s.2 = false → s.1.length ≤ k)) → ((B.foldl (putStep p) s).1.length ≤ k + B.length + 1 ∧ ((B.foldl (putStep p) s).2 = false → (B.foldl (putStep p) s).1.length ≤ k + B.length)) := by
    intro B
    induction B with
    | nil => intro s k h; exact h
    | cons b B ih =>
      intro s k h
      have := ih (putStep p s b) (k + 1) (by
        unfold putStep
        obtain ⟨M, d⟩ := s
        simp only at h ⊢
        cases d
        · have h2 := h.2 rfl
          by_cases c : p.id ≤ b.id
          · simp only [c, and_true, if_true]
            split <;> simp <;> omega
          · simp only [c, and_false, if_false]
            split <;> simp <;> omega
        · simp only [Bool.true_eq_false, false_and, if_false]
          split <;> simp <;> omega)
      rw [List.foldl_cons, List.length_cons]
      exact ⟨by omega, fun h => by have := this.2 h; omega⟩
  have := key L ([], false) 0 (by simp)
  simpa using this
end Dd
theorem own_ne_hi {w : World} {B k n : Nat} {e : TypeId} {v : Value} {xs : List Value} (h : w.ownsRow B e k v n xs) {b : Nat} (hb : w.heap.size ≤ b) : v.ownBlock ≠ some b := fun e => by have := (h.lt b e).2; omega
theorem own_ne_lo {w : World} {B k n : Nat} {e : TypeId} {v : Value} {xs : List Value} (h : w.ownsRow B e k v n xs) {b : Nat} (hb : b < B) : v.ownBlock ≠ some b := fun e => by have := (h.lt b e).1; omega
def PhlPost (w : World) (L : List Ph) (e : Ending) (w' : World) : Prop :=
  ∃ a ca, e = .returned (.slice a L.length ca) ∧ L.length ≤ ca ∧ ca ≤ 9223372036854775807 ∧ Phs w' a L.length (Dd.at_ L) ∧ Below w.heap.size w w'
set_option maxRecDepth 100000 in
set_option maxHeartbeats 4000000 in
theorem without_is (L : Dd.Lib) (id : Int) (a : Option Addr) (ca : Nat) (w : World) (hx : Phs w a L.length (Dd.at_ L)) (hn : L.length ≤ 1000000) :
    Calls Try.prog 51 #[.slice a L.length ca, .int .i64 id] w (PhlPost w (Dd.without L id)) := by
  obtain ⟨i0, hi0, hy0, hy1, hy2⟩ := info_parts infoPhoto
  have HI0 := Lib.hid hi0; have HI1 := Lib.hid hy0; have HI2 := Lib.hid hy1; have HI3 := Lib.hid hy2
  clear hi0 hy0 hy1 hy2
  have HX := Lib.hid hx
  have HT := Lib.hid (fun j (h : j < L.length) => Dd.take_at (L := L) h)
  obtain ⟨n, hLn⟩ : ∃ n, L.length = n := ⟨_, rfl⟩
  rw [hLn] at hn ⊢
  have HLN := Lib.hid hLn
  clear hx hLn
  go_enter Try.func51, Try.ntmps51
  go_wp2_with fail
  go_loopg [5, 10] n (fun gk v i wr => ∃ j : Nat, j ≤ n ∧ gk = n - j ∧ i = .int .i64 j ∧ wr.ownsRow w.heap.size 26 13 v (Dd.without (L.take j) id).length (Fd.phFlat (Dd.without (L.take j) id)) ∧ Below w.heap.size w wr)
  case atStart => exact ⟨0, by omega, rfl, rfl, World.ownsRow_nil _ _ _ _, Below.refl _ _⟩
  case round =>
    obtain ⟨j, hj, rfl, rfl, hown, hB⟩ := hrel
    have hle : (Dd.without (L.take j) id).length ≤ j := Nat.le_trans (List.length_filter_le _ _) (by rw [List.length_take]; omega)
    have hsz := hB.size
    by_cases hlt : j < n
    · have HXr := HX.out.keep hB
      obtain ⟨b, off, rfl, hb, hcell⟩ := HXr.row (by rw [HLN.out]; omega)
      obtain ⟨q0, q1, q2, q3, q4, q5, q6, q7, q8, q9, q10, q11, q12⟩ := hcell j (by rw [HLN.out]; exact hlt)
      have HY : Hid (Dd.without (L.take (j + 1)) id = Dd.without (L.take j) id ++ if (Dd.at_ L j).id = id then [] else [Dd.at_ L j]) := Lib.hid (by
        rw [HT.out j (by rw [HLN.out]; exact hlt)]; unfold Dd.without; rw [List.filter_append]
        by_cases e : (Dd.at_ L j).id = id
        · rw [if_pos e]; simp [e]
        · rw [if_neg e]; simp [e])
      clear hcell HXr
      generalize Dd.at_ L j = y at *
      generalize hM : Dd.without (L.take j) id = M at *
      obtain ⟨W4, hW4, hP, hz4, hB4⟩ := box wr #[.int .i64 y.id, .string y.file, .int .i64 y.mom, .int .i64 y.zone, .slice y.wa y.wn y.wc, .int .i64 y.W, .int .i64 y.H, .int .i64 y.turn, .int .i64 y.stars, .slice y.ta y.tn y.tc, .string y.cap, .slice y.pa y.pn y.pc, .bool y.hid] 26
      have HW4 := Lib.hid hW4
      have hB04 := below_up hB hB4
      have hsz4 := hB04.size
      have HOWN := Lib.hid (own_keepH hown hB4)
      clear hW4 hown hM hz4
      obtain ⟨m0, m1, m2, m3, m4, m5, m6, m7, m8, m9, m10, m11, m12⟩ := hP.photo
      go_upto_region 5 with fail
      rw [HW4.out]
      clear q0 q1 q2 q3 q4 q5 q6 q7 q8 q9 q10 q11 q12
      by_cases he : y.id = id
      · have HY2 := Lib.hid (HY.out.trans (by rw [if_pos he, List.append_nil]))
        have he2 : (y.id != id) = false := by simpa using he
        have HE := Lib.hid he
        clear he
        go_wp2_with fail
        go_roundg (n - (j + 1))
        case rel => exact ⟨j + 1, by omega, rfl, by go_num, by rw [HY2.out]; exact HOWN.out, hB04⟩
        case measure => omega
      · have HY2 := Lib.hid (HY.out.trans (by rw [if_neg he]))
        have he2 : (y.id != id) = true := by simpa using he
        clear he
        go_wp2_with (at_builtin; refine wpList_append_own2 _ rfl _ _ 37 rfl w.heap.size 26 i0 (.agg #[.int .i64 0, .string ByteArray.empty, .int .i64 0, .int .i64 0, .slice none 0 0, .int .i64 0, .int .i64 0, .int .i64 0, .int .i64 0, .slice none 0 0, .string ByteArray.empty, .slice none 0 0, .bool false]) 13 168 Try.underlying37 HI0.out HI1.out HI2.out HI3.out rfl (by decide) _ _ _ rfl (HOWN.out.alloc _) ⟨W4.heap.size, 0, none⟩ 1 1 (Fd.phCells y) rfl (by decide) rfl (cell_ph_new _ _ _) (phCells_one _) (by unfold maxLen; omega) (by omega) (by simp; omega) ?_; intro g8 cap8 w8 hown8 hgrow8 hnew8)
        have HOWN8 := Lib.hid hown8
        have HB8 := Lib.hid ((below_allocs hB04 (.cells #[.int .i64 y.id, .string y.file, .int .i64 y.mom, .int .i64 y.zone, .slice y.wa y.wn y.wc, .int .i64 y.W, .int .i64 y.H, .int .i64 y.turn, .int .i64 y.stars, .slice y.ta y.tn y.tc, .string y.cap, .slice y.pa y.pn y.pc, .bool y.hid] 26)).grown hgrow8 (by simp; omega) (fun k e => (HOWN.out.lt k e).1))
        clear hown8 hgrow8 hnew8
        go_roundg (n - (j + 1))
        case rel => exact ⟨j + 1, by omega, rfl, by go_num, by rw [HY2.out]; have := HOWN8.out; rw [← Fd.phFlat_snoc] at this; simpa using this, HB8.out⟩
        case measure => omega
    · obtain rfl : j = n := by omega
      rw [List.take_of_length_le (by rw [HLN.out]; exact Nat.le_refl _)] at hown
      obtain ⟨a1, c1, rfl, hk, hm, hrow⟩ := Phs.of_own hown (fun p hp => by
        obtain ⟨i, hi, rfl⟩ := Dd.mem_at (List.mem_filter.1 hp).1
        exact (HX.out.each i hi).keep hB)
      have HROW := Lib.hid hrow
      clear hown hrow
      go_wp2_with fail
      go_ret
      exact ⟨a1, c1, rfl, hk, hm, HROW.out, hB⟩
end Go.Proofs.Ytipmegkmkbbklaa
namespace Go.Proofs.Ytipmegkmkbbklaa
open Go.RowKit Go.Sort Go.Shelf
set_option linter.unusedVariables false
namespace Dd
theorem step_AB {p y : Ph} {M : Lib} (h : p.id ≤ y.id) (e : y.id = p.id) : putStep p (M, false) y = (M ++ [p], true) := by rw [put_first p y M h, if_pos e]
theorem step_B {p y : Ph} {M : Lib} (h : p.id ≤ y.id) (e : ¬ y.id = p.id) : putStep p (M, false) y = (M ++ [p] ++ [y], true) := by rw [put_first p y M h, if_neg e]
theorem step_C {p y : Ph} {M : Lib} (h : ¬ p.id ≤ y.id) : putStep p (M, false) y = (M ++ [y], false) := by
  unfold putStep; have e : ¬ y.id = p.id := by omega
  simp [h, e]
theorem step_D {p y : Ph} {M : Lib} (e : ¬ y.id = p.id) : putStep p (M, true) y = (M ++ [y], true) := by
  unfold putStep; simp [e]
theorem step_E {p y : Ph} {M : Lib} (e : y.id = p.id) : putStep p (M, true) y = (M, true) := by
  unfold putStep; simp [e]
end Dd
set_option maxRecDepth 100000 in
set_option maxHeartbeats 8000000 in
theorem put_is (L : Dd.Lib) (p : Ph) (a : Option Addr) (ca : Nat) (w : World) (hx : Phs w a L.length (Dd.at_ L)) (hp : p.In w) (hn : L.length ≤ 1000000) :
    Calls Try.prog 52 #[.slice a L.length ca, .agg #[.int .i64 p.id, .string p.file, .int .i64 p.mom, .int .i64 p.zone, .slice p.wa p.wn p.wc, .int .i64 p.W, .int .i64 p.H, .int .i64 p.turn, .int .i64 p.stars, .slice p.ta p.tn p.tc, .string p.cap, .slice p.pa p.pn p.pc, .bool p.hid]] w (PhlPost w (Dd.put L p)) := by
  obtain ⟨i0, hi0, hy0, hy1, hy2⟩ := info_parts infoPhoto
  have HI0 := Lib.hid hi0; have HI1 := Lib.hid hy0; have HI2 := Lib.hid hy1; have HI3 := Lib.hid hy2
  clear hi0 hy0 hy1 hy2
  have HX := Lib.hid hx
  have HT := Lib.hid (fun j (h : j < L.length) => Dd.putSt_next (L := L) (p := p) h)
  have HLE := Lib.hid (fun j => Dd.putSt_len p (L.take j))
  have HPI := Lib.hid hp
  obtain ⟨n, hLn⟩ : ∃ n, L.length = n := ⟨_, rfl⟩
  rw [hLn] at hn ⊢
  have HLN := Lib.hid hLn
  obtain ⟨W1, hW1, hK, hz1, hB1⟩ := box w #[.int .i64 p.id, .string p.file, .int .i64 p.mom, .int .i64 p.zone, .slice p.wa p.wn p.wc, .int .i64 p.W, .int .i64 p.H, .int .i64 p.turn, .int .i64 p.stars, .slice p.ta p.tn p.tc, .string p.cap, .slice p.pa p.pn p.pc, .bool p.hid] 26
  have HW1 := Lib.hid hW1
  obtain ⟨q0, q1, q2, q3, q4, q5, q6, q7, q8, q9, q10, q11, q12⟩ := hK.photo
  have hs1 : w.heap.size < W1.heap.size := hK.lt
  clear hx hLn hW1 hz1 hp
  go_enter Try.func52, Try.ntmps52
  go_upto_region 1 with fail
  rw [HW1.out]
  go_wp2_with fail
  clear q0 q1 q2 q3 q4 q5 q6 q7 q8 q9 q10 q11 q12
  go_loopg [5, 6, 11] n (fun gk v dn i wr => ∃ (j : Nat) (M : Dd.Lib) (d : Bool), j ≤ n ∧ gk = n - j ∧ dn = .bool d ∧ i = .int .i64 j ∧ Dd.putSt p (L.take j) = (M, d) ∧ wr.ownsRow W1.heap.size 26 13 v M.length (Fd.phFlat M) ∧ Below W1.heap.size W1 wr)
  case atStart => exact ⟨0, [], false, by omega, rfl, rfl, rfl, rfl, World.ownsRow_nil _ _ _ _, Below.refl _ _⟩
  case round =>
    obtain ⟨j, M, d, hj, rfl, rfl, rfl, hst, hown, hBr⟩ := hrel
    have hle : M.length ≤ j + 1 ∧ (d = false → M.length ≤ j) := by
      have := HLE.out j
      rw [hst, List.length_take, HLN.out] at this
      simp only at this
      rw [Nat.min_eq_left hj] at this
      exact this
    have hB := below_up hB1 hBr
    have hsr := hBr.size
    have hKr := hK.keep hBr
    by_cases hlt : j < n
    · have HXr := HX.out.keep hB
      obtain ⟨b, off, rfl, hb, hcell⟩ := HXr.row (by rw [HLN.out]; omega)
      obtain ⟨q0, q1, q2, q3, q4, q5, q6, q7, q8, q9, q10, q11, q12⟩ := hcell j (by rw [HLN.out]; exact hlt)
      have HY := Lib.hid (HT.out j (by rw [HLN.out]; exact hlt))
      rw [hst] at HY
      clear hcell HXr hst
      generalize Dd.at_ L j = y at *
      obtain ⟨W4, hW4, hP, hz4, hB4⟩ := box wr #[.int .i64 y.id, .string y.file, .int .i64 y.mom, .int .i64 y.zone, .slice y.wa y.wn y.wc, .int .i64 y.W, .int .i64 y.H, .int .i64 y.turn, .int .i64 y.stars, .slice y.ta y.tn y.tc, .string y.cap, .slice y.pa y.pn y.pc, .bool y.hid] 26
      have HW4 := Lib.hid hW4
      have hBr4 := below_up hBr hB4
      have hs4 := hBr4.size
      have hwr4 : wr.heap.size < W4.heap.size := hP.lt
      have HOWN := Lib.hid (own_keepH hown hB4)
      have HNE := Lib.hid (own_ne_hi hown (Nat.le_refl _))
      have hK4 := hKr.keep hB4
      clear hW4 hown hz4
      obtain ⟨m0, m1, m2, m3, m4, m5, m6, m7, m8, m9, m10, m11, m12⟩ := hP.photo
      obtain ⟨k0, k1, k2, k3, k4, k5, k6, k7, k8, k9, k10, k11, k12⟩ := hK4.photo
      go_upto_region 6 with fail
      rw [HW4.out]
      clear q0 q1 q2 q3 q4 q5 q6 q7 q8 q9 q10 q11 q12
      cases d
      · have hM := hle.2 rfl
        by_cases hge : p.id ≤ y.id
        · by_cases he : y.id = p.id
          · have he2 : (y.id != p.id) = false := by simpa using he
            have HSTP := Lib.hid (Dd.step_AB (M := M) hge he)
            have HE := Lib.hid he
            clear he
            go_wp2_with (at_builtin; refine wpList_append_own2 _ rfl _ _ 37 rfl W1.heap.size 26 i0 (.agg #[.int .i64 0, .string ByteArray.empty, .int .i64 0, .int .i64 0, .slice none 0 0, .int .i64 0, .int .i64 0, .int .i64 0, .int .i64 0, .slice none 0 0, .string ByteArray.empty, .slice none 0 0, .bool false]) 13 168 Try.underlying37 HI0.out HI1.out HI2.out HI3.out rfl (by decide) _ _ _ rfl (HOWN.out.alloc _) ⟨W4.heap.size, 0, none⟩ 1 1 (Fd.phCells p) rfl (by decide) rfl (cell_ph_new _ _ _) (phCells_one _) (by unfold maxLen; omega) (by omega) (by simp; omega) ?_; intro g8 cap8 w8 hown8 hgrow8 hnew8; obtain ⟨m0, m1, m2, m3, m4, m5, m6, m7, m8, m9, m10, m11, m12⟩ := ((hP.alloc _).beside hgrow8 HNE.out).photo; obtain ⟨k0, k1, k2, k3, k4, k5, k6, k7, k8, k9, k10, k11, k12⟩ := ((hK4.alloc _).beside hgrow8 (own_ne_lo HOWN.out hs1)).photo)
            -- x: the own fact ahead; x: the world; p: the photo; : what follows
            have HOWN8 : Hid (w8.ownsRow W1.heap.size 26 13 _ (M ++ [p]).length (Fd.phFlat (M ++ [p]))) := Lib.hid (by rw [Fd.phFlat_snoc, List.length_append, List.length_singleton]; exact hown8)
            have HB8 := Lib.hid ((below_allocs hBr4 (.cells #[.int .i64 p.id, .string p.file, .int .i64 p.mom, .int .i64 p.zone, .slice p.wa p.wn p.wc, .int .i64 p.W, .int .i64 p.H, .int .i64 p.turn, .int .i64 p.stars, .slice p.ta p.tn p.tc, .string p.cap, .slice p.pa p.pn p.pc, .bool p.hid] 26)).grown hgrow8 (by simp; omega) (fun k e => (HOWN.out.lt k e).1))
            clear hown8 hgrow8 hnew8
            -- HSTP.out: the next state's equation; true: done then; HOWN8.out: own; HB8.out: below; : the appended list's equation
            go_roundg (n - (j + 1))
            case rel => exact ⟨j + 1, _, true, by omega, rfl, rfl, by go_num, HY.out.trans HSTP.out, HOWN8.out, HB8.out⟩
            case measure => omega
          · have he2 : (y.id != p.id) = true := by simpa using he
            have HSTP := Lib.hid (Dd.step_B (M := M) hge he)
            have HE := Lib.hid he
            clear he
            go_wp2_with (first
              | (at_builtin; refine wpList_append_own2 _ rfl _ _ 37 rfl W1.heap.size 26 i0 (.agg #[.int .i64 0, .string ByteArray.empty, .int .i64 0, .int .i64 0, .slice none 0 0, .int .i64 0, .int .i64 0, .int .i64 0, .int .i64 0, .slice none 0 0, .string ByteArray.empty, .slice none 0 0, .bool false]) 13 168 Try.underlying37 HI0.out HI1.out HI2.out HI3.out rfl (by decide) _ _ _ rfl (HOWN.out.alloc _) ⟨W4.heap.size, 0, none⟩ 1 1 (Fd.phCells p) rfl (by decide) rfl (cell_ph_new _ _ _) (phCells_one _) (by unfold maxLen; omega) (by omega) (by simp; omega) ?_; intro g8 cap8 w8 hown8 hgrow8 hnew8; have hP8 := (hP.alloc (.cells #[.int .i64 p.id, .string p.file, .int .i64 p.mom, .int .i64 p.zone, .slice p.wa p.wn p.wc, .int .i64 p.W, .int .i64 p.H, .int .i64 p.turn, .int .i64 p.stars, .slice p.ta p.tn p.tc, .string p.cap, .slice p.pa p.pn p.pc, .bool p.hid] 26)).beside hgrow8 HNE.out; obtain ⟨m0, m1, m2, m3, m4, m5, m6, m7, m8, m9, m10, m11, m12⟩ := hP8.photo; obtain ⟨k0, k1, k2, k3, k4, k5, k6, k7, k8, k9, k10, k11, k12⟩ := ((hK4.alloc _).beside hgrow8 (own_ne_lo HOWN.out hs1)).photo; have HB8 := Lib.hid ((below_allocs hBr4 (.cells #[.int .i64 p.id, .string p.file, .int .i64 p.mom, .int .i64 p.zone, .slice p.wa p.wn p.wc, .int .i64 p.W, .int .i64 p.H, .int .i64 p.turn, .int .i64 p.stars, .slice p.ta p.tn p.tc, .string p.cap, .slice p.pa p.pn p.pc, .bool p.hid] 26)).grown hgrow8 (by simp; omega) (fun k e => (HOWN.out.lt k e).1)); have hs8 := HB8.out.size)
              | (at_builtin; refine wpList_append_own2 _ rfl _ _ 37 rfl W1.heap.size 26 i0 (.agg #[.int .i64 0, .string ByteArray.empty, .int .i64 0, .int .i64 0, .slice none 0 0, .int .i64 0, .int .i64 0, .int .i64 0, .int .i64 0, .slice none 0 0, .string ByteArray.empty, .slice none 0 0, .bool false]) 13 168 Try.underlying37 HI0.out HI1.out HI2.out HI3.out rfl (by decide) _ _ _ rfl (hown8.alloc _) ⟨w8.heap.size, 0, none⟩ 1 1 (Fd.phCells y) rfl (by decide) rfl (cell_ph_new _ _ _) (phCells_one _) (by unfold maxLen; omega) (by omega) (by simp; omega) ?_; intro g9 cap9 w9 hown9 hgrow9 hnew9))
            have HOWN9 : Hid (w9.ownsRow W1.heap.size 26 13 _ (M ++ [p] ++ [y]).length (Fd.phFlat (M ++ [p] ++ [y]))) := Lib.hid (by rw [Fd.phFlat_snoc, Fd.phFlat_snoc, List.length_append, List.length_append, List.length_singleton, List.length_singleton]; exact hown9)
            have HB9 := Lib.hid ((below_allocs HB8.out (.cells #[.int .i64 y.id, .string y.file, .int .i64 y.mom, .int .i64 y.zone, .slice y.wa y.wn y.wc, .int .i64 y.W, .int .i64 y.H, .int .i64 y.turn, .int .i64 y.stars, .slice y.ta y.tn y.tc, .string y.cap, .slice y.pa y.pn y.pc, .bool y.hid] 26)).grown hgrow9 (by simp; omega) (fun k e => (hown8.lt k e).1))
            clear hown8 hgrow8 hnew8 hown9 hgrow9 hnew9
            -- HSTP.out: the next state's equation; true: done then; HOWN9.out: own; HB9.out: below; : the appended list's equation
            go_roundg (n - (j + 1))
            case rel => exact ⟨j + 1, _, true, by omega, rfl, rfl, by go_num, HY.out.trans HSTP.out, HOWN9.out, HB9.out⟩
            case measure => omega
        · have he : ¬ y.id = p.id := by omega
          have he2 : (y.id != p.id) = true := by simpa using he
          have HSTP := Lib.hid (Dd.step_C (M := M) hge)
          have hge2 : ¬ p.id ≤ y.id := hge
          clear he
          go_wp2_with (at_builtin; refine wpList_append_own2 _ rfl _ _ 37 rfl W1.heap.size 26 i0 (.agg #[.int .i64 0, .string ByteArray.empty, .int .i64 0, .int .i64 0, .slice none 0 0, .int .i64 0, .int .i64 0, .int .i64 0, .int .i64 0, .slice none 0 0, .string ByteArray.empty, .slice none 0 0, .bool false]) 13 168 Try.underlying37 HI0.out HI1.out HI2.out HI3.out rfl (by decide) _ _ _ rfl (HOWN.out.alloc _) ⟨W4.heap.size, 0, none⟩ 1 1 (Fd.phCells y) rfl (by decide) rfl (cell_ph_new _ _ _) (phCells_one _) (by unfold maxLen; omega) (by omega) (by simp; omega) ?_; intro g8 cap8 w8 hown8 hgrow8 hnew8)
          -- x: the own fact ahead; x: the world; y: the photo; : what follows
          have HOWN8 : Hid (w8.ownsRow W1.heap.size 26 13 _ (M ++ [y]).length (Fd.phFlat (M ++ [y]))) := Lib.hid (by rw [Fd.phFlat_snoc, List.length_append, List.length_singleton]; exact hown8)
          have HB8 := Lib.hid ((below_allocs hBr4 (.cells #[.int .i64 y.id, .string y.file, .int .i64 y.mom, .int .i64 y.zone, .slice y.wa y.wn y.wc, .int .i64 y.W, .int .i64 y.H, .int .i64 y.turn, .int .i64 y.stars, .slice y.ta y.tn y.tc, .string y.cap, .slice y.pa y.pn y.pc, .bool y.hid] 26)).grown hgrow8 (by simp; omega) (fun k e => (HOWN.out.lt k e).1))
          clear hown8 hgrow8 hnew8
          -- HSTP.out: the next state's equation; false: done then; HOWN8.out: own; HB8.out: below; : the appended list's equation
          go_roundg (n - (j + 1))
          case rel => exact ⟨j + 1, _, false, by omega, rfl, rfl, by go_num, HY.out.trans HSTP.out, HOWN8.out, HB8.out⟩
          case measure => omega
      · by_cases he : y.id = p.id
        · have he2 : (y.id != p.id) = false := by simpa using he
          have HSTP := Lib.hid (Dd.step_E (M := M) he)
          have HE := Lib.hid he
          clear he
          go_wp2_with fail
          -- HSTP.out: the next state's equation; true: done then; HOWN.out: own; hBr4: below; : the appended list's equation
          go_roundg (n - (j + 1))
          case rel => exact ⟨j + 1, _, true, by omega, rfl, rfl, by go_num, HY.out.trans HSTP.out, HOWN.out, hBr4⟩
          case measure => omega
        · have he2 : (y.id != p.id) = true := by simpa using he
          have HSTP := Lib.hid (Dd.step_D (M := M) he)
          clear he
          go_wp2_with (at_builtin; refine wpList_append_own2 _ rfl _ _ 37 rfl W1.heap.size 26 i0 (.agg #[.int .i64 0, .string ByteArray.empty, .int .i64 0, .int .i64 0, .slice none 0 0, .int .i64 0, .int .i64 0, .int .i64 0, .int .i64 0, .slice none 0 0, .string ByteArray.empty, .slice none 0 0, .bool false]) 13 168 Try.underlying37 HI0.out HI1.out HI2.out HI3.out rfl (by decide) _ _ _ rfl (HOWN.out.alloc _) ⟨W4.heap.size, 0, none⟩ 1 1 (Fd.phCells y) rfl (by decide) rfl (cell_ph_new _ _ _) (phCells_one _) (by unfold maxLen; omega) (by omega) (by simp; omega) ?_; intro g8 cap8 w8 hown8 hgrow8 hnew8)
          -- x: the own fact ahead; x: the world; y: the photo; : what follows
          have HOWN8 : Hid (w8.ownsRow W1.heap.size 26 13 _ (M ++ [y]).length (Fd.phFlat (M ++ [y]))) := Lib.hid (by rw [Fd.phFlat_snoc, List.length_append, List.length_singleton]; exact hown8)
          have HB8 := Lib.hid ((below_allocs hBr4 (.cells #[.int .i64 y.id, .string y.file, .int .i64 y.mom, .int .i64 y.zone, .slice y.wa y.wn y.wc, .int .i64 y.W, .int .i64 y.H, .int .i64 y.turn, .int .i64 y.stars, .slice y.ta y.tn y.tc, .string y.cap, .slice y.pa y.pn y.pc, .bool y.hid] 26)).grown hgrow8 (by simp; omega) (fun k e => (HOWN.out.lt k e).1))
          clear hown8 hgrow8 hnew8
          -- HSTP.out: the next state's equation; true: done then; HOWN8.out: own; HB8.out: below; : the appended list's equation
          go_roundg (n - (j + 1))
          case rel => exact ⟨j + 1, _, true, by omega, rfl, rfl, by go_num, HY.out.trans HSTP.out, HOWN8.out, HB8.out⟩
          case measure => omega
    · obtain rfl : j = n := by omega
      rw [List.take_of_length_le (by rw [HLN.out]; exact Nat.le_refl _)] at hst
      have HALL := Lib.hid (fun (q : Ph) (hq : q ∈ Dd.put L p) => show q.In wr by
        rcases Dd.put_mem hq with rfl | hq
        · exact HPI.out.keep hB
        · obtain ⟨i, hi, rfl⟩ := Dd.mem_at hq
          exact (HX.out.each i hi).keep hB)
      cases d
      · have HPUT : Hid (Dd.put L p = M ++ [p]) := Lib.hid (by unfold Dd.put; rw [hst]; rfl)
        have hM := hle.2 rfl
        have HOWN := Lib.hid hown
        have HST := Lib.hid hst
        clear hown hst
        obtain ⟨k0, k1, k2, k3, k4, k5, k6, k7, k8, k9, k10, k11, k12⟩ := hKr.photo
        go_wp2_with (at_builtin; refine wpList_append_own2 _ rfl _ _ 37 rfl W1.heap.size 26 i0 (.agg #[.int .i64 0, .string ByteArray.empty, .int .i64 0, .int .i64 0, .slice none 0 0, .int .i64 0, .int .i64 0, .int .i64 0, .int .i64 0, .slice none 0 0, .string ByteArray.empty, .slice none 0 0, .bool false]) 13 168 Try.underlying37 HI0.out HI1.out HI2.out HI3.out rfl (by decide) _ _ _ rfl (HOWN.out.alloc _) ⟨wr.heap.size, 0, none⟩ 1 1 (Fd.phCells p) rfl (by decide) rfl (cell_ph_new _ _ _) (phCells_one _) (by unfold maxLen; omega) (by omega) (by simp; omega) ?_; intro g8 cap8 w8 hown8 hgrow8 hnew8)
        have hB8 := (below_allocs hBr (.cells #[.int .i64 p.id, .string p.file, .int .i64 p.mom, .int .i64 p.zone, .slice p.wa p.wn p.wc, .int .i64 p.W, .int .i64 p.H, .int .i64 p.turn, .int .i64 p.stars, .slice p.ta p.tn p.tc, .string p.cap, .slice p.pa p.pn p.pc, .bool p.hid] 26)).grown hgrow8 (by simp; omega) (fun k e => (HOWN.out.lt k e).1)
        have hown9 : w8.ownsRow W1.heap.size 26 13 (.slice (some ⟨g8, 0, none⟩) (M.length + 1) cap8) (M ++ [p]).length (Fd.phFlat (M ++ [p])) := by rw [Fd.phFlat_snoc, List.length_append, List.length_singleton]; exact hown8
        obtain ⟨a1, c1, e1, hk, hm, hrow⟩ := Phs.of_own hown9 (fun q hq => by
          have hBw := below_up hB1 hB8
          rw [← HPUT.out] at hq
          rcases Dd.put_mem hq with rfl | hq
          · exact HPI.out.keep hBw
          · obtain ⟨i, hi, rfl⟩ := Dd.mem_at hq
            exact (HX.out.each i hi).keep hBw)
        go_ret
        rw [HPUT.out]
        exact ⟨a1, c1, by rw [← e1]; rfl, hk, hm, hrow, below_up hB1 hB8⟩
      · have HPUT : Hid (Dd.put L p = M) := Lib.hid (by unfold Dd.put; rw [hst]; rfl)
        obtain ⟨a1, c1, rfl, hk, hm, hrow⟩ := Phs.of_own hown (fun q hq => HALL.out q (by rw [HPUT.out]; exact hq))
        have HROW := Lib.hid hrow
        clear hown hrow hst
        go_wp2_with fail
        go_ret
        rw [HPUT.out]
        exact ⟨a1, c1, rfl, hk, hm, HROW.out, hB⟩
end Go.Proofs.Ytipmegkmkbbklaa
namespace Go.Proofs.Ytipmegkmkbbklaa
open Go.RowKit Go.Sort Go.Shelf
set_option linter.unusedVariables false
theorem egIdx : ∀ args w, (callFunc 83 args).run Try.prog w = .ok (.enter 83 args) w := enters_of Try.func83 (by kernel_rfl) rfl
theorem idx1_is (p : Ph) (id s : Int) (hs : IntKind.i64.wrap (p.id - id) = s) (w : World) : Calls Try.prog 83 #[.agg #[.int .i64 p.id, .string p.file, .int .i64 p.mom, .int .i64 p.zone, .slice p.wa p.wn p.wc, .int .i64 p.W, .int .i64 p.H, .int .i64 p.turn, .int .i64 p.stars, .slice p.ta p.tn p.tc, .string p.cap, .slice p.pa p.pn p.pc, .bool p.hid], .int .i64 id] w fun e w' => e = .returned (.int .i64 s) ∧ Below w.heap.size w w' := by
  -- a photo's box: W1, its 13 cells
  obtain ⟨W1, hW1, hP, hz1, hB1⟩ := box w #[.int .i64 p.id, .string p.file, .int .i64 p.mom, .int .i64 p.zone, .slice p.wa p.wn p.wc, .int .i64 p.W, .int .i64 p.H, .int .i64 p.turn, .int .i64 p.stars, .slice p.ta p.tn p.tc, .string p.cap, .slice p.pa p.pn p.pc, .bool p.hid] 26
  have HW1 := Lib.hid hW1
  clear hW1 hz1
  obtain ⟨q0, q1, q2, q3, q4, q5, q6, q7, q8, q9, q10, q11, q12⟩ := hP.photo
  go_enter Try.func83, Try.ntmps83
  go_upto_region 1 with fail
  rw [HW1.out]
  go_wp2_with fail
  go_ret
  exact ⟨rfl, hB1⟩
set_option maxRecDepth 100000 in
set_option maxHeartbeats 4000000 in
theorem bsPh_is (a : Option Addr) (n ca : Nat) (x : Nat → Ph) (id : Int) (hid : -9223372036854775808 ≤ id ∧ id ≤ 9223372036854775807) (w : World) (hx : Phs w a n x) (hn : n ≤ 1000) (hr : ∀ i, i < n → 1 ≤ (x i).id ∧ (x i).id ≤ 1000000) (hs : ∀ i j, i ≤ j → j < n → (x i).id ≤ (x j).id) :
    Calls Try.prog 82 #[.slice a n ca, .int .i64 id, .func (.func 83) #[] #[]] w fun e w' => (∃ (i : Nat) (q : Bool), e = .returned (.tuple #[.int .i64 i, .bool q]) ∧ q = decide (i < n ∧ (x i).id = id) ∧ i ≤ n ∧ (1 ≤ id ∧ id ≤ 1000000 → (∀ k, k < i → (x k).id < id) ∧ (∀ k, i ≤ k → k < n → id ≤ (x k).id))) ∧ Below w.heap.size w w' := by
  have HX := Lib.hid hx; have HR := Lib.hid hr; have HS := Lib.hid hs; have HID := Lib.hid hid
  clear hx hr hs hid
  have eg := egIdx
  go_enter Try.func82, Try.ntmps82
  go_wp2_with fail
  go_loopg [9, 10] n (fun g s7 s8 wr => ∃ lo hi : Nat, s7 = .int .i64 lo ∧ s8 = .int .i64 hi ∧ lo ≤ hi ∧ hi ≤ n ∧ g = 0 + (hi - lo) ∧ Below w.heap.size w wr ∧ (1 ≤ id ∧ id ≤ 1000000 → (∀ k, k < lo → (x k).id < id) ∧ (∀ k, hi ≤ k → k < n → id ≤ (x k).id)))
  case atStart => exact ⟨0, n, rfl, rfl, Nat.zero_le _, Nat.le_refl _, by omega, Below.refl _ _, fun _ => ⟨fun t ht => absurd ht (Nat.not_lt_zero _), fun t h1 h2 => by omega⟩⟩
  case round =>
    obtain ⟨lo, hi, rfl, rfl, hlh, hin, rfl, hB, h1⟩ := hrel
    have I1 := Lib.hid h1
    clear h1
    by_cases hlt : lo < hi
    · have hXr := HX.out.keep hB
      obtain ⟨b, off, rfl, hb, hcell⟩ := hXr.row (by omega)
      obtain ⟨q0, q1, q2, q3, q4, q5, q6, q7, q8, q9, q10, q11, q12⟩ := hcell ((lo + hi) / 2) (by omega)
      clear hcell hXr
      obtain ⟨y, hy⟩ : ∃ y, x ((lo + hi) / 2) = y := ⟨_, rfl⟩
      rw [hy] at q0 q1 q2 q3 q4 q5 q6 q7 q8 q9 q10 q11 q12
      have HY := Lib.hid hy; clear hy
      obtain ⟨s, hsg⟩ : ∃ s, IntKind.i64.wrap (y.id - id) = s := ⟨_, rfl⟩
      have HC := Lib.hid (fun W => idx1_is y id s hsg W)
      have HSG := Lib.hid hsg
      clear hsg
      by_cases hyx : s < 0
      · go_wp2_with fail
        refine (HC.out _).mono ?_
        rintro e w4 ⟨rfl, hB4⟩
        go_wp2_with fail
        have hBn := below_up hB hB4
        go_roundg (hi - ((lo + hi) / 2 + 1))
        case measure => omega
        case rel =>
          refine ⟨(lo + hi) / 2 + 1, hi, by rw [show ((lo : Int) + (hi : Int)) / 2 + 1 = (((lo + hi) / 2 + 1 : Nat) : Int) by omega], rfl, by omega, hin, by omega, hBn, fun hg => ⟨fun t ht => ?_, (I1.out hg).2⟩⟩
          have h2 := HS.out t ((lo + hi) / 2) (by omega) (by omega)
          have h3 := HR.out ((lo + hi) / 2) (by omega)
          rw [HY.out] at h2 h3
          have h4 := HSG.out
          rw [IntKind.wrap_i64] at h4
          omega
      · go_wp2_with fail
        refine (HC.out _).mono ?_
        rintro e w4 ⟨rfl, hB4⟩
        go_wp2_with fail
        have hBn := below_up hB hB4
        go_roundg ((lo + hi) / 2 - lo)
        case measure => omega
        case rel =>
          refine ⟨lo, (lo + hi) / 2, rfl, by rw [show ((lo : Int) + (hi : Int)) / 2 = (((lo + hi) / 2 : Nat) : Int) by omega], by omega, by omega, by omega, hBn, fun hg => ⟨(I1.out hg).1, fun t ht htn => ?_⟩⟩
          have h2 := HS.out ((lo + hi) / 2) t ht htn
          have h3 := HR.out ((lo + hi) / 2) (by omega)
          rw [HY.out] at h2 h3
          have h4 := HSG.out
          rw [IntKind.wrap_i64] at h4
          omega
    · have : hi = lo := by omega
      subst this
      by_cases hnn : hi < n
      · have hXr := HX.out.keep hB
        obtain ⟨b, off, rfl, hb, hcell⟩ := hXr.row (by omega)
        obtain ⟨q0, q1, q2, q3, q4, q5, q6, q7, q8, q9, q10, q11, q12⟩ := hcell hi hnn
        clear hcell hXr
        obtain ⟨y, hy⟩ : ∃ y, x hi = y := ⟨_, rfl⟩
        rw [hy] at q0 q1 q2 q3 q4 q5 q6 q7 q8 q9 q10 q11 q12
        have HY := Lib.hid hy; clear hy
        obtain ⟨s, hsg⟩ : ∃ s, IntKind.i64.wrap (y.id - id) = s := ⟨_, rfl⟩
        have HC := Lib.hid (fun W => idx1_is y id s hsg W)
        have HSG := Lib.hid hsg
        clear hsg
        have hnz : ((hi : Int) < (n : Int)) = True := by simp; omega
        have HV : Hid ((s == 0) = decide (hi < n ∧ (x hi).id = id)) := Lib.hid (by
          have h3 := HR.out hi hnn
          rw [HY.out] at h3 ⊢
          have h4 := HSG.out
          rw [IntKind.wrap_i64] at h4
          have h5 := HID.out
          by_cases e : y.id = id
          · rw [decide_eq_true ⟨hnn, e⟩]
            have : s = 0 := by omega
            subst this; rfl
          · rw [decide_eq_false (fun h => e h.2)]
            have : s ≠ 0 := by omega
            simpa using this)
        by_cases hs0 : s = 0
        · have hs1 : (s == 0) = true := by simpa using hs0
          go_wp2_with fail
          refine (HC.out _).mono ?_
          rintro e w4 ⟨rfl, hB4⟩
          go_wp2_with fail
          go_ret2
          exact ⟨⟨hi, _, rfl, by rw [← HV.out, hs1], hin, I1.out⟩, below_up hB hB4⟩
        · have hs1 : (s == 0) = false := by simpa using hs0
          go_wp2_with fail
          refine (HC.out _).mono ?_
          rintro e w4 ⟨rfl, hB4⟩
          go_wp2_with fail
          go_ret2
          exact ⟨⟨hi, _, rfl, by rw [← HV.out, hs1], hin, I1.out⟩, below_up hB hB4⟩
      · obtain rfl : n = hi := by omega
        go_wp2_with fail
        go_ret2
        exact ⟨⟨n, _, rfl, by rw [decide_eq_false (fun h => absurd h.1 (Nat.lt_irrefl _))], Nat.le_refl _, I1.out⟩, hB⟩
namespace Dd
theorem rise_at {L : Lib} (hr : Rise L) {i j : Nat} (h : i ≤ j) (hj : j < L.length) : (at_ L i).id ≤ (at_ L j).id := by
  rcases Nat.lt_or_ge i j with g | g
  · have := List.pairwise_iff_getElem.1 hr i j (by omega) hj g
    unfold at_; rw [List.getElem?_eq_getElem (by omega), List.getElem?_eq_getElem hj]
    exact Int.le_of_lt this
  · have : i = j := by omega
    subst this; exact Int.le_refl _
theorem right_id {L : Lib} (h : Right L) {q : Ph} (hq : q ∈ L) : 1 ≤ q.id ∧ q.id ≤ 1000000 := by
  have := h q hq
  unfold Ph.err at this
  split at this
  · rename_i g; exact of_decide_eq_true g
  · cases this
theorem pos_of {L : Lib} (hr : Rise L) {id : Int} {i : Nat} (hi : i ≤ L.length) (h1 : ∀ k, k < i → (at_ L k).id < id) (h2 : ∀ k, i ≤ k → k < L.length → id ≤ (at_ L k).id) : pos L id = i := by
  obtain ⟨A, B, e1, e2, _, _, h3, h4⟩ := split hr id
  have hl : L.length = A.length + B.length := by rw [e1, List.length_append]
  rcases Nat.lt_trichotomy (pos L id) i with g | g | g
  · have hB : 0 < B.length := by omega
    have hb : at_ L (pos L id) = B[0] := by
      unfold at_
      rw [← e2]
      conv => lhs; rw [e1]
      rw [List.getElem?_append_right (Nat.le_refl _), Nat.sub_self, List.getElem?_eq_getElem hB]; rfl
    have := h1 _ g
    rw [hb] at this
    have := h4 B[0] (List.getElem_mem hB)
    omega
  · exact g
  · have hA : i < A.length := by omega
    have ha : at_ L i = A[i] := by
      unfold at_
      conv => lhs; rw [e1]
      rw [List.getElem?_append_left hA, List.getElem?_eq_getElem hA]; rfl
    have := h2 i (Nat.le_refl _) (by omega)
    rw [ha] at this
    have := h3 A[i] (List.getElem_mem hA)
    omega
end Dd
/-- What IndexOf answers. -/
def IdxPost (L : Dd.Lib) (id : Int) (w : World) (e : Ending) (w' : World) : Prop :=
  ∃ i : Nat, e = .returned (.tuple #[.int .i64 i, .bool (Dd.has L id)]) ∧ i ≤ L.length ∧ (1 ≤ id ∧ id ≤ 1000000 → i = Dd.pos L id) ∧ (Dd.has L id = true → i < L.length ∧ (Dd.at_ L i).id = id ∧ i = Dd.pos L id) ∧ Below w.heap.size w w'
theorem indexOf_is (L : Dd.Lib) (a : Option Addr) (ca : Nat) (id : Int) (hid : -9223372036854775808 ≤ id ∧ id ≤ 9223372036854775807) (w : World) (hx : Phs w a L.length (Dd.at_ L)) (hn : L.length ≤ 1000) (hR : Dd.Right L) (hs : Dd.Rise L) :
    Calls Try.prog 41 #[.slice a L.length ca, .int .i64 id] w (IdxPost L id w) := by
  have HC := Lib.hid (bsPh_is a L.length ca (Dd.at_ L) id hid w hx hn (fun i hi => Dd.right_id hR (Dd.at_mem hi)) (fun i j h hj => Dd.rise_at hs h hj))
  have HP := Lib.hid (fun (i : Nat) hi h1 h2 => Dd.pos_of (id := id) hs (i := i) hi h1 h2)
  have HH := Lib.hid (fun (i : Nat) (hi : i ≤ L.length) (hg : 1 ≤ id ∧ id ≤ 1000000 → (∀ k, k < i → (Dd.at_ L k).id < id) ∧ (∀ k, i ≤ k → k < L.length → id ≤ (Dd.at_ L k).id)) => show Dd.has L id = decide (i < L.length ∧ (Dd.at_ L i).id = id) by
    by_cases e : i < L.length ∧ (Dd.at_ L i).id = id
    · rw [decide_eq_true e]; exact Dd.has_iff.2 ⟨_, Dd.at_mem e.1, e.2⟩
    · rw [decide_eq_false e]
      cases hh : Dd.has L id
      · rfl
      · obtain ⟨q, hq, hqi⟩ := Dd.has_iff.1 hh
        have hr := Dd.right_id hR hq
        rw [hqi] at hr
        obtain ⟨k, hk, hkq⟩ := Dd.mem_at hq
        obtain ⟨g1, g2⟩ := hg hr
        have hki : (Dd.at_ L k).id = id := by rw [hkq]; exact hqi
        rcases Nat.lt_trichotomy k i with g | g | g
        · have := g1 k g; omega
        · subst g; exact absurd ⟨hk, hki⟩ e
        · have h3 := g2 i (Nat.le_refl _) (by omega)
          have h4 := Dd.rise_at hs (Nat.le_of_lt g) hk
          have : (Dd.at_ L i).id = id := by omega
          exact absurd ⟨by omega, this⟩ e)
  have HRI := Lib.hid (fun i hi => Dd.right_id hR (Dd.at_mem (L := L) (i := i) hi))
  generalize hLL : L.length = n at *
  clear hx hR hs hid
  go_enter Try.func41, Try.ntmps41
  go_wp2_with (go_at_call 82; (with_reducible refine HC.out.mono ?_); rintro e w4 ⟨⟨i, q, rfl, hq, hi, hg⟩, hB4⟩; have HQ := Lib.hid hq; clear hq)
  go_ret2
  have h0 := (HH.out i hi hg).trans HQ.out.symm
  have h00 := HH.out i hi hg
  refine ⟨i, by rw [h0]; rfl, by omega, fun h => ?_, fun h => ?_, hB4⟩
  · obtain ⟨g1, g2⟩ := hg h
    exact (HP.out i (by omega) g1 (fun k hk hk2 => g2 k hk (by omega))).symm
  · rw [h00] at h
    have h := of_decide_eq_true h
    have hr := HRI.out i h.1
    rw [h.2] at hr
    obtain ⟨g1, g2⟩ := hg hr
    exact ⟨by omega, h.2, (HP.out i (by omega) g1 (fun k hk hk2 => g2 k hk (by omega))).symm⟩
end Go.Proofs.Ytipmegkmkbbklaa

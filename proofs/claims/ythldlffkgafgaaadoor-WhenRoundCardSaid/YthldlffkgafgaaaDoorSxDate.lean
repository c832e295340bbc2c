/- The shortest of several texts, the first in order among those of its length: plain lists. -/
import Derived.Test.YthldlffkgafgaaaDoorSpSpan
import Derived.Test.YthldlffkgafgaaaDoorRsMath
namespace Go.Proofs.YthldlffkgafgaaaDoor
namespace Sx
open Go.Op (bytesLess)
theorem less_irr : ∀ a : List UInt8, bytesLess a a = false
  | [] => rfl
  | a :: x => by
    show (decide (a < a) || (a == a && bytesLess x x)) = false
    rw [less_irr x]; simp
theorem less_tri : ∀ a b : List UInt8, bytesLess a b = false → bytesLess b a = false → a = b
  | [], [], _, _ => rfl
  | [], _ :: _, h, _ => by exact absurd h (by simp [bytesLess])
  | _ :: _, [], _, h => by exact absurd h (by simp [bytesLess])
  | a :: x, b :: y, h1, h2 => by
    simp only [bytesLess, Bool.or_eq_false_iff, decide_eq_false_iff_not, Bool.and_eq_false_iff, beq_eq_false_iff_ne, UInt8.not_lt] at h1 h2
    have e : a = b := UInt8.le_antisymm h2.1 h1.1
    subst e
    have t := less_tri x y (by rcases h1.2 with h | h; exact absurd rfl h; exact h) (by rcases h2.2 with h | h; exact absurd rfl h; exact h)
    rw [t]
theorem less_trans : ∀ a b c : List UInt8, bytesLess a b = true → bytesLess b c = true → bytesLess a c = true
  | [], b, [], _, h => by cases b <;> simp [bytesLess] at h
  | [], _, _ :: _, _, _ => by simp [bytesLess]
  | _ :: _, [], _, h, _ => by simp [bytesLess] at h
  | _ :: _, _ :: _, [], _, h => by simp [bytesLess] at h
  | a :: x, b :: y, c :: z, h1, h2 => by
    simp only [bytesLess, Bool.or_eq_true, decide_eq_true_eq, Bool.and_eq_true, beq_iff_eq] at h1 h2 ⊢
    rcases h1 with h1 | ⟨rfl, h1⟩
    · rcases h2 with h2 | ⟨rfl, h2⟩
      · exact .inl (UInt8.lt_trans h1 h2)
      · exact .inl h1
    · rcases h2 with h2 | ⟨rfl, h2⟩
      · exact .inl h2
      · exact .inr ⟨rfl, less_trans x y z h1 h2⟩
/-- Shorter, or as long and first in order. -/
def lt (s t : List UInt8) : Bool := decide (s.length < t.length) || (decide (s.length = t.length) && bytesLess s t)
theorem lt_iff (s t : List UInt8) : lt s t = true ↔ s.length < t.length ∨ (s.length = t.length ∧ bytesLess s t = true) := by simp [lt]
theorem lt_tri (s t : List UInt8) (h1 : lt s t = false) (h2 : lt t s = false) : s = t := by
  have a1 := mt (lt_iff s t).2 (by rw [h1]; simp)
  have a2 := mt (lt_iff t s).2 (by rw [h2]; simp)
  have hl : s.length = t.length := by omega
  refine less_tri s t ?_ ?_
  · rw [← Bool.not_eq_true]; exact fun h => a1 (.inr ⟨hl, h⟩)
  · rw [← Bool.not_eq_true]; exact fun h => a2 (.inr ⟨hl.symm, h⟩)
theorem lt_trans (s t u : List UInt8) (h1 : lt s t = true) (h2 : lt t u = true) : lt s u = true := by
  rw [lt_iff] at *
  rcases h1 with h1 | ⟨e1, h1⟩
  · rcases h2 with h2 | ⟨e2, h2⟩ <;> exact .inl (by omega)
  · rcases h2 with h2 | ⟨e2, h2⟩
    · exact .inl (by omega)
    · exact .inr ⟨by omega, less_trans s t u h1 h2⟩
theorem lt_irr (s : List UInt8) : lt s s = false := by
  rw [← Bool.not_eq_true, lt_iff, less_irr]; simp
/-- One text more is looked at. -/
def step (ok : List UInt8 → Bool) (b s : List UInt8) : List UInt8 := if (ok s && (b.isEmpty || lt s b)) = true then s else b
def best (ok : List UInt8 → Bool) (l : List (List UInt8)) : List UInt8 := l.foldl (step ok) []
theorem best_snoc (ok : List UInt8 → Bool) (l : List (List UInt8)) (s : List UInt8) : best ok (l ++ [s]) = step ok (best ok l) s := by unfold best; rw [List.foldl_append]; rfl
def Is (ok : List UInt8 → Bool) (l : List (List UInt8)) (r : List UInt8) : Prop := (r = [] ∧ ∀ t ∈ l, ok t = false) ∨ (r ∈ l ∧ ok r = true ∧ ∀ t ∈ l, ok t = true → lt t r = false)
theorem step_is {ok : List UInt8 → Bool} {l : List (List UInt8)} {b s : List UInt8} (h : Is ok l b) (hne : ∀ t ∈ l, t ≠ []) : Is ok (l ++ [s]) (step ok b s) := by
  unfold step
  cases ho : ok s
  · rw [if_neg (by simp)]
    rcases h with ⟨hb, ha⟩ | ⟨hb, hob, ha⟩
    · exact .inl ⟨hb, fun t ht => by rcases List.mem_append.1 ht with h | h; exact ha t h; rw [List.mem_singleton.1 h]; exact ho⟩
    · exact .inr ⟨List.mem_append.2 (.inl hb), hob, fun t ht hot => by rcases List.mem_append.1 ht with h | h; exact ha t h hot; rw [List.mem_singleton.1 h, ho] at hot; exact absurd hot (by simp)⟩
  · rcases h with ⟨hb, ha⟩ | ⟨hb, hob, ha⟩
    · rw [hb, if_pos (by simp)]
      exact .inr ⟨List.mem_append.2 (.inr (List.mem_singleton.2 rfl)), ho, fun t ht hot => by rcases List.mem_append.1 ht with h | h; rw [ha t h] at hot; exact absurd hot (by simp); rw [List.mem_singleton.1 h]; exact lt_irr s⟩
    · have hbe : b.isEmpty = false := by cases b with | nil => exact absurd rfl (hne _ hb) | cons => rfl
      cases hl : lt s b
      · rw [if_neg (by simp [hbe])]
        exact .inr ⟨List.mem_append.2 (.inl hb), hob, fun t ht hot => by rcases List.mem_append.1 ht with h | h; exact ha t h hot; rw [List.mem_singleton.1 h]; exact hl⟩
      · rw [if_pos (by simp)]
        refine .inr ⟨List.mem_append.2 (.inr (List.mem_singleton.2 rfl)), ho, fun t ht hot => ?_⟩
        rcases List.mem_append.1 ht with h | h
        · rw [← Bool.not_eq_true]; intro hc
          have := lt_trans t s b hc hl
          rw [ha t h hot] at this; exact absurd this (by simp)
        · rw [List.mem_singleton.1 h]; exact lt_irr s
theorem best_is (ok : List UInt8 → Bool) (l : List (List UInt8)) (hne : ∀ t ∈ l, t ≠ []) : Is ok l (best ok l) := by
  have key : ∀ (m : List (List UInt8)) (k : List (List UInt8)) (b : List UInt8), (∀ t ∈ k ++ m, t ≠ []) → Is ok k b → Is ok (k ++ m) (m.foldl (step ok) b) := by
    intro m
    induction m with
    | nil => intro k b _ h; rw [List.append_nil]; exact h
    | cons s m ih =>
      intro k b hn h
      have h1 := step_is (s := s) h (fun t ht => hn t (List.mem_append.2 (.inl ht)))
      have := ih (k ++ [s]) _ (fun t ht => hn t (by rw [List.append_assoc] at ht; exact ht)) h1
      rw [List.append_assoc] at this
      exact this
  have := key l [] [] (by simpa using hne) (.inl ⟨rfl, fun t h => by simp at h⟩)
  rw [List.nil_append] at this
  exact this
theorem is_unique {ok : List UInt8 → Bool} {l l' : List (List UInt8)} {r r' : List UInt8} (h : Is ok l r) (h' : Is ok l' r') (hm : ∀ t, t ∈ l ↔ t ∈ l') : r = r' := by
  rcases h with ⟨rfl, ha⟩ | ⟨hb, ho, ha⟩
  · rcases h' with ⟨rfl, _⟩ | ⟨hb', ho', _⟩
    · rfl
    · rw [ha _ ((hm _).2 hb')] at ho'; exact absurd ho' (by simp)
  · rcases h' with ⟨rfl, ha'⟩ | ⟨hb', ho', ha'⟩
    · rw [ha' _ ((hm _).1 hb)] at ho; exact absurd ho (by simp)
    · exact lt_tri _ _ (ha' _ ((hm _).1 hb) ho) (ha _ ((hm _).2 hb') ho')
/-- The candidates, as the program lists them and as the reference does. -/
def dots : List UInt8 := [46, 46]
def candP (u1 u2 u3 v1 v2 v3 : List UInt8) : List (List UInt8) := [u1, u1 ++ dots ++ v1, u1 ++ dots ++ v2, u1 ++ dots ++ v3, u2, u2 ++ dots ++ v1, u2 ++ dots ++ v2, u2 ++ dots ++ v3, u3, u3 ++ dots ++ v1, u3 ++ dots ++ v2, u3 ++ dots ++ v3]
def candR (u1 u2 u3 v1 v2 v3 : List UInt8) : List (List UInt8) := [u1, u2, u3, u1 ++ dots ++ v1, u1 ++ dots ++ v2, u1 ++ dots ++ v3, u2 ++ dots ++ v1, u2 ++ dots ++ v2, u2 ++ dots ++ v3, u3 ++ dots ++ v1, u3 ++ dots ++ v2, u3 ++ dots ++ v3]
theorem cand_mem (u1 u2 u3 v1 v2 v3 t : List UInt8) : t ∈ candP u1 u2 u3 v1 v2 v3 ↔ t ∈ candR u1 u2 u3 v1 v2 v3 := by
  simp only [candP, candR, List.mem_cons, List.not_mem_nil, or_false]
  constructor <;> (intro h; rcases h with h | h | h | h | h | h | h | h | h | h | h | h <;> simp [h])
theorem cand_ne {u1 u2 u3 v1 v2 v3 : List UInt8} (h1 : u1 ≠ []) (h2 : u2 ≠ []) (h3 : u3 ≠ []) : ∀ t ∈ candP u1 u2 u3 v1 v2 v3, t ≠ [] := by
  intro t ht
  simp only [candP, List.mem_cons, List.not_mem_nil, or_false] at ht
  rcases ht with h | h | h | h | h | h | h | h | h | h | h | h <;> (rw [h]; simp [h1, h2, h3])
theorem both {ok : List UInt8 → Bool} {u1 u2 u3 v1 v2 v3 : List UInt8} (h1 : u1 ≠ []) (h2 : u2 ≠ []) (h3 : u3 ≠ []) : best ok (candP u1 u2 u3 v1 v2 v3) = best ok (candR u1 u2 u3 v1 v2 v3) :=
  is_unique (best_is ok _ (cand_ne h1 h2 h3)) (best_is ok _ (fun t ht => cand_ne h1 h2 h3 t ((cand_mem _ _ _ _ _ _ _).2 ht))) (cand_mem _ _ _ _ _ _)
theorem best_some {ok : List UInt8 → Bool} {l : List (List UInt8)} (hne : ∀ t ∈ l, t ≠ []) {s : List UInt8} (hs : s ∈ l) (ho : ok s = true) : best ok l ∈ l ∧ ok (best ok l) = true := by
  rcases best_is ok l hne with ⟨_, h⟩ | ⟨h1, h2, _⟩
  · rw [h s hs] at ho; exact absurd ho (by simp)
  · exact ⟨h1, h2⟩
theorem best_none {ok : List UInt8 → Bool} {l : List (List UInt8)} (hno : ∀ t ∈ l, ok t = false) : best ok l = [] := by
  have : ∀ (m : List (List UInt8)), (∀ t ∈ m, ok t = false) → m.foldl (step ok) [] = [] := by
    intro m
    induction m with
    | nil => intro _; rfl
    | cons s m ih =>
      intro h
      rw [List.foldl_cons]
      have : step ok [] s = [] := by unfold step; rw [h s (by simp), if_neg (by simp)]
      rw [this]
      exact ih (fun t ht => h t (by simp [ht]))
  exact this l hno
end Sx
end Go.Proofs.YthldlffkgafgaaaDoor
namespace Go.Proofs.YthldlffkgafgaaaDoor
namespace Dg
theorem pad4_read {n : Nat} (h0 : 1000 ≤ n) (h : n < 10000) : allD (Tx.pad n 4) = true ∧ val (Tx.pad n 4) = n := by
  rw [Tx.pad4_val h0 h]
  have t : ∀ k, k < 10 → (UInt8.ofNat (48 + k)).toNat = 48 + k := fun k hk => by simp only [UInt8.toNat_ofNat']; omega
  have t1 := t (n / 1000) (by omega)
  have t2 := t (n / 100 % 10) (by omega)
  have t3 := t (n / 10 % 10) (by omega)
  have t4 := t (n % 10) (by omega)
  constructor
  · simp only [allD, List.all_cons, List.all_nil, Bool.and_true, Bool.and_eq_true, isD, decide_eq_true_eq]
    omega
  · show 10 * (10 * (10 * (10 * 0 + ((UInt8.ofNat (48 + n / 1000)).toNat - 48)) + ((UInt8.ofNat (48 + n / 100 % 10)).toNat - 48)) + ((UInt8.ofNat (48 + n / 10 % 10)).toNat - 48)) + ((UInt8.ofNat (48 + n % 10)).toNat - 48) = n
    omega
theorem not_dot {l : List UInt8} (h : allD l = true) : ∀ b ∈ l, b ≠ 46 := by
  intro b hb e
  subst e
  have := List.all_eq_true.1 h 46 hb
  exact absurd this (by decide)
end Dg
namespace Sx
/-- The texts of a year, a month, a day. -/
def u1 (d : Sp.D3) : List UInt8 := Tx.pad d.1.toNat 4
def u2 (d : Sp.D3) : List UInt8 := u1 d ++ [45] ++ Tx.pad d.2.1.toNat 2
def u3 (d : Sp.D3) : List UInt8 := u2 d ++ [45] ++ Tx.pad d.2.2.toNat 2
theorem len2 {n : Nat} (h : n < 100) : (Tx.pad n 2).length = 2 := by rw [Tx.pad2_val h]; rfl
theorem len4 {n : Nat} (h0 : 1000 ≤ n) (h : n < 10000) : (Tx.pad n 4).length = 4 := by rw [Tx.pad4_val h0 h]; rfl
theorem vld_bd {d : Sp.D3} (h : Sp.vld d = true) : (1900 ≤ d.1 ∧ d.1 ≤ 2099) ∧ (1 ≤ d.2.1 ∧ d.2.1 ≤ 12) ∧ (1 ≤ d.2.2 ∧ d.2.2 ≤ 31) := by
  have h1 := (Cal.vld_iff _ _ _).1 h
  have := Cal.len_bd d.1 d.2.1
  omega
theorem lens {d : Sp.D3} (h : Sp.vld d = true) : (u1 d).length = 4 ∧ (u2 d).length = 7 ∧ (u3 d).length = 10 := by
  obtain ⟨hy, hm, hd⟩ := vld_bd h
  have e1 : (u1 d).length = 4 := len4 (by omega) (by omega)
  have e2 : (Tx.pad d.2.1.toNat 2).length = 2 := len2 (by omega)
  have e3 : (Tx.pad d.2.2.toNat 2).length = 2 := len2 (by omega)
  have e4 : (u2 d).length = 7 := by unfold u2; rw [List.length_append, List.length_append, e1, e2]; rfl
  refine ⟨e1, e4, ?_⟩
  unfold u3; rw [List.length_append, List.length_append, e4, e3]; rfl
theorem win_left (a b : List UInt8) (i j : Nat) (h : j ≤ a.length) : Ft.win (a ++ b) i j = Ft.win a i j := by
  unfold Ft.win
  by_cases c : i ≤ a.length
  · rw [List.drop_append_of_le_length c, List.take_append_of_le_length (by rw [List.length_drop]; omega)]
  · rw [show j - i = 0 by omega, List.take_zero, List.take_zero]
theorem win_right (a b : List UInt8) (i j : Nat) (hi : i = a.length) (h : j = a.length + b.length) : Ft.win (a ++ b) i j = b := by
  subst hi
  unfold Ft.win
  rw [List.drop_left, List.take_of_length_le (by omega)]
theorem wins {d : Sp.D3} (h : Sp.vld d = true) : Ft.win (u3 d) 0 4 = Tx.pad d.1.toNat 4 ∧ Ft.win (u3 d) 5 7 = Tx.pad d.2.1.toNat 2 ∧ Ft.win (u3 d) 8 10 = Tx.pad d.2.2.toNat 2 ∧ (u3 d)[4]? = some 45 ∧ (u3 d)[7]? = some 45 ∧ Ft.win (u3 d) 0 7 = u2 d := by
  obtain ⟨l1, l2, l3⟩ := lens h
  obtain ⟨hy, hm, hd⟩ := vld_bd h
  have e2 : (Tx.pad d.2.1.toNat 2).length = 2 := len2 (by omega)
  have e3 : (Tx.pad d.2.2.toNat 2).length = 2 := len2 (by omega)
  have w0 : Ft.win (u3 d) 0 7 = u2 d := by
    unfold u3; rw [List.append_assoc, win_left _ _ _ _ (by omega), Ft.win_all _ _ l2]
  have w1 : Ft.win (u2 d) 0 4 = u1 d := by unfold u2; rw [List.append_assoc, win_left _ _ _ _ (by omega), Ft.win_all _ _ l1]
  have g4 : (u2 d)[4]? = some 45 := by
    unfold u2; rw [List.append_assoc, List.getElem?_append_right (by omega), l1]; rfl
  refine ⟨?_, ?_, ?_, ?_, ?_, w0⟩
  · unfold u3; rw [List.append_assoc, win_left _ _ _ _ (by omega), w1]; rfl
  · unfold u3; rw [List.append_assoc, win_left _ _ _ _ (by omega)]
    unfold u2; rw [win_right _ _ _ _ (by rw [List.length_append, l1]; rfl) (by rw [List.length_append, l1, e2]; rfl)]
  · unfold u3; rw [win_right _ _ _ _ (by rw [List.length_append, l2]; rfl) (by rw [List.length_append, l2, e3]; rfl)]
  · unfold u3; rw [List.append_assoc, List.getElem?_append_left (by omega), g4]
  · unfold u3; rw [List.append_assoc, List.getElem?_append_right (by omega), l2]; rfl
theorem fx_of {s : List UInt8} {a b n : Nat} {l : List UInt8} (hw : Ft.win s a b = l) (h : Dg.allD l = true ∧ Dg.val l = n) : Sc.fx s a b = (n : Int) := by
  unfold Sc.fx; rw [hw, if_pos h.1, h.2]
/-- A day is read as itself. -/
theorem kind_day {d : Sp.D3} (h : Sp.vld d = true) : Sp.kind (u3 d) = some (d, d) := by
  obtain ⟨l1, l2, l3⟩ := lens h
  obtain ⟨w1, w2, w3, g4, g7, _⟩ := wins h
  obtain ⟨hy, hm, hd⟩ := vld_bd h
  have f1 : Sc.fx (u3 d) 0 4 = d.1 := by rw [fx_of w1 (Dg.pad4_read (by omega) (by omega))]; omega
  have f2 : Sc.fx (u3 d) 5 7 = d.2.1 := by rw [fx_of w2 (Dg.pad2_read (by omega))]; omega
  have f3 : Sc.fx (u3 d) 8 10 = d.2.2 := by rw [fx_of w3 (Dg.pad2_read (by omega))]; omega
  unfold Sp.kind
  rw [if_neg (by omega), if_neg (by omega), if_pos l3, f1, f2, f3, if_pos ⟨by omega, g4, by omega, g7, by omega⟩]
theorem no_dot {d : Sp.D3} (h : Sp.vld d = true) : ∀ b ∈ u3 d, b ≠ 46 := by
  obtain ⟨hy, hm, hd⟩ := vld_bd h
  have a1 := (Dg.pad4_read (n := d.1.toNat) (by omega) (by omega)).1
  have a2 := (Dg.pad2_read (n := d.2.1.toNat) (by omega)).1
  have a3 := (Dg.pad2_read (n := d.2.2.toNat) (by omega)).1
  intro b hb
  unfold u3 u2 u1 at hb
  simp only [List.mem_append, List.mem_singleton] at hb
  rcases hb with ((((hb | hb) | hb) | hb) | hb)
  · exact Dg.not_dot a1 b hb
  · rw [hb]; decide
  · exact Dg.not_dot a2 b hb
  · rw [hb]; decide
  · exact Dg.not_dot a3 b hb
theorem index_dots (p q : List UInt8) (h : ∀ b ∈ p, b ≠ 46) : Lib.index (p ++ (46 :: 46 :: q)) [46, 46] = (p.length : Int) := by
  induction p with
  | nil => simp [Lib.index]
  | cons b p ih =>
    have hb : b ≠ 46 := h b (by simp)
    have := ih (fun x hx => h x (by simp [hx]))
    rw [List.cons_append, Lib.index, this, if_neg (by simp [List.isPrefixOf, Ne.symm hb]), if_neg (by simp)]
    simp
theorem cut_dots (p q : List UInt8) (h : ∀ b ∈ p, b ≠ 46) : Lib.cut (p ++ dots ++ q) [46, 46] = (p, q, true) := by
  have e : p ++ dots ++ q = p ++ (46 :: 46 :: q) := by unfold dots; rw [List.append_assoc]; rfl
  unfold Lib.cut
  rw [e, index_dots p q h, if_pos (by omega)]
  simp
/-- Two days are read as the stretch from the one's begin to the other's end. -/
theorem span_days {a b : Sp.D3} (ha : Sp.vld a = true) (hb : Sp.vld b = true) (hle : Sp.num a ≤ Sp.num b) : Sp.span (u3 a ++ dots ++ u3 b) = (Sp.num a * 86400, Sp.num b * 86400 + 86399, 0) := by
  unfold Sp.span
  rw [cut_dots _ _ (no_dot ha)]
  show Sp.sp _ _ _ _ _ _ true = _
  rw [kind_day ha, kind_day hb]
  unfold Sp.sp Sp.outF Sp.outT Sp.outE
  simp only [ha, hb, and_self, if_true]
  rw [if_neg (by omega), if_neg (by simp), if_neg (by omega)]
/-- A text that is read at all is read as whole days. -/
theorem span_whole {s : List UInt8} {F T : Int} (h : Sp.span s = (F, T, 0)) : F % 86400 = 0 ∧ (T + 1) % 86400 = 0 := by
  have key : ∀ k, Sp.outE k = 0 → (Sp.outF k) % 86400 = 0 ∧ (Sp.outT k + 1) % 86400 = 0 := by
    intro k hk
    rcases k with _ | ⟨a, b⟩
    · exact absurd hk (by show ¬ (8 : Int) = 0; decide)
    · unfold Sp.outE at hk
      unfold Sp.outF Sp.outT
      by_cases hv : Sp.vld a = true ∧ Sp.vld b = true
      · simp only [if_pos hv]; omega
      · simp only [if_neg hv] at hk; exact absurd hk (by decide)
  unfold Sp.span Sp.sp at h
  simp only [] at h
  split at h
  · split at h
    · simp only [Prod.mk.injEq] at h; omega
    · split at h
      · simp only [Prod.mk.injEq] at h; omega
      · rename_i hn
        split at h
        · simp only [Prod.mk.injEq] at h; omega
        · simp only [Prod.mk.injEq] at h
          have h1 := key (Sp.kind (Lib.cut s [46, 46]).1) (by omega)
          have h2 := key (Sp.kind (Lib.cut s [46, 46]).2.1) (by omega)
          omega
  · simp only [Prod.mk.injEq] at h
    have h1 := key (Sp.kind (Lib.cut s [46, 46]).1) (by omega)
    omega
/-- Does a text say just this stretch? -/
def ok (F T : Int) (s : List UInt8) : Bool := decide (Sp.span s = (F, T, 0))
theorem ok_iff (F T : Int) (s : List UInt8) : ok F T s = true ↔ Sp.span s = (F, T, 0) := decide_eq_true_iff
/-- The text of a stretch from day a to day b. -/
def text (F T : Int) (a b : Sp.D3) : List UInt8 := best (ok F T) (candP (u1 a) (u2 a) (u3 a) (u1 b) (u2 b) (u3 b))
theorem u_ne {d : Sp.D3} (h : Sp.vld d = true) : u1 d ≠ [] ∧ u2 d ≠ [] ∧ u3 d ≠ [] := by
  obtain ⟨l1, l2, l3⟩ := lens h
  exact ⟨fun e => by rw [e] at l1; simp at l1, fun e => by rw [e] at l2; simp at l2, fun e => by rw [e] at l3; simp at l3⟩
theorem text_ref {F T : Int} {a b : Sp.D3} (ha : Sp.vld a = true) : best (ok F T) (candR (u1 a) (u2 a) (u3 a) (u1 b) (u2 b) (u3 b)) = text F T a b := by
  obtain ⟨h1, h2, h3⟩ := u_ne ha
  exact (both h1 h2 h3).symm
theorem text_ok {F T : Int} {a b : Sp.D3} (ha : Sp.vld a = true) (hb : Sp.vld b = true) (hF : Sp.num a * 86400 = F) (hT : Sp.num b * 86400 + 86399 = T) (hle : F ≤ T) : Sp.span (text F T a b) = (F, T, 0) ∧ text F T a b ≠ [] := by
  obtain ⟨h1, h2, h3⟩ := u_ne ha
  have hs : u3 a ++ dots ++ u3 b ∈ candP (u1 a) (u2 a) (u3 a) (u1 b) (u2 b) (u3 b) := by simp [candP]
  have ho : ok F T (u3 a ++ dots ++ u3 b) = true := by
    rw [ok_iff, span_days ha hb (by omega), hF, hT]
  obtain ⟨m1, m2⟩ := best_some (cand_ne h1 h2 h3) hs ho
  exact ⟨(ok_iff _ _ _).1 m2, cand_ne h1 h2 h3 _ m1⟩
theorem text_no {F T : Int} {a b : Sp.D3} (h : ¬ (F % 86400 = 0 ∧ (T + 1) % 86400 = 0)) : text F T a b = [] := by
  unfold text
  apply best_none
  intro t _
  rw [← Bool.not_eq_true, ok_iff]
  exact fun e => h (span_whole e)
end Sx
end Go.Proofs.YthldlffkgafgaaaDoor

/- The text of an image is read as this image: plain. -/
import Derived.Test.YtpgjpnnjlilokaaDoorRdLaw
import Derived.Test.YtpgjpnnjlilokaaDoorPtMath
import Derived.Test.YtpgjpnnjlilokaaDoorTxTld
import Derived.Test.YtpgjpnnjlilokaaDoorPixGrow
namespace Go.Proofs.YtpgjpnnjlilokaaDoor
set_option linter.unusedVariables false
namespace Pr
open Go.Lib
theorem valF_snoc (l : List UInt8) (c : UInt8) : ∀ n, Dg.valF n (l ++ [c]) = 10 * Dg.valF n l + (c.toNat - 48) := by
  induction l with
  | nil => intro n; rfl
  | cons b l ih => intro n; exact ih _
theorem dig_toNat {n : Nat} (h : n < 10) : (UInt8.ofNat (48 + n)).toNat = 48 + n := by simp; omega
theorem dd_all : ∀ k n, n ≤ k → Dg.allD (decDigits n) = true ∧ Dg.val (decDigits n) = n ∧ (1 ≤ n → (decDigits n)[0]? ≠ some 48) ∧ decDigits n ≠ [] := by
  intro k
  induction k with
  | zero =>
    intro n hn
    obtain rfl : n = 0 := by omega
    rw [Tx.dig1 (by omega)]
    exact ⟨by decide, by decide, fun h => by omega, by simp⟩
  | succ k ih =>
    intro n hn
    by_cases h : n < 10
    · rw [Tx.dig1 h]
      have e := dig_toNat h
      refine ⟨?_, ?_, ?_, by simp⟩
      · show ([UInt8.ofNat (48 + n)].all Dg.isD) = true
        simp only [List.all_cons, List.all_nil, Bool.and_true, Dg.isD]
        rw [e]; exact decide_eq_true (by omega)
      · show Dg.valF 0 [UInt8.ofNat (48 + n)] = n
        show 10 * 0 + ((UInt8.ofNat (48 + n)).toNat - 48) = n
        rw [e]; omega
      · intro h1 hc
        rw [List.getElem?_cons_zero] at hc
        injection hc with hc
        have := congrArg UInt8.toNat hc
        rw [e] at this
        have h48 : (48 : UInt8).toNat = 48 := rfl
        omega
    · rw [Tx.digs (by omega)]
      obtain ⟨h1, h2, h3, h4⟩ := ih (n / 10) (by omega)
      have e := dig_toNat (show n % 10 < 10 by omega)
      refine ⟨?_, ?_, ?_, by simp⟩
      · show ((decDigits (n / 10) ++ [UInt8.ofNat (48 + n % 10)]).all Dg.isD) = true
        rw [List.all_append, show (decDigits (n / 10)).all Dg.isD = true from h1]
        simp only [List.all_cons, List.all_nil, Bool.and_true, Bool.true_and, Dg.isD]
        rw [e]; exact decide_eq_true (by omega)
      · show Dg.valF 0 (decDigits (n / 10) ++ [UInt8.ofNat (48 + n % 10)]) = n
        rw [valF_snoc, show Dg.valF 0 (decDigits (n / 10)) = n / 10 from h2, e]; omega
      · intro _
        have := h3 (by omega)
        rw [List.getElem?_append_left (List.length_pos_iff.2 h4)]
        exact this
theorem num4_dd {n : Nat} (h : n < 10000) : num4 (decDigits n) = some n := by
  obtain ⟨h1, h2, h3, h4⟩ := dd_all n n (Nat.le_refl _)
  have hl : (decDigits n).length ≤ 4 := by
    have a1 : Tx.dl n ≤ 4 := by
      by_cases c1 : n < 10
      · rw [Tx.dl_one c1]; omega
      · rw [Tx.dl_succ (by omega)]
        by_cases c2 : n / 10 < 10
        · rw [Tx.dl_one c2]; omega
        · rw [Tx.dl_succ (by omega)]
          by_cases c3 : n / 10 / 10 < 10
          · rw [Tx.dl_one c3]; omega
          · rw [Tx.dl_succ (by omega), Tx.dl_one (by omega)]; omega
    exact a1
  have hz : ¬ (1 < (decDigits n).length ∧ (decDigits n)[0]? = some 48) := by
    intro hh
    by_cases c1 : n < 10
    · rw [Tx.dig1 c1] at hh; simp at hh
    · exact h3 (by omega) hh.2
  unfold num4
  rw [if_pos ⟨⟨List.length_pos_iff.2 h4, hl⟩, h1, hz⟩, h2]
theorem dd_no {n : Nat} {c : UInt8} (hc : c.toNat < 48) : c ∉ decDigits n := by
  intro hm
  have := (List.all_eq_true.1 (show (decDigits n).all Dg.isD = true from (dd_all n n (Nat.le_refl _)).1)) c hm
  unfold Dg.isD at this
  have := of_decide_eq_true this
  omega
theorem hv_hx : ∀ k, k < 16 → hv (Pt.hx k) = some k := by decide
theorem hx_ge : ∀ k, k < 16 → 48 ≤ (Pt.hx k).toNat := by decide
theorem two_hex {c : Nat} (h : c < 256) : two (Pt.hx (c / 16)) (Pt.hx (c % 16)) = some c := by
  unfold two
  rw [hv_hx (c / 16) (by omega), hv_hx (c % 16) (by omega)]
  exact congrArg some (show 16 * (c / 16) + c % 16 = c by omega)
variable {px : Nat → Int}
theorem px6_cols (hpx : ∀ i, 0 ≤ px i ∧ px i ≤ 255) (p : Nat) : px6 (Pt.cols px p) = some ((px (3 * p)).toNat, (px (3 * p + 1)).toNat, (px (3 * p + 2)).toNat) := by
  have h0 := hpx (3 * p); have h1 := hpx (3 * p + 1); have h2 := hpx (3 * p + 2)
  show ((two _ _).bind fun x => (two _ _).bind fun y => (two _ _).map fun z => (x, y, z)) = _
  rw [two_hex (by omega), two_hex (by omega), two_hex (by omega)]
  rfl
theorem cols_no (hpx : ∀ i, 0 ≤ px i ∧ px i ≤ 255) (p : Nat) : (10 : UInt8) ∉ Pt.cols px p := by
  have h0 := hpx (3 * p); have h1 := hpx (3 * p + 1); have h2 := hpx (3 * p + 2)
  intro hm
  have key : ∀ k, k < 16 → (10 : UInt8) ≠ Pt.hx k := by decide
  unfold Pt.cols Pt.hex2 at hm
  simp only [List.mem_append, List.mem_cons, List.not_mem_nil, or_false] at hm
  rcases hm with ((h | h) | (h | h)) | (h | h) <;> exact key _ (by omega) h
/-- A line without its end. -/
def bare (px : Nat → Int) (n p : Nat) : List UInt8 := decDigits n ++ 32 :: Pt.cols px p
theorem line_bare (n p : Nat) (r : List UInt8) : Pt.line px n p ++ r = bare px n p ++ 10 :: r := by simp [Pt.line, bare]
theorem bare_no (hpx : ∀ i, 0 ≤ px i ∧ px i ≤ 255) (n p : Nat) : (10 : UInt8) ∉ bare px n p := by
  unfold bare
  intro hm
  rcases List.mem_append.1 hm with h | h
  · exact dd_no (by decide) h
  · rcases List.mem_cons.1 h with h | h
    · exact absurd h (by decide)
    · exact cols_no hpx p h
theorem run_bare (hpx : ∀ i, 0 ≤ px i ∧ px i ≤ 255) (n p : Nat) (hn : n < 10000) : run (bare px n p) = some (n, (px (3 * p)).toNat, (px (3 * p + 1)).toNat, (px (3 * p + 2)).toNat) := by
  unfold run bare
  rw [cut_cut1, cut1_append _ (dd_no (by decide))]
  simp only
  rw [num4_dd hn, px6_cols hpx]
  rfl
/-- Where a run begins. -/
def st (px : Nat → Int) (all : Nat) : Nat → Nat
  | 0 => 0
  | k + 1 => Pt.stop px all (st px all k) (st px all k)
/-- The lines from a run on. -/
theorem txt_lines (hpx : ∀ i, 0 ≤ px i ∧ px i ≤ 255) (all : Nat) : ∀ d k, all - st px all k = d → st px all k ≤ all →
    ∃ m, st px all (k + m) = all ∧ (∀ i, i < m → st px all (k + i) < all) ∧ (spl 10 (Pt.txt px all (st px all k))).length = m + 1 ∧
      (∀ i, i < m → (spl 10 (Pt.txt px all (st px all k))).getD i [] = bare px (st px all (k + i + 1) - st px all (k + i)) (st px all (k + i))) ∧ (spl 10 (Pt.txt px all (st px all k))).getD m [] = [] := by
  intro d
  induction d using Nat.strongRecOn with
  | _ d ih =>
    intro k hd hle
    by_cases h : st px all k < all
    · have hg := Pt.stop_gt (px := px) h
      have hs : st px all (k + 1) = Pt.stop px all (st px all k) (st px all k) := rfl
      obtain ⟨m, h1, h2, h3, h4, h5⟩ := ih (all - st px all (k + 1)) (by omega) (k + 1) rfl (by omega)
      have e : spl 10 (Pt.txt px all (st px all k)) = bare px (st px all (k + 1) - st px all k) (st px all k) :: spl 10 (Pt.txt px all (st px all (k + 1))) := by
        rw [Pt.txt_go h, line_bare, spl_append _ (bare_no hpx _ _)]; rfl
      refine ⟨m + 1, by rw [show k + (m + 1) = k + 1 + m by omega]; exact h1, fun i hi => ?_, by rw [e, List.length_cons, h3], fun i hi => ?_, ?_⟩
      · cases i with
        | zero => exact h
        | succ i => rw [show k + (i + 1) = k + 1 + i by omega]; exact h2 i (by omega)
      · rw [e]
        cases i with
        | zero => rfl
        | succ i =>
          rw [List.getD_cons_succ, h4 i (by omega), show k + (i + 1) = k + 1 + i by omega]
      · rw [e, List.getD_cons_succ]; exact h5
    · have he : st px all k = all := by omega
      refine ⟨0, by rw [Nat.add_zero]; exact he, fun i hi => by omega, ?_, fun i hi => by omega, ?_⟩
      · rw [he, Pt.txt_end]; rfl
      · rw [he, Pt.txt_end]; rfl
theorem stop_all {all p : Nat} : ∀ d u, all - u = d → u ≤ all → (∀ i, u ≤ i → i < Pt.stop px all p u → Pt.same px i p = true) ∧ (Pt.stop px all p u < all → Pt.same px (Pt.stop px all p u) p = false) := by
  intro d
  induction d with
  | zero =>
    intro u hd hle
    obtain rfl : u = all := by omega
    rw [Pt.stop_end]
    exact ⟨fun i h1 h2 => by omega, fun h => by omega⟩
  | succ d ih =>
    intro u hd hle
    by_cases hs : Pt.same px u p = true
    · rw [Pt.stop_go (by omega) hs]
      obtain ⟨h1, h2⟩ := ih (u + 1) (by omega) (by omega)
      refine ⟨fun i hi1 hi2 => ?_, h2⟩
      by_cases e : i = u
      · rw [e]; exact hs
      · exact h1 i (by omega) hi2
    · have hs' : Pt.same px u p = false := by simpa using hs
      rw [Pt.stop_not hs']
      exact ⟨fun i h1 h2 => by omega, fun _ => hs'⟩
theorem rep_bytes (hpx : ∀ i, 0 ≤ px i ∧ px i ≤ 255) (s n : Nat) (h : ∀ i, s ≤ i → i < s + n → Pt.same px i s = true) : ∀ t, t ≤ n →
    bytes (3 * s) px ++ rep ((px (3 * s)).toNat, (px (3 * s + 1)).toNat, (px (3 * s + 2)).toNat) t = bytes (3 * (s + t)) px := by
  intro t
  induction t with
  | zero => intro _; simp [rep]
  | succ t ih =>
    intro ht
    have hh := h (s + t) (by omega) (by omega)
    unfold Pt.same at hh
    obtain ⟨e0, e1, e2⟩ := of_decide_eq_true hh
    have c0 := (hpx (3 * s)).1; have c1 := (hpx (3 * s + 1)).1; have c2 := (hpx (3 * s + 2)).1
    rw [rep, ← List.append_assoc, ih (by omega), show 3 * (s + (t + 1)) = 3 * (s + t) + 3 by omega, ← bytes_three]
    rw [e0, e1, e2]
    simp only [Int.toNat_of_nonneg c0, Int.toNat_of_nonneg c1, Int.toNat_of_nonneg c2]
/-- The first line without its end. -/
def headB (W H : Nat) : List UInt8 := img ++ 32 :: (decDigits W ++ 32 :: decDigits H)
theorem head_bare (W H : Nat) (r : List UInt8) : Pt.head W H ++ r = headB W H ++ 10 :: r := by simp [Pt.head, headB, img]
theorem headB_no (W H : Nat) : (10 : UInt8) ∉ headB W H := by
  unfold headB
  intro hm
  rcases List.mem_append.1 hm with h | h
  · exact absurd h (by decide)
  · rcases List.mem_cons.1 h with h | h
    · exact absurd h (by decide)
    · rcases List.mem_append.1 h with h | h
      · exact dd_no (by decide) h
      · rcases List.mem_cons.1 h with h | h
        · exact absurd h (by decide)
        · exact dd_no (by decide) h
theorem head_headB (W H : Nat) (hW : W < 10000) (hH : H < 10000) : head (headB W H) = some (W, H) := by
  have : spl 32 (headB W H) = [img, decDigits W, decDigits H] := by
    unfold headB
    rw [spl_append _ img_no, spl_append _ (dd_no (by decide)), spl_none (dd_no (by decide))]
  rw [head_spl, this]
  simp only [if_true]
  rw [num4_dd hW, num4_dd hH]
  rfl
end Pr
open Pr in
/-- What is written is read. -/
theorem says_text (W H : Nat) (px : Nat → Int) (hW : 1 ≤ W ∧ W ≤ 64 ∧ 1 ≤ H ∧ H ≤ 64) (hpx : ∀ i, 0 ≤ px i ∧ px i ≤ 255) : Says (Pt.text W H px) (.ok W H (bytes (3 * (W * H)) px)) := by
  have hN : W * H ≤ 4096 := Nat.mul_le_mul hW.2.1 hW.2.2.2
  obtain ⟨N, hNe⟩ : ∃ N, W * H = N := ⟨_, rfl⟩
  rw [hNe] at hN
  obtain ⟨m, h1, h2, h3, h4, h5⟩ := txt_lines hpx N N 0 (by simp [st]) (Nat.zero_le _)
  simp only [Nat.zero_add, show st px N 0 = 0 from rfl] at h1 h2 h3 h4 h5
  obtain ⟨s, hs⟩ : ∃ s, Pt.text W H px = s := ⟨_, rfl⟩
  have hsp : spl 10 s = headB W H :: spl 10 (Pt.txt px N 0) := by
    rw [← hs]; unfold Pt.text; rw [hNe, head_bare, spl_append _ (headB_no W H)]
  have hlen : (spl 10 s).length = m + 2 := by rw [hsp, List.length_cons, h3]
  have hl0 : lin s 0 = headB W H := by unfold lin; rw [hsp]; rfl
  have hli : ∀ i, i < m → lin s (i + 1) = bare px (st px N (i + 1) - st px N i) (st px N i) := by
    intro i hi; unfold lin; rw [hsp, List.getD_cons_succ]; exact h4 i hi
  have hll : lin s (m + 1) = [] := by unfold lin; rw [hsp, List.getD_cons_succ]; exact h5
  have hst : ∀ i, i < m → st px N i < st px N (i + 1) ∧ st px N (i + 1) ≤ N := fun i hi => Pt.stop_gt (h2 i hi)
  have hrun : ∀ i, i < m → run (lin s (i + 1)) = some (st px N (i + 1) - st px N i, (px (3 * st px N i)).toNat, (px (3 * st px N i + 1)).toNat, (px (3 * st px N i + 2)).toNat) := by
    intro i hi
    have := hst i hi
    rw [hli i hi, run_bare hpx _ _ (by omega)]
  have hrn : ∀ i, i < m → rn s i = (st px N (i + 1) - st px N i, (px (3 * st px N i)).toNat, (px (3 * st px N i + 1)).toNat, (px (3 * st px N i + 2)).toNat) := by
    intro i hi; unfold rn; rw [hrun i hi]; rfl
  have hsum : ∀ k, k ≤ m → sumN (rn s) k = st px N k := by
    intro k
    induction k with
    | zero => intro _; rfl
    | succ k ih =>
      intro hk
      have := hst k (by omega)
      rw [sumN, ih (by omega), hrn k (by omega)]
      show st px N k + (st px N (k + 1) - st px N k) = _
      omega
  have hacc : ∀ k, k ≤ m → acc (rn s) k = bytes (3 * st px N k) px := by
    intro k
    induction k with
    | zero => intro _; rfl
    | succ k ih =>
      intro hk
      have hh := hst k (by omega)
      rw [acc, ih (by omega), hrn k (by omega)]
      have := rep_bytes hpx (st px N k) (st px N (k + 1) - st px N k) (fun i hi1 hi2 => (stop_all (N - st px N k) (st px N k) rfl (by omega)).1 i hi1 (by
        show i < st px N (k + 1)
        omega)) (st px N (k + 1) - st px N k) (Nat.le_refl _)
      rw [this]
      congr 2; omega
  have hok : ∀ k, k < m → okAt N (rn s) k := by
    intro k hk
    have hh := hst k hk
    refine ⟨?_, ?_, ?_⟩
    · rw [hrn k hk]; show st px N (k + 1) - st px N k ≠ 0; omega
    · cases k with
      | zero => exact .inl rfl
      | succ k =>
        right
        rw [hrn (k + 1) hk, Nat.add_sub_cancel, hrn k (by omega)]
        intro he
        simp only [Prod.mk.injEq] at he
        have hd := (stop_all (px := px) (p := st px N k) (N - st px N k) (st px N k) rfl (by have := h2 k (by omega); omega)).2 (by show st px N (k + 1) < N; exact h2 (k + 1) hk)
        have c0 := hpx (3 * st px N k); have c1 := hpx (3 * st px N k + 1); have c2 := hpx (3 * st px N k + 2)
        have d0 := hpx (3 * st px N (k + 1)); have d1 := hpx (3 * st px N (k + 1) + 1); have d2 := hpx (3 * st px N (k + 1) + 2)
        have : Pt.same px (st px N (k + 1)) (st px N k) = true := by
          unfold Pt.same
          exact decide_eq_true ⟨by omega, by omega, by omega⟩
        have hd' : Pt.same px (st px N (k + 1)) (st px N k) = false := hd
        rw [this] at hd'; cases hd'
    · rw [hsum k (by omega), hrn k hk]; show st px N k + (st px N (k + 1) - st px N k) ≤ N; omega
  have hlong : s.length ≤ 1000000 := by
    rw [← hs]
    unfold Pt.text
    have a1 := Pt.txt_len px N (by omega) N 0 (by omega) (by omega)
    have a2 := Tx.dl_le W (by omega)
    have a3 := Tx.dl_le H (by omega)
    unfold Tx.dl at a2 a3
    rw [hNe, List.length_append]
    unfold Pt.head
    simp only [List.length_append, List.length_cons, List.length_nil]
    omega
  have hmain := Says.main (s := s) hlong W H (by rw [hl0]; exact head_headB W H (by omega) (by omega)) (by rw [hlen]; exact hll) m m (by omega) (fun i hi => by rw [hrun i hi]; rfl) (fun h => by omega) (by omega) (fun i hi => by rw [hNe]; exact hok i hi) (fun h => by omega)
  rw [hlen, show m + 2 - 2 = m by omega, hsum m (Nat.le_refl _), hacc m (Nat.le_refl _), h1] at hmain
  unfold resOf at hmain
  rw [if_neg (by omega), if_neg (by omega), if_neg (by omega), if_neg (by rw [hNe]; simp)] at hmain
  rw [hs, hNe]
  exact hmain
end Go.Proofs.YtpgjpnnjlilokaaDoor

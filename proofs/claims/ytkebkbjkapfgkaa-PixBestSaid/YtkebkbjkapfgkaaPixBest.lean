/- Best and BestOf: the empty list, and the first image that is not right. -/
import Derived.Test.YtkebkbjkapfgkaaPixSharpR
import Derived.Test.YtkebkbjkapfgkaaPixBestMath
namespace Go.Proofs.Ytkebkbjkapfgkaa
open Go.RowKit Go.Sort
set_option linter.unusedVariables false
/-- A list of images in memory. -/
structure ImgList (w : World) (a : Option Addr) (n : Nat) (Ws Hs : Nat → Int) (ads : Nat → Option Addr) (ns cas : Nat → Nat) (px : Nat → Nat → Int) : Prop where
  elems : 0 < n → ∃ b off, a = some ⟨b, off, none⟩ ∧ b < w.heap.size ∧ ∀ i, i < n → w.cell? ⟨b, off + i * 3, none⟩ = some (.int .i64 (Ws i)) ∧ w.cell? ⟨b, off + i * 3 + 1, none⟩ = some (.int .i64 (Hs i)) ∧ w.cell? ⟨b, off + i * 3 + 2, none⟩ = some (.slice (ads i) (ns i) (cas i))
  rows : ∀ i, i < n → Row w (ads i) (ns i) (fun k => .int .u8 (px i k)) ∧ ns i ≤ cas i ∧ cas i ≤ 9223372036854775807 ∧ ns i ≤ 9223372036854775807
theorem ImgList.keep {w w' : World} {a : Option Addr} {n : Nat} {Ws Hs : Nat → Int} {ads : Nat → Option Addr} {ns cas : Nat → Nat} {px : Nat → Nat → Int} (h : ImgList w a n Ws Hs ads ns cas px) (hb : Below w.heap.size w w') : ImgList w' a n Ws Hs ads ns cas px := by
  refine ⟨fun hn => ?_, fun i hi => ⟨(h.rows i hi).1.keep hb, (h.rows i hi).2⟩⟩
  obtain ⟨b, off, rfl, hlt, hc⟩ := h.elems hn
  exact ⟨b, off, rfl, Nat.lt_of_lt_of_le hlt hb.size, fun i hi => ⟨(hb.cell (p := ⟨b, _, none⟩) hlt).trans (hc i hi).1, (hb.cell (p := ⟨b, _, none⟩) hlt).trans (hc i hi).2.1, (hb.cell (p := ⟨b, _, none⟩) hlt).trans (hc i hi).2.2⟩⟩
set_option maxHeartbeats 1000000
-- p.Best: the function; 19: the counter's slot; p.Check: Check or ImageError; check_is: its contract
theorem best_err (a : Option Addr) (n ca : Nat) (Ws Hs : Nat → Int) (ads : Nat → Option Addr) (ns cas : Nat → Nat) (px : Nat → Nat → Int) (w : World) (hl : ImgList w a n Ws Hs ads ns cas px) (hn : n ≤ 9223372036854775807) (j : Nat) (q : Int) (hj : j < n) (h0 : ∀ i, i < j → Im.err (Ws i) (Hs i) (ns i) = 0) (hq : Im.err (Ws j) (Hs j) (ns j) = q) (hne : q ≠ 0) :
    Calls Try.prog 19 #[.slice a n ca] w fun e w' => e = .returned (.tuple #[.int .i64 0, .int .i64 q]) ∧ Below w.heap.size w w' := by
  have HL := Lib.hid hl; clear hl
  have H0 := Lib.hid h0; have HQ := Lib.hid hq; clear h0 hq
  have hq' : (q == 0) = false := by simpa using hne
  have hz : ((n : Int) == 0) = false := by simp; omega
  go_enter Try.func19, Try.ntmps19
  go_wp2_with fail
  go_loopg [19] n (fun gk v wr => ∃ i : Nat, i ≤ j ∧ gk = n - i ∧ v = .int .i64 i ∧ Below w.heap.size w wr)
  case atStart => exact ⟨0, by omega, rfl, rfl, Below.refl _ _⟩
  case round =>
    obtain ⟨i, hi, rfl, rfl, hB⟩ := hrel
    obtain ⟨b, off, rfl, hb, hc⟩ := (HL.out.keep hB).elems (by omega)
    obtain ⟨e0, e1, e2⟩ := hc i (by omega)
    have hns := (HL.out.rows i (by omega)).2.2.2
    clear hc
    by_cases hlt : i < j
    · go_wp2_with (go_at_call 28; refine (check_is _ _ _ _ _ _ hns).mono ?_; rw [H0.out i hlt]; rintro e w2 ⟨rfl, hB2⟩)
      go_roundg (n - (i + 1))
      case rel => exact ⟨i + 1, by omega, rfl, by go_num, below_up (below_allocs hB _) hB2⟩
      case measure => omega
    · obtain rfl : i = j := by omega
      go_wp2_with (go_at_call 28; refine (check_is _ _ _ _ _ _ hns).mono ?_; rw [HQ.out]; rintro e w2 ⟨rfl, hB2⟩)
      go_ret2
      exact ⟨rfl, below_up (below_allocs hB _) hB2⟩
theorem best_none (a : Option Addr) (ca : Nat) (w : World) : Calls Try.prog 19 #[.slice a 0 ca] w fun e w' => e = .returned (.tuple #[.int .i64 0, .int .i64 7]) ∧ Below w.heap.size w w' := by
  go_enter Try.func19, Try.ntmps19
  go_wp2_with fail
  go_ret2
  exact ⟨rfl, Below.refl _ _⟩
-- R.BestOf: the function; 16: the counter's slot; R.ImageError: Check or ImageError; imageError_is: its contract
theorem bestOf_err (a : Option Addr) (n ca : Nat) (Ws Hs : Nat → Int) (ads : Nat → Option Addr) (ns cas : Nat → Nat) (px : Nat → Nat → Int) (w : World) (hl : ImgList w a n Ws Hs ads ns cas px) (hn : n ≤ 9223372036854775807) (j : Nat) (q : Int) (hj : j < n) (h0 : ∀ i, i < j → Im.err (Ws i) (Hs i) (ns i) = 0) (hq : Im.err (Ws j) (Hs j) (ns j) = q) (hne : q ≠ 0) :
    Calls Try.prog 20 #[.slice a n ca] w fun e w' => e = .returned (.tuple #[.int .i64 0, .int .i64 q]) ∧ Below w.heap.size w w' := by
  have HL := Lib.hid hl; clear hl
  have H0 := Lib.hid h0; have HQ := Lib.hid hq; clear h0 hq
  have hq' : (q == 0) = false := by simpa using hne
  have hz : ((n : Int) == 0) = false := by simp; omega
  go_enter Try.func20, Try.ntmps20
  go_wp2_with fail
  go_loopg [16] n (fun gk v wr => ∃ i : Nat, i ≤ j ∧ gk = n - i ∧ v = .int .i64 i ∧ Below w.heap.size w wr)
  case atStart => exact ⟨0, by omega, rfl, rfl, Below.refl _ _⟩
  case round =>
    obtain ⟨i, hi, rfl, rfl, hB⟩ := hrel
    obtain ⟨b, off, rfl, hb, hc⟩ := (HL.out.keep hB).elems (by omega)
    obtain ⟨e0, e1, e2⟩ := hc i (by omega)
    have hns := (HL.out.rows i (by omega)).2.2.2
    clear hc
    by_cases hlt : i < j
    · go_wp2_with (go_at_call 15; refine (imageError_is _ _ _ _ _ _ hns).mono ?_; rw [H0.out i hlt]; rintro e w2 ⟨rfl, hB2⟩)
      go_roundg (n - (i + 1))
      case rel => exact ⟨i + 1, by omega, rfl, by go_num, below_up (below_allocs hB _) hB2⟩
      case measure => omega
    · obtain rfl : i = j := by omega
      go_wp2_with (go_at_call 15; refine (imageError_is _ _ _ _ _ _ hns).mono ?_; rw [HQ.out]; rintro e w2 ⟨rfl, hB2⟩)
      go_ret2
      exact ⟨rfl, below_up (below_allocs hB _) hB2⟩
theorem bestOf_none (a : Option Addr) (ca : Nat) (w : World) : Calls Try.prog 20 #[.slice a 0 ca] w fun e w' => e = .returned (.tuple #[.int .i64 0, .int .i64 7]) ∧ Below w.heap.size w w' := by
  go_enter Try.func20, Try.ntmps20
  go_wp2_with fail
  go_ret2
  exact ⟨rfl, Below.refl _ _⟩
end Go.Proofs.Ytkebkbjkapfgkaa

/- The law WhenGuesses, walked. -/
import Derived.Test.YtdhfhcpgjokhlaaZones
namespace Go.Proofs.Ytdhfhcpgjokhlaa
open Go.RowKit Go.Sort Go.Shelf
set_option linter.unusedVariables false
set_option maxRecDepth 100000 in
set_option maxHeartbeats 2000000 in
theorem whenGuesses_walk (a : Option Addr) (n ca : Nat) (z : Nat → Int) (a2 : Option Addr) (m cb : Nat) (y : Nat → Int) (k : Int) (w : World) (hra : Row w a n (fun i => .int .i64 (z i))) (hrb : Row w a2 m (fun i => .int .i64 (y i))) (hn : n ≤ 9223372036854775807) (hm : m ≤ 9223372036854775807) :
    Calls Try.prog 4 #[.slice a n ca, .slice a2 m cb, .int .i64 k] w fun e w' => e = .returned (.bool true) ∧ Below w.heap.size w w' := by
  obtain ⟨q, hq⟩ : ∃ q, Ev.err z y n m k = q := ⟨_, rfl⟩
  have HE := Lib.hid (fun W hA hB => guessError_is a n ca z a2 m cb y k W hA hB hn hm)
  rw [hq] at HE
  by_cases he : q = 0
  · subst he
    have HG := Lib.hid (zoneGuess_ok a n ca z a2 m cb y k w hra hrb hq)
    have HF := Lib.hid (fun W hA hB => zoneFor_is a n ca z a2 m cb y k W hA hB hq)
    have hzb := zones_bd z y n m k 113 (Nat.le_refl _)
    generalize Ev.zones z y n m k 113 = st at HG HF hzb
    obtain ⟨b, c⟩ := st
    simp only [] at hzb
    have HRA := Lib.hid hra; have HRB := Lib.hid hrb
    clear hq hra hrb
    simp only [guessed] at HG HF
    by_cases hc : c = 0
    · subst hc
      rw [if_pos rfl] at HG
      go_enter Try.func4, Try.ntmps4
      go_wp2_with (first | (go_at_call 14; refine HG.out.mono ?_; rintro e w1 ⟨rfl, hB⟩) | (go_at_call 15; refine (HE.out _ (HRA.out.keep hB) (HRB.out.keep hB)).mono ?_; rintro e w2 ⟨rfl, hB2⟩; have hB := below_up hB hB2) | (go_at_call 16; refine (HF.out _ (HRA.out.keep hB) (HRB.out.keep hB)).mono ?_; rintro e w3 ⟨rfl, hB3⟩; have hB := below_up hB hB3))
      go_ret
      exact ⟨rfl, hB⟩
    · rw [if_neg hc] at HG
      have hzp : 0 < c := by omega
      go_enter Try.func4, Try.ntmps4
      go_wp2_with (first | (go_at_call 14; refine HG.out.mono ?_; rintro e w1 ⟨rfl, hB⟩) | (go_at_call 15; refine (HE.out _ (HRA.out.keep hB) (HRB.out.keep hB)).mono ?_; rintro e w2 ⟨rfl, hB2⟩; have hB := below_up hB hB2) | (go_at_call 16; refine (HF.out _ (HRA.out.keep hB) (HRB.out.keep hB)).mono ?_; rintro e w3 ⟨rfl, hB3⟩; have hB := below_up hB hB3))
      go_ret
      exact ⟨ret_bool (by simp), hB⟩
  · have HG := Lib.hid (zoneGuess_err a n ca z a2 m cb y k w hra hrb hn hm q hq he)
    have HRA := Lib.hid hra; have HRB := Lib.hid hrb
    have he' : (q == 0) = false := by simpa using he
    clear hq hra hrb he
    go_enter Try.func4, Try.ntmps4
    go_wp2_with (first | (go_at_call 14; refine HG.out.mono ?_; rintro e w1 ⟨rfl, hB⟩) | (go_at_call 15; refine (HE.out _ (HRA.out.keep hB) (HRB.out.keep hB)).mono ?_; rintro e w2 ⟨rfl, hB2⟩; have hB := below_up hB hB2))
    go_ret
    exact ⟨ret_bool (by simp), hB⟩
end Go.Proofs.Ytdhfhcpgjokhlaa

/- Repair and Shows as pairs of a number and an error; how they fit. -/
import Derived.Test.YthldlffkgafgaaaDoorShows
namespace Go.Proofs.YthldlffkgafgaaaDoor
open Go.RowKit Go.Sort Go.Shelf
set_option linter.unusedVariables false
def Ck.rpE (S T : Nat → Int) (n : Nat) (t : Int) : Int := if errAt S T n t = 0 then (if Ev.mom (Ck.rep S T n t) = true then 0 else 2) else errAt S T n t
def Ck.rpV (S T : Nat → Int) (n : Nat) (t : Int) : Int := if errAt S T n t = 0 then (if Ev.mom (Ck.rep S T n t) = true then Ck.rep S T n t else 0) else 0
theorem errAt_ok {S T : Nat → Int} {n : Nat} {t : Int} (h : errAt S T n t = 0) : Ck.Right S T n ∧ 0 ≤ t ∧ t ≤ 6311433599 := by
  rcases errAt_cases S T n t with ⟨h1, h2⟩ | ⟨_, _, h2⟩ | ⟨h1, h2, _⟩
  · omega
  · omega
  · exact ⟨Ck.right_of h1, (Ev.mom_iff _).1 h2⟩
theorem repair_any (a : Option Addr) (n ca : Nat) (S T : Nat → Int) (w : World) (hr : Row2 w a n (fun i => .int .i64 (S i)) (fun i => .int .i64 (T i))) (t : Int) (hn : n ≤ 9223372036854775807) :
    Calls Tryd.prog 15 #[.slice a n ca, .int .i64 t] w fun e w' => e = .returned (.tuple #[.int .i64 (Ck.rpV S T n t), .int .i64 (Ck.rpE S T n t)]) ∧ Below w.heap.size w w' := by
  unfold Ck.rpV Ck.rpE
  by_cases h : errAt S T n t = 0
  · rw [if_pos h, if_pos h]
    obtain ⟨hR, ht⟩ := errAt_ok h
    exact repair_ok a n ca S T w hr t _ h hR ht rfl
  · rw [if_neg h, if_neg h]
    exact repair_err a n ca S T w hr t hn _ rfl h
theorem Ck.rp_ok {S T : Nat → Int} {n : Nat} {t : Int} (h : Ck.rpE S T n t = 0) : errAt S T n t = 0 ∧ Ck.rpV S T n t = Ck.rep S T n t := by
  unfold Ck.rpE at h
  split at h
  · rename_i h0
    split at h
    · rename_i h1
      exact ⟨h0, by unfold Ck.rpV; rw [if_pos h0, if_pos h1]⟩
    · omega
  · omega
theorem Ck.rp_mono {S T : Nat → Int} {n : Nat} {a b : Int} (ha : Ck.rpE S T n a = 0) (hb : Ck.rpE S T n b = 0) (hab : a ≤ b) : Ck.rpV S T n a ≤ Ck.rpV S T n b := by
  obtain ⟨h1, e1⟩ := Ck.rp_ok ha
  obtain ⟨_, e2⟩ := Ck.rp_ok hb
  rw [e1, e2]
  exact Ck.rep_mono (errAt_ok h1).1 a b hab
/-- What Shows tells, with an error or without. -/
theorem shows_any (S T : Nat → Int) (n : Nat) (t : Int) (hn : n ≤ 9223372036854775807) : ∃ v e : Int,
    (∀ (a : Option Addr) (ca : Nat) (w : World), Row2 w a n (fun i => .int .i64 (S i)) (fun i => .int .i64 (T i)) → Calls Tryd.prog 16 #[.slice a n ca, .int .i64 t] w fun r w' => r = .returned (.tuple #[.int .i64 v, .int .i64 e]) ∧ Below w.heap.size w w') ∧
    (e ≠ 0 → v = 0) ∧ (e = 0 → 0 ≤ v ∧ v ≤ 6311433599 ∧ (Ck.rpE S T n v = 0 → Ck.rpV S T n v ≤ t) ∧ (v < 6311433599 → Ck.rpE S T n (v + 1) = 0 → t < Ck.rpV S T n (v + 1))) := by
  by_cases h : errAt S T n t = 0
  · obtain ⟨hR, ht⟩ := errAt_ok h
    obtain ⟨N, hN⟩ := secs_ex hR t
    have h0 := hN.lo
    have h1 := hN.hi
    refine ⟨_, _, fun a ca w hr => shows_ok a n ca S T w hr t N h hR hN, ?_, ?_⟩
    · intro he; by_cases c : N = 0
      · rw [if_pos c]
      · rw [if_neg c] at he; omega
    · intro he
      by_cases c : N = 0
      · rw [if_pos c] at he; omega
      · rw [if_neg c]
        refine ⟨by omega, by omega, fun hv => ?_, fun hlt hv => ?_⟩
        · rw [(Ck.rp_ok hv).2]; exact hN.below _ (by omega) (by omega)
        · rw [(Ck.rp_ok hv).2]; exact hN.above _ (by omega) (by omega)
  · exact ⟨0, _, fun a ca w hr => shows_err a n ca S T w hr t hn _ rfl h, fun _ => rfl, fun he => absurd he h⟩
end Go.Proofs.YthldlffkgafgaaaDoor

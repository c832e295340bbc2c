/- The reference's secondsOf, whole. -/
import Derived.Test.YthldlffkgafgaaaDoorSecs
namespace Go.Proofs.YthldlffkgafgaaaDoor
open Go.RowKit Go.Sort
set_option linter.unusedVariables false
theorem ne_of {b c : UInt8} (h : ¬ b = c) : ¬ (b.toNat : Int) = (c.toNat : Int) := fun e => h (UInt8.toNat_inj.1 (by omega))
set_option maxRecDepth 100000 in
set_option maxHeartbeats 4000000 in
theorem secondsOf_bad (s : List UInt8) (d b : UInt8) (hg : ¬ Sc.good s d b) (w : World) :
    Calls Tryd.prog 60 #[.string (Tx.mk s), .int .u8 (d.toNat : Int), .int .u8 (b.toNat : Int)] w fun e w' => e = .returned (.int .i64 (-1)) ∧ Below w.heap.size w w' := by
  have hsz := Tx.mk_size s
  by_cases hl : s.length = 19
  · rw [hl] at hsz
    obtain ⟨c4, g4⟩ : ∃ c, s[4]? = some c := ⟨_, List.getElem?_eq_getElem (by omega)⟩
    obtain ⟨c7, g7⟩ : ∃ c, s[7]? = some c := ⟨_, List.getElem?_eq_getElem (by omega)⟩
    obtain ⟨c10, g10⟩ : ∃ c, s[10]? = some c := ⟨_, List.getElem?_eq_getElem (by omega)⟩
    obtain ⟨c13, g13⟩ : ∃ c, s[13]? = some c := ⟨_, List.getElem?_eq_getElem (by omega)⟩
    obtain ⟨c16, g16⟩ : ∃ c, s[16]? = some c := ⟨_, List.getElem?_eq_getElem (by omega)⟩
    have a4 := strAt s 4 c4 g4
    have a7 := strAt s 7 c7 g7
    have a10 := strAt s 10 c10 g10
    have a13 := strAt s 13 c13 g13
    have a16 := strAt s 16 c16 g16
    by_cases e4 : c4 = d
    · by_cases e7 : c7 = d
      · by_cases e10 : c10 = b
        · by_cases e13 : c13 = 58
          · by_cases e16 : c16 = 58
            · exact absurd ⟨hl, by rw [g4, e4], by rw [g7, e7], by rw [g10, e10], by rw [g13, e13], by rw [g16, e16]⟩ hg
            · have n16 : ¬ (c16.toNat : Int) = 58 := ne_of e16
              subst e4 e7 e10 e13
              clear hg
              go_enter Tryd.func60, Tryd.ntmps60
              go_wp2_with fail
              go_ret
              exact ⟨rfl, Below.refl _ _⟩
          · have n13 : ¬ (c13.toNat : Int) = 58 := ne_of e13
            subst e4 e7 e10
            clear hg
            go_enter Tryd.func60, Tryd.ntmps60
            go_wp2_with fail
            go_ret
            exact ⟨rfl, Below.refl _ _⟩
        · have n10 := ne_of e10
          subst e4 e7
          clear hg
          go_enter Tryd.func60, Tryd.ntmps60
          go_wp2_with fail
          go_ret
          exact ⟨rfl, Below.refl _ _⟩
      · have n7 := ne_of e7
        subst e4
        clear hg
        go_enter Tryd.func60, Tryd.ntmps60
        go_wp2_with fail
        go_ret
        exact ⟨rfl, Below.refl _ _⟩
    · have n4 := ne_of e4
      clear hg
      go_enter Tryd.func60, Tryd.ntmps60
      go_wp2_with fail
      go_ret
      exact ⟨rfl, Below.refl _ _⟩
  · have h1 : ¬ (s.length : Int) = 19 := by omega
    have h2 : ((s.length : Int) == 19) = false := by simp; omega
    have h3 : ((s.length : Int) != 19) = true := by simp; omega
    clear hg
    go_enter Tryd.func60, Tryd.ntmps60
    go_wp2_with fail
    go_ret
    exact ⟨rfl, Below.refl _ _⟩
theorem secondsOf_any (s : List UInt8) (d b : UInt8) (w : World) :
    Calls Tryd.prog 60 #[.string (Tx.mk s), .int .u8 (d.toNat : Int), .int .u8 (b.toNat : Int)] w fun e w' => e = .returned (.int .i64 (Sc.secs s d b)) ∧ Below w.heap.size w w' := by
  unfold Sc.secs
  by_cases h : Sc.good s d b
  · rw [if_pos h]; exact secondsOf_good s d b h w
  · rw [if_neg h]; exact secondsOf_bad s d b h w
theorem Sc.tell_bd (Y M D h m c : Int) : -1 ≤ Sc.tell Y M D h m c ∧ Sc.tell Y M D h m c ≤ 6311433599 := by
  unfold Sc.tell
  split
  · rename_i hh
    have := Cal.num_bd Y M D hh.1
    omega
  · omega
theorem Sc.secs_bd (s : List UInt8) (d b : UInt8) : -1 ≤ Sc.secs s d b ∧ Sc.secs s d b ≤ 6311433599 := by
  unfold Sc.secs
  split
  · exact Sc.tell_bd _ _ _ _ _ _
  · omega
set_option maxRecDepth 100000 in
set_option maxHeartbeats 1000000 in
theorem plainRead_is (s : List UInt8) (w : World) :
    Calls Tryd.prog 26 #[.string (Tx.mk s)] w fun e w' => e = .returned (.tuple #[.int .i64 (if Sc.secs s 58 32 < 0 then 0 else Sc.secs s 58 32), .int .i64 (if Sc.secs s 58 32 < 0 then 8 else 0)]) ∧ Below w.heap.size w w' := by
  have HS : Hid (∀ W, Calls Tryd.prog 60 #[.string (Tx.mk s), .int .u8 58, .int .u8 32] W fun e w' => e = .returned (.int .i64 (Sc.secs s 58 32)) ∧ Below W.heap.size W w') := fun W => secondsOf_any s 58 32 W
  have hb := Sc.secs_bd s 58 32
  generalize Sc.secs s 58 32 = q at *
  by_cases hq : q < 0
  · rw [if_pos hq, if_pos hq]
    go_enter Tryd.func26, Tryd.ntmps26
    go_wp2_with (go_at_call 60; refine (HS.out _).mono ?_; rintro e w1 ⟨rfl, hB⟩)
    go_ret2
    exact ⟨rfl, hB⟩
  · rw [if_neg hq, if_neg hq]
    go_enter Tryd.func26, Tryd.ntmps26
    go_wp2_with (go_at_call 60; refine (HS.out _).mono ?_; rintro e w1 ⟨rfl, hB⟩)
    go_ret2
    exact ⟨rfl, hB⟩
end Go.Proofs.YthldlffkgafgaaaDoor

/- number and few: a number of at most four digits. -/
import Derived.Test.YtpgjpnnjlilokaaDoorPrMath
import Derived.Test.YtpgjpnnjlilokaaDoorDigits
namespace Go.Proofs.YtpgjpnnjlilokaaDoor
open Go.RowKit Go.Sort Go.Shelf
set_option linter.unusedVariables false
/-- What number and few return. -/
def NumPost (w : World) (r : Option Nat) (e : Ending) (w' : World) : Prop := e = .returned (.tuple #[.int .i64 ((r.getD 0 : Nat) : Int), .bool r.isSome]) ∧ Below w.heap.size w w'
theorem NumPost.no {w w' : World} {r : Option Nat} (h : r = none) (hB : Below w.heap.size w w') : NumPost w r (.returned (.tuple #[.int .i64 0, .bool false])) w' := by rw [h]; exact ⟨rfl, hB⟩
theorem NumPost.yes {w w' : World} {r : Option Nat} {n : Nat} (h : r = some n) (hB : Below w.heap.size w w') : NumPost w r (.returned (.tuple #[.int .i64 (n : Int), .bool true])) w' := by rw [h]; exact ⟨rfl, hB⟩
theorem strByte0 (l : List UInt8) (c : UInt8) (h : l[0]? = some c) : (Tx.mk l)[0]'(by rw [Tx.mk_size]; exact (List.getElem?_eq_some_iff.1 h).1) = c := by
  obtain ⟨hj, e⟩ := List.getElem?_eq_some_iff.1 h
  show l.toArray[0]'(by simpa using hj) = c
  simpa using e
set_option maxRecDepth 100000 in
set_option maxHeartbeats 2000000 in
theorem number_is (l : List UInt8) (hl : l.length ≤ 1000000000000) (w : World) : Calls Tryd.prog 36 #[.string (Tx.mk l)] w (NumPost w (Pr.num4 l)) := by
  have hsz := Tx.mk_size l
  by_cases h0 : l = []
  · subst h0
    go_enter Tryd.func36, Tryd.ntmps36
    go_wp2_with fail
    go_ret2
    exact NumPost.no rfl (Below.refl _ _)
  · have hpos := List.length_pos_iff.2 h0
    have e0' : l.isEmpty = false := by cases l with | nil => exact absurd rfl h0 | cons a r => rfl
    by_cases h4 : l.length ≤ 4
    · have h4' : ¬ 4 < l.length := by omega
      have HT := Lib.hid (fun W => trim_is l h0 (by omega) W)
      by_cases h1 : Dg.allD l = true
      · rw [(Dg.trim_nil l).2 h1] at HT
        have HA := Lib.hid (fun W => atoi_is l h0 h1 (by omega) W)
        obtain ⟨c, hc⟩ : ∃ c, l[0]? = some c := ⟨_, List.getElem?_eq_getElem hpos⟩
        have hb := strByte0 l c hc
        by_cases h48 : 1 < l.length ∧ c = 48
        · obtain ⟨h11, rfl⟩ := h48
          have HN : Hid (Pr.num4 l = none) := by show _ = _; unfold Pr.num4; rw [if_neg (fun h => h.2.2 ⟨h11, hc⟩)]
          clear h1
          go_enter Tryd.func36, Tryd.ntmps36
          go_wp2_with (first | (go_at_call 47; refine (HT.out _).mono ?_; rintro e w1 ⟨rfl, hB⟩) | (go_at_call 48; refine (HA.out _).mono ?_; rintro e w2 ⟨rfl, hB2⟩))
          go_ret2
          exact NumPost.no HN.out hB
        · have HN : Hid (Pr.num4 l = some (Dg.val l)) := by show _ = _; unfold Pr.num4; rw [if_pos ⟨⟨hpos, h4⟩, h1, fun h => h48 ⟨h.1, by rw [hc] at h; exact Option.some.inj h.2⟩⟩]
          generalize Dg.val l = v at *
          clear h1
          by_cases h11 : 1 < l.length
          · have hc1 : ¬ (c.toNat : Int) = 48 := fun e => h48 ⟨h11, UInt8.toNat_inj.1 (by show c.toNat = 48; omega)⟩
            have hc2 : ((c.toNat : Int) == 48) = false := by simpa using hc1
            clear h48
            go_enter Tryd.func36, Tryd.ntmps36
            go_wp2_with (first | (go_at_call 47; refine (HT.out _).mono ?_; rintro e w1 ⟨rfl, hB⟩) | (go_at_call 48; refine (HA.out _).mono ?_; rintro e w2 ⟨rfl, hB2⟩))
            go_ret2
            exact NumPost.yes HN.out (below_up hB hB2)
          · clear h48
            go_enter Tryd.func36, Tryd.ntmps36
            go_wp2_with (first | (go_at_call 47; refine (HT.out _).mono ?_; rintro e w1 ⟨rfl, hB⟩) | (go_at_call 48; refine (HA.out _).mono ?_; rintro e w2 ⟨rfl, hB2⟩))
            go_ret2
            exact NumPost.yes HN.out (below_up hB hB2)
      · have HN : Hid (Pr.num4 l = none) := by show _ = _; unfold Pr.num4; rw [if_neg (fun h => h1 h.2.1)]
        have e1 := mkEmpty_no (Lib.trimS l Dg.digits) (fun h => h1 ((Dg.trim_nil l).1 h))
        have HA := HT
        generalize Tx.mk (Lib.trimS l Dg.digits) = t at *
        clear h1
        go_enter Tryd.func36, Tryd.ntmps36
        go_wp2_with (first | (go_at_call 47; refine (HT.out _).mono ?_; rintro e w1 ⟨rfl, hB⟩) | (go_at_call 48; refine (HA.out _).mono ?_; rintro e w2 ⟨rfl, hB2⟩))
        go_ret2
        exact NumPost.no HN.out hB
    · have HN : Hid (Pr.num4 l = none) := by show _ = _; unfold Pr.num4; rw [if_neg (fun h => h4 h.1.2)]
      have h4' : 4 < l.length := by omega
      go_enter Tryd.func36, Tryd.ntmps36
      go_wp2_with fail
      go_ret2
      exact NumPost.no HN.out (Below.refl _ _)
/-- What few returns: a number that is none may be 0 or -1. -/
def FewPost (w : World) (r : Option Nat) (e : Ending) (w' : World) : Prop :=
  (∃ n : Nat, r = some n ∧ e = .returned (.tuple #[.int .i64 (n : Int), .bool true]) ∧ Below w.heap.size w w') ∨ (∃ q : Int, r = none ∧ e = .returned (.tuple #[.int .i64 q, .bool false]) ∧ Below w.heap.size w w')
set_option maxRecDepth 100000 in
set_option maxHeartbeats 2000000 in
theorem few_is (l : List UInt8) (hl : l.length ≤ 1000000000000) (w : World) : Calls Tryd.prog 28 #[.string (Tx.mk l), .int .i64 4] w (FewPost w (Pr.num4 l)) := by
  have hsz := Tx.mk_size l
  by_cases h0 : l.length < 1
  · have HN : Hid (Pr.num4 l = none) := by show _ = _; unfold Pr.num4; rw [if_neg (fun h => by omega)]
    go_enter Tryd.func28, Tryd.ntmps28
    go_wp2_with fail
    go_ret2
    exact .inr ⟨0, HN.out, rfl, Below.refl _ _⟩
  · by_cases h4 : 4 < l.length
    · have HN : Hid (Pr.num4 l = none) := by show _ = _; unfold Pr.num4; rw [if_neg (fun h => by omega)]
      go_enter Tryd.func28, Tryd.ntmps28
      go_wp2_with fail
      go_ret2
      exact .inr ⟨0, HN.out, rfl, Below.refl _ _⟩
    · have HF := Lib.hid (fun W => fixed_is l l.length (by omega) (by omega) W)
      obtain ⟨c, hc⟩ : ∃ c, l[0]? = some c := ⟨_, List.getElem?_eq_getElem (by omega)⟩
      have hb := strByte0 l c hc
      by_cases h48 : 1 < l.length ∧ c = 48
      · obtain ⟨h11, rfl⟩ := h48
        have HN : Hid (Pr.num4 l = none) := by show _ = _; unfold Pr.num4; rw [if_neg (fun h => h.2.2 ⟨h11, hc⟩)]
        go_enter Tryd.func28, Tryd.ntmps28
        go_wp2_with fail
        go_ret2
        exact .inr ⟨0, HN.out, rfl, Below.refl _ _⟩
      · obtain ⟨q, hq⟩ : ∃ q : Int, (if l.length = l.length ∧ Dg.allD l = true then (Dg.val l : Int) else -1) = q := ⟨_, rfl⟩
        rw [hq] at HF
        have hN : (q = -1 ∧ Pr.num4 l = none) ∨ ∃ v : Nat, q = v ∧ Pr.num4 l = some v := by
          by_cases h1 : Dg.allD l = true
          · rw [if_pos ⟨rfl, h1⟩] at hq
            exact .inr ⟨_, hq.symm, by unfold Pr.num4; rw [if_pos ⟨⟨by omega, by omega⟩, h1, fun h => h48 ⟨h.1, by rw [hc] at h; exact Option.some.inj h.2⟩⟩]⟩
          · rw [if_neg (fun h => h1 h.2)] at hq
            exact .inl ⟨hq.symm, by unfold Pr.num4; rw [if_neg (fun h => h1 h.2.1)]⟩
        have hc2 : ¬ 1 < l.length ∨ ((c.toNat : Int) == 48) = false := by
          by_cases h11 : 1 < l.length
          · right; rw [beq_eq_false_iff_ne]; intro e; exact h48 ⟨h11, UInt8.toNat_inj.1 (by show c.toNat = 48; omega)⟩
          · exact .inl h11
        clear hq h48
        rcases hN with ⟨rfl, hn⟩ | ⟨v, rfl, hn⟩
        all_goals
          have HN := Lib.hid hn
          clear hn
          rcases hc2 with hc2 | hc2
          all_goals
            by_cases h11 : 1 < l.length
            all_goals
              first
                | exact absurd h11 hc2
                | (go_enter Tryd.func28, Tryd.ntmps28
                   go_wp2_with (go_at_call 38; refine (HF.out _).mono ?_; rintro e w2 ⟨rfl, rfl⟩)
                   go_ret2
                   first | exact .inl ⟨_, HN.out, rfl, Below.refl _ _⟩ | exact .inr ⟨-1, HN.out, rfl, Below.refl _ _⟩)
end Go.Proofs.YtpgjpnnjlilokaaDoor

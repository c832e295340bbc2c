/- The reference's fixed: just so many digits. -/
import Derived.Test.YtpgjpnnjlilokaaDoorDigMath
import Derived.Test.YtpgjpnnjlilokaaDoorKit
namespace Go.Proofs.YtpgjpnnjlilokaaDoor
open Go.RowKit Go.Sort
set_option linter.unusedVariables false
namespace Dg
theorem allD_snoc {l : List UInt8} {j : Nat} (h : allD (l.take j) = true) {b : UInt8} (hb : l[j]? = some b) (hd : isD b = true) : allD (l.take (j + 1)) = true := by
  rw [List.take_add_one, hb]
  unfold allD at *
  simp [List.all_append, h, hd]
theorem valF_snoc (l : List UInt8) (b : UInt8) : ∀ n, valF n (l ++ [b]) = 10 * valF n l + (b.toNat - 48) := by
  induction l with
  | nil => intro n; rfl
  | cons a r ih => intro n; exact ih _
theorem val_snoc {l : List UInt8} {j : Nat} {b : UInt8} (hb : l[j]? = some b) : val (l.take (j + 1)) = 10 * val (l.take j) + (b.toNat - 48) := by
  rw [List.take_add_one, hb]
  exact valF_snoc _ _ _
theorem allD_no {l : List UInt8} {j : Nat} {b : UInt8} (hb : l[j]? = some b) (hd : isD b = false) : allD l = false := by
  unfold allD
  rw [List.all_eq_false]
  exact ⟨b, List.mem_of_getElem? hb, by rw [hd]; simp⟩
end Dg
theorem strIdx (l : List UInt8) (j : Nat) (b : UInt8) (hb : l[j]? = some b) (V : World) : (Instr.index 9 (.string (Tx.mk l)) (.int .i64 (j : Int))).run Tryd.prog V = .ok (.int .u8 (b.toNat : Int)) V := by
  obtain ⟨hj, e⟩ := List.getElem?_eq_some_iff.1 hb
  have h0 : (0 : Int) ≤ (j : Int) := by omega
  have hsz := Tx.mk_size l
  have h1 : (j : Int) < ((Tx.mk l).size : Int) := by rw [hsz]; omega
  have h2 : (j : Int) < (l.length : Int) := by omega
  go_simp
  have h3 : (Tx.mk l)[j]'(by rw [hsz]; exact hj) = b := by
    show l.toArray[j]'(by simpa using hj) = b
    simpa using e
  rw [h3]
set_option maxRecDepth 100000 in
set_option maxHeartbeats 2000000 in
theorem fixed_is (l : List UInt8) (many : Nat) (hm : many ≤ 18) (hl : l.length ≤ 9223372036854775807) (w : World) :
    Calls Tryd.prog 38 #[.string (Tx.mk l), .int .i64 many] w fun e w' => e = .returned (.int .i64 (if l.length = many ∧ Dg.allD l = true then (Dg.val l : Int) else -1)) ∧ w' = w := by
  have hsz := Tx.mk_size l
  obtain ⟨q, hq⟩ : ∃ q : Int, (if l.length = many ∧ Dg.allD l = true then (Dg.val l : Int) else -1) = q := ⟨_, rfl⟩
  rw [hq]
  have HQ := Lib.hid hq
  clear hq
  by_cases h0 : l.length = many
  · have HL := Lib.hid h0
    go_enter Tryd.func38, Tryd.ntmps38
    go_wp2_with fail
    go_loopg [5, 13] many (fun gk v i wr => ∃ j : Nat, j ≤ many ∧ gk = many - j ∧ v = .int .i64 (Dg.val (l.take j)) ∧ i = .int .i64 j ∧ Dg.allD (l.take j) = true ∧ w = wr)
    case atStart => exact ⟨0, by omega, rfl, rfl, rfl, rfl, rfl⟩
    case round =>
      obtain ⟨j, hj, rfl, rfl, rfl, had, rfl⟩ := hrel
      by_cases hlt : j < many
      · have hjl : j < l.length := by rw [HL.out]; exact hlt
        obtain ⟨b, hb⟩ : ∃ b, l[j]? = some b := ⟨_, List.getElem?_eq_getElem hjl⟩
        have hidx := strIdx l j b hb
        have hbt := b.toNat_lt
        have hlti : (j : Int) < (many : Int) := by omega
        have hs1 := Dg.val_snoc hb
        have hvb : Dg.val (l.take j) < 100000000000000000 := by
          have h1 := Dg.val_lt had
          have h2 : (l.take j).length ≤ 17 := by rw [List.length_take]; omega
          exact Nat.lt_of_lt_of_le h1 (Nat.pow_le_pow_right (by omega) h2)
        cases hd : Dg.isD b
        · have hn := Dg.allD_no hb hd
          have HR : Hid ((-1 : Int) = q) := by show _ = _; rw [← HQ.out, if_neg (by rw [hn]; simp)]
          have hd' : ¬ (48 ≤ b.toNat ∧ b.toNat ≤ 57) := by simpa [Dg.isD] using hd
          have HB := Lib.hid hb
          generalize Dg.val (l.take j) = v at *
          clear hb hs1 hn hd had
          by_cases c1 : b.toNat < 48
          · generalize b.toNat = u at *
            go_wp2_with fail
            go_ret
            exact ⟨ret_int HR.out, rfl⟩
          · have c2 : 57 < b.toNat := by omega
            generalize b.toNat = u at *
            go_wp2_with fail
            go_ret
            exact ⟨ret_int HR.out, rfl⟩
        · have hd' : 48 ≤ b.toNat ∧ b.toNat ≤ 57 := by simpa [Dg.isD] using hd
          have had2 := Lib.hid (Dg.allD_snoc had hb hd)
          have HS1 := Lib.hid hs1
          have HB := Lib.hid hb
          clear hs1 hb hd had
          generalize Dg.val (l.take j) = v at *
          generalize b.toNat = u at *
          go_wp2_with fail
          go_roundg (many - (j + 1))
          case rel => exact ⟨j + 1, by omega, rfl, by rw [HS1.out]; refine congrArg _ ?_; first | omega | (unfold wrap64; omega), by go_num, had2.out, rfl⟩
          case measure => omega
      · obtain rfl : j = many := by omega
        have e : l.take j = l := by rw [← HL.out, List.take_length]
        rw [e] at had
        have HR : Hid ((Dg.val (l.take j) : Int) = q) := by show _ = _; rw [e, ← HQ.out, if_pos ⟨HL.out, had⟩]
        clear e had
        go_wp2_with fail
        go_ret
        exact ⟨ret_int HR.out, rfl⟩
  · have HR : Hid ((-1 : Int) = q) := by show _ = _; rw [← HQ.out, if_neg (fun h => h0 h.1)]
    have h1 : ¬ (l.length : Int) = (many : Int) := by omega
    have h2 : ((l.length : Int) == (many : Int)) = false := by simp; omega
    have h3 : ((l.length : Int) != (many : Int)) = true := by simp; omega
    go_enter Tryd.func38, Tryd.ntmps38
    go_wp2_with fail
    go_ret
    exact ⟨ret_int HR.out, rfl⟩
end Go.Proofs.YtpgjpnnjlilokaaDoor

/- run: a line of a run, by the document. -/
import Derived.Test.YtpgjpnnjlilokaaDoorRdRun
import Derived.Test.YtpgjpnnjlilokaaDoorPixGrow
namespace Go.Proofs.YtpgjpnnjlilokaaDoor
open Go.RowKit Go.Sort Go.Shelf
set_option linter.unusedVariables false
namespace Pr
/-- Byte j of six digits. -/
def pair (X : List UInt8) (j : Nat) : Option Nat := two (X.getD (2 * j) 0) (X.getD (2 * j + 1) 0)
theorem px6_pair {X : List UInt8} (hl : X.length = 6) : px6 X = (pair X 0).bind fun x => (pair X 1).bind fun y => (pair X 2).map fun z => (x, y, z) := by
  obtain ⟨a, b, c, d, e, f, rfl⟩ := six hl
  rfl
theorem two_some {c d : UInt8} {b : Nat} (h : two c d = some b) : ∃ x y, hv c = some x ∧ hv d = some y ∧ b = 16 * x + y ∧ x < 16 ∧ y < 16 := by
  unfold two at h
  cases hc : hv c with
  | none => rw [hc] at h; cases h
  | some x =>
    cases hd : hv d with
    | none => rw [hc, hd] at h; cases h
    | some y =>
      rw [hc, hd] at h
      injection h with h
      exact ⟨x, y, rfl, rfl, h.symm, hv_lt hc, hv_lt hd⟩
theorem two_none {c d : UInt8} (h : two c d = none) : hv c = none ∨ ∃ x, hv c = some x ∧ hv d = none := by
  unfold two at h
  cases hc : hv c with
  | none => exact .inl rfl
  | some x =>
    cases hd : hv d with
    | none => exact .inr ⟨x, rfl, rfl⟩
    | some y => rw [hc, hd] at h; cases h
end Pr
theorem infoU8 : (Tryd.prog.info? 5).map (fun i => (i.zero, i.size, i.bytes)) = some (some (.int .u8 0), 1, 1) := by kernel_rfl
theorem own_below {w w' : World} {base : Nat} {e : TypeId} {size : Nat} {v : Value} {n : Nat} {xs : List Value} (h : w.ownsRow base e size v n xs) (hb : Below w.heap.size w w') : w'.ownsRow base e size v n xs :=
  h.kept (row := none) ⟨hb.os, hb.tape, hb.output, hb.size, fun k hk _ => hb.block k hk⟩ (Classical.em _)
/-- The first k bytes. -/
def pxs (a b c : Nat) : Nat → List Value
  | 0 => []
  | 1 => [.int .u8 a]
  | 2 => [.int .u8 a, .int .u8 b]
  | _ => [.int .u8 a, .int .u8 b, .int .u8 c]
/-- What run returns. -/
def RunRPost (w : World) (r : Option (Nat × Nat × Nat × Nat)) (e : Ending) (w' : World) : Prop :=
  Below w.heap.size w w' ∧ match r with
  | none => e = .returned (.tuple #[.int .i64 0, .slice none 0 0, .bool false])
  | some (n, a, b, c) => ∃ g cap, e = .returned (.tuple #[.int .i64 n, .slice (some ⟨g, 0, none⟩) 3 cap, .bool true]) ∧ w'.ownsRow w.heap.size 5 1 (.slice (some ⟨g, 0, none⟩) 3 cap) 3 (pxs a b c 3)
theorem idxHex (c : UInt8) (q : Int) (hq : Lib.indexByte Pr.hexd c = q) (V : World) : Calls Tryd.prog 37 #[.string ⟨#[48, 49, 50, 51, 52, 53, 54, 55, 56, 57, 97, 98, 99, 100, 101, 102]⟩, .int .u8 c.toNat] V fun e w' => e = .returned (.int .i64 q) ∧ V = w' := by
  refine (idxByte_is Pr.hexd c V).mono ?_
  rintro e w' ⟨rfl, rfl⟩
  exact ⟨by rw [hq], rfl⟩
set_option maxRecDepth 100000 in
set_option maxHeartbeats 2000000 in
theorem run_no (s : List UInt8) (hs : s.length ≤ 1000000) (w : World) (hm : Mx w) (h : Pr.num4 (Lib.cut s [32]).1 = none ∨ (Lib.cut s [32]).2.1.length ≠ 6) : Calls Tryd.prog 29 #[.string (Tx.mk s)] w (RunRPost w none) := by
  have hlen := cut_len s [32]
  have HC := Lib.hid (cut_is s [32] (by omega) w hm)
  have HN := Lib.hid (fun W => few_is (Lib.cut s [32]).1 (by omega) W)
  generalize (Lib.cut s [32]).1 = A at *
  generalize (Lib.cut s [32]).2.1 = X at *
  generalize (Lib.cut s [32]).2.2 = B at *
  have hsz := Tx.mk_size X
  cases hn : Pr.num4 A with
  | none =>
    have HN2 : Hid (∀ W, Calls Tryd.prog 28 #[.string (Tx.mk A), .int .i64 4] W fun e w' => ∃ q : Int, e = .returned (.tuple #[.int .i64 q, .bool false]) ∧ Below W.heap.size W w') := by
      intro W
      refine (HN.out W).mono ?_
      rintro e w' (⟨n, hr, _⟩ | ⟨q, _, rfl, hB⟩)
      · rw [hn] at hr; cases hr
      · exact ⟨q, rfl, hB⟩
    clear h hn HN
    cases B with
    | true =>
      go_enter Tryd.func29, Tryd.ntmps29
      go_wp2_with (first
        | (go_at_call 35; (with_reducible refine HC.out.mono ?_); rintro e w2 ⟨rfl, hB2⟩)
        | (go_at_call 28; (with_reducible refine (HN2.out _).mono ?_); rintro e w3 ⟨q, rfl, hB3⟩; have hB13 := below_up hB2 hB3))
      exact bodyPost_ret (v := .tuple #[.int .i64 0, .slice none 0 0, .bool false]) (by simp [results, Tryd.results29, go_sem]) rfl ⟨hB13, rfl⟩
    | false =>
      go_enter Tryd.func29, Tryd.ntmps29
      go_wp2_with (first
        | (go_at_call 35; (with_reducible refine HC.out.mono ?_); rintro e w2 ⟨rfl, hB2⟩)
        | (go_at_call 28; (with_reducible refine (HN2.out _).mono ?_); rintro e w3 ⟨q, rfl, hB3⟩; have hB13 := below_up hB2 hB3))
      exact bodyPost_ret (v := .tuple #[.int .i64 0, .slice none 0 0, .bool false]) (by simp [results, Tryd.results29, go_sem]) rfl ⟨hB13, rfl⟩
  | some n =>
    have h6 : ¬ X.length = 6 := by rcases h with h | h; rw [hn] at h; cases h; exact h
    have h6' : ¬ (X.length : Int) = 6 := by omega
    have HN2 : Hid (∀ W, Calls Tryd.prog 28 #[.string (Tx.mk A), .int .i64 4] W fun e w' => e = .returned (.tuple #[.int .i64 (n : Int), .bool true]) ∧ Below W.heap.size W w') := by
      intro W
      refine (HN.out W).mono ?_
      rintro e w' (⟨m, hr, rfl, hB⟩ | ⟨q, hr, rfl, hB⟩)
      · rw [hn] at hr; injection hr with hr; subst hr; exact ⟨rfl, hB⟩
      · rw [hn] at hr; cases hr
    clear h hn HN
    cases B with
    | true =>
      go_enter Tryd.func29, Tryd.ntmps29
      go_wp2_with (first
        | (go_at_call 35; (with_reducible refine HC.out.mono ?_); rintro e w2 ⟨rfl, hB2⟩)
        | (go_at_call 28; (with_reducible refine (HN2.out _).mono ?_); rintro e w3 ⟨rfl, hB3⟩; have hB13 := below_up hB2 hB3))
      exact bodyPost_ret (v := .tuple #[.int .i64 0, .slice none 0 0, .bool false]) (by simp [results, Tryd.results29, go_sem]) rfl ⟨hB13, rfl⟩
    | false =>
      go_enter Tryd.func29, Tryd.ntmps29
      go_wp2_with (first
        | (go_at_call 35; (with_reducible refine HC.out.mono ?_); rintro e w2 ⟨rfl, hB2⟩)
        | (go_at_call 28; (with_reducible refine (HN2.out _).mono ?_); rintro e w3 ⟨rfl, hB3⟩; have hB13 := below_up hB2 hB3))
      exact bodyPost_ret (v := .tuple #[.int .i64 0, .slice none 0 0, .bool false]) (by simp [results, Tryd.results29, go_sem]) rfl ⟨hB13, rfl⟩
set_option maxRecDepth 100000 in
set_option maxHeartbeats 4000000 in
theorem run_six (s : List UInt8) (hs : s.length ≤ 1000000) (w : World) (hm : Mx w) (n : Nat) (h : Pr.num4 (Lib.cut s [32]).1 = some n) (h6 : (Lib.cut s [32]).2.1.length = 6) (hmore : (Lib.cut s [32]).2.2 = true) :
    Calls Tryd.prog 29 #[.string (Tx.mk s)] w (RunRPost w ((Pr.px6 (Lib.cut s [32]).2.1).map fun p => (n, p))) := by
  have hlen := cut_len s [32]
  have HC := Lib.hid (cut_is s [32] (by omega) w hm)
  have HN0 := few_is (Lib.cut s [32]).1 (by omega)
  rw [hmore] at HC
  generalize (Lib.cut s [32]).1 = A at *
  generalize (Lib.cut s [32]).2.1 = X at *
  have hsz := Tx.mk_size X
  have h6' : (X.length : Int) = 6 := by omega
  have HN : Hid (∀ W, Calls Tryd.prog 28 #[.string (Tx.mk A), .int .i64 4] W fun e w' => e = .returned (.tuple #[.int .i64 (n : Int), .bool true]) ∧ Below W.heap.size W w') := by
    intro W
    refine (HN0 W).mono ?_
    rintro e w' (⟨m, hr, rfl, hB⟩ | ⟨q, hr, rfl, hB⟩)
    · rw [h] at hr; injection hr with hr; subst hr; exact ⟨rfl, hB⟩
    · rw [h] at hr; cases hr
  obtain ⟨i0, hi0, hz0, hz1, hz2⟩ := info_parts infoU8
  have HU0 := Lib.hid hi0; have HU1 := Lib.hid hz0; have HU2 := Lib.hid hz1; have HU3 := Lib.hid hz2
  clear hi0 hz0 hz1 hz2 HN0 hmore
  have HIX : Hid (∀ k : Nat, k < 6 → ∀ V : World, (Instr.index 9 (.string (Tx.mk X)) (.int .i64 (k : Int))).run Tryd.prog V = .ok (.int .u8 ((X.getD k 0).toNat : Int)) V) := by
    intro k hk V
    exact strIdx X k _ (by rw [List.getD_eq_getElem?_getD, List.getElem?_eq_getElem (by omega)]; rfl) V
  have HP : Hid (∀ k, k < 3 → Pr.pair X k = none → (Pr.px6 X).map (fun p => (n, p)) = none) := by
    intro k hk hp
    rw [Pr.px6_pair h6]
    have hks : k = 0 ∨ k = 1 ∨ k = 2 := by omega
    rcases hks with rfl | rfl | rfl <;> rw [hp] <;> simp
  have HS : Hid (∀ a b c, Pr.pair X 0 = some a → Pr.pair X 1 = some b → Pr.pair X 2 = some c → (Pr.px6 X).map (fun p => (n, p)) = some (n, a, b, c)) := by
    intro a b c ha hb hc
    rw [Pr.px6_pair h6, ha, hb, hc]; rfl
  clear h h6
  go_enter Tryd.func29, Tryd.ntmps29
  go_wp2_with (first
    | (go_at_call 35; (with_reducible refine HC.out.mono ?_); rintro e w2 ⟨rfl, hB2⟩)
    | (go_at_call 28; (with_reducible refine (HN.out _).mono ?_); rintro e w3 ⟨rfl, hB3⟩; have hB13 := below_up hB2 hB3))
  go_loopg [10, 11] 3 (fun gk v i wr => ∃ k a b c : Nat, k ≤ 3 ∧ gk = 3 - k ∧ i = .int .i64 ((2 * k : Nat) : Int) ∧ (0 < k → Pr.pair X 0 = some a) ∧ (1 < k → Pr.pair X 1 = some b) ∧ (2 < k → Pr.pair X 2 = some c) ∧ wr.ownsRow w.heap.size 5 1 v k (pxs a b c k) ∧ Below w.heap.size w wr)
  case atStart => exact ⟨0, 0, 0, 0, by omega, rfl, rfl, fun h => by omega, fun h => by omega, fun h => by omega, ⟨rfl, .inl ⟨rfl, rfl⟩⟩, hB13⟩
  case round =>
    obtain ⟨k, a, b, c, hk3, rfl, rfl, ha, hb, hc, hown, hB⟩ := hrel
    have hks : k = 0 ∨ k = 1 ∨ k = 2 ∨ k = 3 := by omega
    rcases hks with rfl | rfl | rfl | rfl
    · -- the round of byte 0 (the loop's variable stands at 0); 1: the other place; _: the slice's form
      simp only [Nat.mul_zero, Int.natCast_zero]
      have hi0 : ∀ V : World, (Instr.index 9 (.string (Tx.mk X)) (.int .i64 0)).run Tryd.prog V = .ok (.int .u8 ((X.getD 0 0).toNat : Int)) V := HIX.out 0 (by omega)
      have hi1 : ∀ V : World, (Instr.index 9 (.string (Tx.mk X)) (.int .i64 1)).run Tryd.prog V = .ok (.int .u8 ((X.getD 1 0).toNat : Int)) V := HIX.out 1 (by omega)
      have hz : (X.length : Int) = 6 := by omega
      cases hp : Pr.pair X 0 with
      | none =>
        have HPN := Lib.hid (HP.out 0 (by omega) hp)
        rcases Pr.two_none (show Pr.two (X.getD 0 0) (X.getD 1 0) = none from hp) with hv0 | ⟨x, hv0, hv1⟩
        · have HI0 := Lib.hid (idxHex (X.getD 0 0) (-1) (by rw [Pr.index_hex, hv0]))
          obtain ⟨q, hq⟩ : ∃ q, Lib.indexByte Pr.hexd (X.getD 1 0) = q := ⟨_, rfl⟩
          have HI1 := Lib.hid (idxHex (X.getD 1 0) q hq)
          clear hv0 hq hp
          generalize (X.getD 0 0).toNat = c0 at *
          generalize (X.getD 1 0).toNat = c1 at *
          go_wp2_with fail
          go_quiet ((go_at_call 37; first | with_reducible exact quiet_same (HI0.out _) | with_reducible exact quiet_same (HI1.out _)))
          go_wp2_with fail
          exact bodyPost_ret (v := .tuple #[.int .i64 0, .slice none 0 0, .bool false]) (by simp [results, Tryd.results29, go_sem]) rfl (by rw [HPN.out]; exact ⟨below_drewN hB _, rfl⟩)
        · have HI0 := Lib.hid (idxHex (X.getD 0 0) x (by rw [Pr.index_hex, hv0]))
          have HI1 := Lib.hid (idxHex (X.getD 1 0) (-1) (by rw [Pr.index_hex, hv1]))
          clear hv0 hv1 hp
          generalize (X.getD 0 0).toNat = c0 at *
          generalize (X.getD 1 0).toNat = c1 at *
          go_wp2_with fail
          go_quiet ((go_at_call 37; first | with_reducible exact quiet_same (HI0.out _) | with_reducible exact quiet_same (HI1.out _)))
          go_wp2_with fail
          exact bodyPost_ret (v := .tuple #[.int .i64 0, .slice none 0 0, .bool false]) (by simp [results, Tryd.results29, go_sem]) rfl (by rw [HPN.out]; exact ⟨below_drewN hB _, rfl⟩)
      | some bb =>
        obtain ⟨x, y, hv0, hv1, hbb, hx16, hy16⟩ := Pr.two_some (show Pr.two (X.getD 0 0) (X.getD 1 0) = some bb from hp)
        have HI0 := Lib.hid (idxHex (X.getD 0 0) x (by rw [Pr.index_hex, hv0]))
        have HI1 := Lib.hid (idxHex (X.getD 1 0) y (by rw [Pr.index_hex, hv1]))
        clear hv0 hv1
        have HPP := Lib.hid hp; clear hp
        generalize (X.getD 0 0).toNat = c0 at *
        generalize (X.getD 1 0).toNat = c1 at *
        go_wp2_with fail
        go_quiet ((go_at_call 37; first | with_reducible exact quiet_same (HI0.out _) | with_reducible exact quiet_same (HI1.out _)))
        have hO2 := own_below hown (below_drewN (Below.refl wr.heap.size wr) nq)
        have hB2 := below_drewN hB nq
        generalize wr.drewN nq = wq at *
        go_wp2_with (at_builtin; refine wpList_append_own2 _ rfl _ _ 22 rfl w.heap.size 5 i0 (.int .u8 0) 1 1 Tryd.underlying22 HU0.out HU1.out HU2.out HU3.out rfl (by decide) _ _ _ rfl (hO2.alloc _) ⟨wq.heap.size, 0, none⟩ 1 1 [.int .u8 (16 * (x : Int) + (y : Int))] rfl (by decide) rfl (cell_one_new _ _ _) (by simp [Value.oneCell']) (by unfold maxLen; omega) (by omega) (by have := hB2.size; simp; omega) ?_; intro g5 cap5 w5 hown5 hgrow5 hnew5)
        have hBa := (below_allocs hB2 (.cells #[.int .u8 (16 * (x : Int) + (y : Int))] 5)).grown hgrow5 (by simp; have := hB2.size; omega) (fun k e => by have := (hown.lt k e).1; omega)
        go_wp2_with fail
        go_roundg (3 - (0 + 1))
        case measure => omega
        case rel => exact ⟨1, bb, b, c, by omega, rfl, by go_num, fun _ => HPP.out, fun h => by omega, fun h => by omega, by rw [hbb]; exact hown5, hBa⟩
    · -- the round of byte 1 (the loop's variable stands at 2); 3: the other place; _: the slice's form
      simp only [Nat.mul_one, Int.cast_ofNat_Int]
      have hi0 : ∀ V : World, (Instr.index 9 (.string (Tx.mk X)) (.int .i64 2)).run Tryd.prog V = .ok (.int .u8 ((X.getD 2 0).toNat : Int)) V := HIX.out 2 (by omega)
      have hi1 : ∀ V : World, (Instr.index 9 (.string (Tx.mk X)) (.int .i64 3)).run Tryd.prog V = .ok (.int .u8 ((X.getD 3 0).toNat : Int)) V := HIX.out 3 (by omega)
      have hz : (X.length : Int) = 6 := by omega
      cases hp : Pr.pair X 1 with
      | none =>
        have HPN := Lib.hid (HP.out 1 (by omega) hp)
        rcases Pr.two_none (show Pr.two (X.getD 2 0) (X.getD 3 0) = none from hp) with hv0 | ⟨x, hv0, hv1⟩
        · have HI0 := Lib.hid (idxHex (X.getD 2 0) (-1) (by rw [Pr.index_hex, hv0]))
          obtain ⟨q, hq⟩ : ∃ q, Lib.indexByte Pr.hexd (X.getD 3 0) = q := ⟨_, rfl⟩
          have HI1 := Lib.hid (idxHex (X.getD 3 0) q hq)
          clear hv0 hq hp
          generalize (X.getD 2 0).toNat = c0 at *
          generalize (X.getD 3 0).toNat = c1 at *
          go_wp2_with fail
          go_quiet ((go_at_call 37; first | with_reducible exact quiet_same (HI0.out _) | with_reducible exact quiet_same (HI1.out _)))
          go_wp2_with fail
          exact bodyPost_ret (v := .tuple #[.int .i64 0, .slice none 0 0, .bool false]) (by simp [results, Tryd.results29, go_sem]) rfl (by rw [HPN.out]; exact ⟨below_drewN hB _, rfl⟩)
        · have HI0 := Lib.hid (idxHex (X.getD 2 0) x (by rw [Pr.index_hex, hv0]))
          have HI1 := Lib.hid (idxHex (X.getD 3 0) (-1) (by rw [Pr.index_hex, hv1]))
          clear hv0 hv1 hp
          generalize (X.getD 2 0).toNat = c0 at *
          generalize (X.getD 3 0).toNat = c1 at *
          go_wp2_with fail
          go_quiet ((go_at_call 37; first | with_reducible exact quiet_same (HI0.out _) | with_reducible exact quiet_same (HI1.out _)))
          go_wp2_with fail
          exact bodyPost_ret (v := .tuple #[.int .i64 0, .slice none 0 0, .bool false]) (by simp [results, Tryd.results29, go_sem]) rfl (by rw [HPN.out]; exact ⟨below_drewN hB _, rfl⟩)
      | some bb =>
        obtain ⟨x, y, hv0, hv1, hbb, hx16, hy16⟩ := Pr.two_some (show Pr.two (X.getD 2 0) (X.getD 3 0) = some bb from hp)
        have HI0 := Lib.hid (idxHex (X.getD 2 0) x (by rw [Pr.index_hex, hv0]))
        have HI1 := Lib.hid (idxHex (X.getD 3 0) y (by rw [Pr.index_hex, hv1]))
        clear hv0 hv1
        have HPP := Lib.hid hp; clear hp
        generalize (X.getD 2 0).toNat = c0 at *
        generalize (X.getD 3 0).toNat = c1 at *
        go_wp2_with fail
        go_quiet ((go_at_call 37; first | with_reducible exact quiet_same (HI0.out _) | with_reducible exact quiet_same (HI1.out _)))
        have hO2 := own_below hown (below_drewN (Below.refl wr.heap.size wr) nq)
        have hB2 := below_drewN hB nq
        generalize wr.drewN nq = wq at *
        go_wp2_with (at_builtin; refine wpList_append_own2 _ rfl _ _ 22 rfl w.heap.size 5 i0 (.int .u8 0) 1 1 Tryd.underlying22 HU0.out HU1.out HU2.out HU3.out rfl (by decide) _ _ _ rfl (hO2.alloc _) ⟨wq.heap.size, 0, none⟩ 1 1 [.int .u8 (16 * (x : Int) + (y : Int))] rfl (by decide) rfl (cell_one_new _ _ _) (by simp [Value.oneCell']) (by unfold maxLen; omega) (by omega) (by have := hB2.size; simp; omega) ?_; intro g5 cap5 w5 hown5 hgrow5 hnew5)
        have hBa := (below_allocs hB2 (.cells #[.int .u8 (16 * (x : Int) + (y : Int))] 5)).grown hgrow5 (by simp; have := hB2.size; omega) (fun k e => by have := (hown.lt k e).1; omega)
        go_wp2_with fail
        go_roundg (3 - (1 + 1))
        case measure => omega
        case rel => exact ⟨2, a, bb, c, by omega, rfl, by go_num, fun _ => ha (by omega), fun _ => HPP.out, fun h => by omega, by rw [hbb]; exact hown5, hBa⟩
    · -- the round of byte 2 (the loop's variable stands at 4); 5: the other place; _: the slice's form
      simp only [Nat.reduceMul, Int.cast_ofNat_Int]
      have hi0 : ∀ V : World, (Instr.index 9 (.string (Tx.mk X)) (.int .i64 4)).run Tryd.prog V = .ok (.int .u8 ((X.getD 4 0).toNat : Int)) V := HIX.out 4 (by omega)
      have hi1 : ∀ V : World, (Instr.index 9 (.string (Tx.mk X)) (.int .i64 5)).run Tryd.prog V = .ok (.int .u8 ((X.getD 5 0).toNat : Int)) V := HIX.out 5 (by omega)
      have hz : (X.length : Int) = 6 := by omega
      cases hp : Pr.pair X 2 with
      | none =>
        have HPN := Lib.hid (HP.out 2 (by omega) hp)
        rcases Pr.two_none (show Pr.two (X.getD 4 0) (X.getD 5 0) = none from hp) with hv0 | ⟨x, hv0, hv1⟩
        · have HI0 := Lib.hid (idxHex (X.getD 4 0) (-1) (by rw [Pr.index_hex, hv0]))
          obtain ⟨q, hq⟩ : ∃ q, Lib.indexByte Pr.hexd (X.getD 5 0) = q := ⟨_, rfl⟩
          have HI1 := Lib.hid (idxHex (X.getD 5 0) q hq)
          clear hv0 hq hp
          generalize (X.getD 4 0).toNat = c0 at *
          generalize (X.getD 5 0).toNat = c1 at *
          go_wp2_with fail
          go_quiet ((go_at_call 37; first | with_reducible exact quiet_same (HI0.out _) | with_reducible exact quiet_same (HI1.out _)))
          go_wp2_with fail
          exact bodyPost_ret (v := .tuple #[.int .i64 0, .slice none 0 0, .bool false]) (by simp [results, Tryd.results29, go_sem]) rfl (by rw [HPN.out]; exact ⟨below_drewN hB _, rfl⟩)
        · have HI0 := Lib.hid (idxHex (X.getD 4 0) x (by rw [Pr.index_hex, hv0]))
          have HI1 := Lib.hid (idxHex (X.getD 5 0) (-1) (by rw [Pr.index_hex, hv1]))
          clear hv0 hv1 hp
          generalize (X.getD 4 0).toNat = c0 at *
          generalize (X.getD 5 0).toNat = c1 at *
          go_wp2_with fail
          go_quiet ((go_at_call 37; first | with_reducible exact quiet_same (HI0.out _) | with_reducible exact quiet_same (HI1.out _)))
          go_wp2_with fail
          exact bodyPost_ret (v := .tuple #[.int .i64 0, .slice none 0 0, .bool false]) (by simp [results, Tryd.results29, go_sem]) rfl (by rw [HPN.out]; exact ⟨below_drewN hB _, rfl⟩)
      | some bb =>
        obtain ⟨x, y, hv0, hv1, hbb, hx16, hy16⟩ := Pr.two_some (show Pr.two (X.getD 4 0) (X.getD 5 0) = some bb from hp)
        have HI0 := Lib.hid (idxHex (X.getD 4 0) x (by rw [Pr.index_hex, hv0]))
        have HI1 := Lib.hid (idxHex (X.getD 5 0) y (by rw [Pr.index_hex, hv1]))
        clear hv0 hv1
        have HPP := Lib.hid hp; clear hp
        generalize (X.getD 4 0).toNat = c0 at *
        generalize (X.getD 5 0).toNat = c1 at *
        go_wp2_with fail
        go_quiet ((go_at_call 37; first | with_reducible exact quiet_same (HI0.out _) | with_reducible exact quiet_same (HI1.out _)))
        have hO2 := own_below hown (below_drewN (Below.refl wr.heap.size wr) nq)
        have hB2 := below_drewN hB nq
        generalize wr.drewN nq = wq at *
        go_wp2_with (at_builtin; refine wpList_append_own2 _ rfl _ _ 22 rfl w.heap.size 5 i0 (.int .u8 0) 1 1 Tryd.underlying22 HU0.out HU1.out HU2.out HU3.out rfl (by decide) _ _ _ rfl (hO2.alloc _) ⟨wq.heap.size, 0, none⟩ 1 1 [.int .u8 (16 * (x : Int) + (y : Int))] rfl (by decide) rfl (cell_one_new _ _ _) (by simp [Value.oneCell']) (by unfold maxLen; omega) (by omega) (by have := hB2.size; simp; omega) ?_; intro g5 cap5 w5 hown5 hgrow5 hnew5)
        have hBa := (below_allocs hB2 (.cells #[.int .u8 (16 * (x : Int) + (y : Int))] 5)).grown hgrow5 (by simp; have := hB2.size; omega) (fun k e => by have := (hown.lt k e).1; omega)
        go_wp2_with fail
        go_roundg (3 - (2 + 1))
        case measure => omega
        case rel => exact ⟨3, a, b, bb, by omega, rfl, by go_num, fun _ => ha (by omega), fun _ => hb (by omega), fun _ => HPP.out, by rw [hbb]; exact hown5, hBa⟩
    · simp only [Nat.reduceMul, Int.cast_ofNat_Int]
      go_wp2_with fail
      rcases hown.2 with ⟨_, h0⟩ | ⟨g, cap, cur, rfl, _⟩
      · omega
      exact bodyPost_ret (v := .tuple #[.int .i64 n, .slice (some ⟨g, 0, none⟩) 3 cap, .bool true]) (by simp [results, Tryd.results29, go_sem]) rfl (by rw [HS.out a b c (ha (by omega)) (hb (by omega)) (hc (by omega))]; exact ⟨hB, g, cap, rfl, hown⟩)
theorem cut_six {s : List UInt8} (h : (Lib.cut s [32]).2.1.length = 6) : (Lib.cut s [32]).2.2 = true := by
  unfold Lib.cut at h ⊢
  split
  · rfl
  · rename_i hn; rw [if_neg hn] at h; exact absurd h (by simp)
/-- run reads a line of a run. -/
theorem run_is (s : List UInt8) (hs : s.length ≤ 1000000) (w : World) (hm : Mx w) : Calls Tryd.prog 29 #[.string (Tx.mk s)] w (RunRPost w (Pr.run s)) := by
  unfold Pr.run
  cases hn : Pr.num4 (Lib.cut s [32]).1 with
  | none => exact run_no s hs w hm (.inl hn)
  | some n =>
    by_cases h6 : (Lib.cut s [32]).2.1.length = 6
    · exact run_six s hs w hm n hn h6 (cut_six h6)
    · have : Pr.px6 (Lib.cut s [32]).2.1 = none := by
        unfold Pr.px6
        split
        · rename_i h; rw [h] at h6; exact absurd rfl h6
        · rfl
      rw [this]
      exact run_no s hs w hm (.inr h6)
end Go.Proofs.YtpgjpnnjlilokaaDoor

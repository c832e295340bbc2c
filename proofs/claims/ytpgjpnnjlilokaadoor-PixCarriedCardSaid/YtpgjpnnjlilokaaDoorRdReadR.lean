/- ImageRead: the text of an image, read by the document. -/
import Derived.Test.YtpgjpnnjlilokaaDoorRdRead
namespace Go.Proofs.YtpgjpnnjlilokaaDoor
open Go.RowKit Go.Sort Go.Shelf
set_option linter.unusedVariables false
set_option maxRecDepth 100000 in
set_option maxHeartbeats 2000000 in
theorem iread_large (s : List UInt8) (hs : 1000000 < s.length) (w : World) : Calls Tryd.prog 13 #[.string (Tx.mk s)] w (ReadPost w (.err 4)) := by
  obtain ⟨W1, hW1, hR1, hz1, hB1⟩ := box w #[.int .i64 0, .int .i64 0, .slice none 0 0] 24
  have H1 := Lib.hid hW1
  have hsz := Tx.mk_size s
  have rf := hR1.free
  obtain ⟨r0, r1, r2⟩ := hR1.three
  clear hW1
  go_enter Tryd.func13, Tryd.ntmps13
  go_wp2_with fail
  rw [H1.out]
  go_wp2_with fail
  -- tintype/tintref1.ImageRead: the function; 4: the error; hB1: the last Below
  exact bodyPost_ret (v := .tuple #[.agg #[.int .i64 0, .int .i64 0, .slice none 0 0], .int .i64 4]) (by simp [results, Tryd.results13, go_sem, r0, r1, r2]) rfl (by first | exact ⟨below_set3 (hB1) w.heap.size (Nat.le_refl _) _ _ _, rfl⟩ | exact ⟨hB1, rfl⟩)
set_option maxRecDepth 100000 in
set_option maxHeartbeats 2000000 in
theorem iread_last (s : List UInt8) (hs : s.length ≤ 1000000) (h : Pr.lin s ((Pr.spl 10 s).length - 1) ≠ []) (w : World) (hm : Mx w) : Calls Tryd.prog 13 #[.string (Tx.mk s)] w (ReadPost w (.err 8)) := by
  -- the lines, and the first line's pieces
  obtain ⟨W1, hW1, hR1, hz1, hB1⟩ := box w #[.int .i64 0, .int .i64 0, .slice none 0 0] 24
  have H1 := Lib.hid hW1
  have hsz := Tx.mk_size s
  have HSP : Hid (Calls Tryd.prog 24 #[.string (Tx.mk s), .string ⟨#[10]⟩] W1 fun e w' => e = .returned (.slice (some ⟨W1.heap.size, 0, none⟩) (Pr.spl 10 s).length (Pr.spl 10 s).length) ∧ StrRow w' W1.heap.size (Pr.spl 10 s) ∧ Below W1.heap.size W1 w' ∧ w'.heap.size = W1.heap.size + 1) := split_is s 10 (by omega) W1 (hm.below hB1)
  have hl0 := Pr.lin_le s 0
  have HSH : Hid (∀ V, Mx V → Calls Tryd.prog 24 #[.string (Tx.mk (Pr.lin s 0)), .string ⟨#[32]⟩] V fun e w' => e = .returned (.slice (some ⟨V.heap.size, 0, none⟩) (Pr.spl 32 (Pr.lin s 0)).length (Pr.spl 32 (Pr.lin s 0)).length) ∧ StrRow w' V.heap.size (Pr.spl 32 (Pr.lin s 0)) ∧ Below V.heap.size V w' ∧ w'.heap.size = V.heap.size + 1) := fun V hV => split_is (Pr.lin s 0) 32 (by omega) V hV
  have hLpos : 1 ≤ (Pr.spl 10 s).length := List.length_pos_iff.2 (Pr.spl_ne 10 s)
  have hLle := Pr.spl_len_le 10 s
  have hge : ∀ i, (Pr.spl 10 s).getD i [] = Pr.lin s i := fun i => rfl
  have hKpos : 1 ≤ (Pr.spl 32 (Pr.lin s 0)).length := List.length_pos_iff.2 (Pr.spl_ne 32 _)
  have hKle := Pr.spl_len_le 32 (Pr.lin s 0)
  obtain ⟨L, hL⟩ : ∃ L, (Pr.spl 10 s).length = L := ⟨_, rfl⟩
  clear hW1
  rw [hL] at hLpos hLle HSP
  rw [hL] at h
  have e1 := mkEmpty_no _ h
  by_cases h2 : L < 2
  · obtain rfl : L = 1 := by omega
    -- 1: L; 0: the last one's place; skip: the facts behind the second Split
    go_enter Tryd.func13, Tryd.ntmps13
    go_wp2_with fail
    rw [H1.out]
    go_wp2_with fail
    go_at_call 24
    refine HSP.out.mono ?_
    rintro e w2 ⟨rfl, hSR, hB2, hz2⟩
    have l0 := hSR.2 0 (by omega)
    rw [hge] at l0
    have lc : (((1 : Nat) : Int) - 1) = ((0 : Nat) : Int) := by omega
    obtain ⟨lb, hlb⟩ : ∃ b, W1.heap.size = b := ⟨_, rfl⟩
    rw [hlb] at l0 hSR ⊢
    go_wp2_with fail
    go_at_call 24
    refine (HSH.out _ (hm.below (below_up hB1 hB2))).mono ?_
    rintro e w3 ⟨rfl, hSR0, hB3, hz3⟩
    have hB13 := below_up hB2 hB3
    obtain ⟨r0, r1, r2⟩ := (hR1.keep hB13).three
    have rf := (hR1.keep hB13).free
    have hSR3 := hSR.keep hB3
    have l3 := hSR3.2 (0) (by omega)
    rw [hge] at l3
    obtain ⟨kb, hkb⟩ : ∃ b, w2.heap.size = b := ⟨_, rfl⟩
    rw [hkb] at hSR0 ⊢
    clear hz2 hz3
    skip
    go_wp2_with fail
    -- tintype/tintref1.ImageRead: the function; 8: the error; below_up hB1 hB13: the last Below
    exact bodyPost_ret (v := .tuple #[.agg #[.int .i64 0, .int .i64 0, .slice none 0 0], .int .i64 8]) (by simp [results, Tryd.results13, go_sem, r0, r1, r2]) rfl (by first | exact ⟨below_set3 (below_up hB1 hB13) w.heap.size (Nat.le_refl _) _ _ _, rfl⟩ | exact ⟨below_up hB1 hB13, rfl⟩)
  · obtain ⟨z, hz⟩ : ∃ z, Tx.mk (Pr.lin s (L - 1)) = z := ⟨_, rfl⟩
    rw [hz] at e1
    -- L: L; L - 1: the last one's place; rw [hz] at l3: the facts behind the second Split
    go_enter Tryd.func13, Tryd.ntmps13
    go_wp2_with fail
    rw [H1.out]
    go_wp2_with fail
    go_at_call 24
    refine HSP.out.mono ?_
    rintro e w2 ⟨rfl, hSR, hB2, hz2⟩
    have l0 := hSR.2 0 (by omega)
    rw [hge] at l0
    have lc : (((L : Nat) : Int) - 1) = ((L - 1 : Nat) : Int) := by omega
    obtain ⟨lb, hlb⟩ : ∃ b, W1.heap.size = b := ⟨_, rfl⟩
    rw [hlb] at l0 hSR ⊢
    go_wp2_with fail
    go_at_call 24
    refine (HSH.out _ (hm.below (below_up hB1 hB2))).mono ?_
    rintro e w3 ⟨rfl, hSR0, hB3, hz3⟩
    have hB13 := below_up hB2 hB3
    obtain ⟨r0, r1, r2⟩ := (hR1.keep hB13).three
    have rf := (hR1.keep hB13).free
    have hSR3 := hSR.keep hB3
    have l3 := hSR3.2 (L - 1) (by omega)
    rw [hge] at l3
    obtain ⟨kb, hkb⟩ : ∃ b, w2.heap.size = b := ⟨_, rfl⟩
    rw [hkb] at hSR0 ⊢
    clear hz2 hz3
    rw [hz] at l3
    go_wp2_with fail
    -- tintype/tintref1.ImageRead: the function; 8: the error; below_up hB1 hB13: the last Below
    exact bodyPost_ret (v := .tuple #[.agg #[.int .i64 0, .int .i64 0, .slice none 0 0], .int .i64 8]) (by simp [results, Tryd.results13, go_sem, r0, r1, r2]) rfl (by first | exact ⟨below_set3 (below_up hB1 hB13) w.heap.size (Nat.le_refl _) _ _ _, rfl⟩ | exact ⟨below_up hB1 hB13, rfl⟩)
theorem few_any (l : List UInt8) (hl : l.length ≤ 1000000000000) (w : World) : Calls Tryd.prog 28 #[.string (Tx.mk l), .int .i64 4] w fun e w' => ∃ (x : Int) (ok : Bool), e = .returned (.tuple #[.int .i64 x, .bool ok]) ∧ ((ok = true ∧ ∃ n : Nat, Pr.num4 l = some n ∧ x = n) ∨ (ok = false ∧ Pr.num4 l = none)) ∧ Below w.heap.size w w' := by
  refine (few_is l hl w).mono ?_
  rintro e w' (⟨n, hr, rfl, hB⟩ | ⟨q, hr, rfl, hB⟩)
  · exact ⟨n, true, rfl, .inl ⟨rfl, n, hr, rfl⟩, hB⟩
  · exact ⟨q, false, rfl, .inr ⟨rfl, hr⟩, hB⟩
set_option maxRecDepth 100000 in
set_option maxHeartbeats 2000000 in
theorem iread_pieces (s : List UInt8) (hs : s.length ≤ 1000000) (hlast : Pr.lin s ((Pr.spl 10 s).length - 1) = []) (h : ∀ a b, Pr.spl 32 (Pr.lin s 0) ≠ [Pr.img, a, b]) (w : World) (hm : Mx w) : Calls Tryd.prog 13 #[.string (Tx.mk s)] w (ReadPost w (.err 8)) := by
  -- the lines, and the first line's pieces
  obtain ⟨W1, hW1, hR1, hz1, hB1⟩ := box w #[.int .i64 0, .int .i64 0, .slice none 0 0] 24
  have H1 := Lib.hid hW1
  have hsz := Tx.mk_size s
  have HSP : Hid (Calls Tryd.prog 24 #[.string (Tx.mk s), .string ⟨#[10]⟩] W1 fun e w' => e = .returned (.slice (some ⟨W1.heap.size, 0, none⟩) (Pr.spl 10 s).length (Pr.spl 10 s).length) ∧ StrRow w' W1.heap.size (Pr.spl 10 s) ∧ Below W1.heap.size W1 w' ∧ w'.heap.size = W1.heap.size + 1) := split_is s 10 (by omega) W1 (hm.below hB1)
  have hl0 := Pr.lin_le s 0
  have HSH : Hid (∀ V, Mx V → Calls Tryd.prog 24 #[.string (Tx.mk (Pr.lin s 0)), .string ⟨#[32]⟩] V fun e w' => e = .returned (.slice (some ⟨V.heap.size, 0, none⟩) (Pr.spl 32 (Pr.lin s 0)).length (Pr.spl 32 (Pr.lin s 0)).length) ∧ StrRow w' V.heap.size (Pr.spl 32 (Pr.lin s 0)) ∧ Below V.heap.size V w' ∧ w'.heap.size = V.heap.size + 1) := fun V hV => split_is (Pr.lin s 0) 32 (by omega) V hV
  have hLpos : 1 ≤ (Pr.spl 10 s).length := List.length_pos_iff.2 (Pr.spl_ne 10 s)
  have hLle := Pr.spl_len_le 10 s
  have hge : ∀ i, (Pr.spl 10 s).getD i [] = Pr.lin s i := fun i => rfl
  have hKpos : 1 ≤ (Pr.spl 32 (Pr.lin s 0)).length := List.length_pos_iff.2 (Pr.spl_ne 32 _)
  have hKle := Pr.spl_len_le 32 (Pr.lin s 0)
  obtain ⟨L, hL⟩ : ∃ L, (Pr.spl 10 s).length = L := ⟨_, rfl⟩
  clear hW1
  rw [hL] at hLpos hLle HSP
  rw [hL] at hlast
  by_cases h2 : L < 2
  · obtain rfl : L = 1 := by omega
    clear hlast
    -- 1: L; 0: the last one's place; skip: the facts behind the second Split
    go_enter Tryd.func13, Tryd.ntmps13
    go_wp2_with fail
    rw [H1.out]
    go_wp2_with fail
    go_at_call 24
    refine HSP.out.mono ?_
    rintro e w2 ⟨rfl, hSR, hB2, hz2⟩
    have l0 := hSR.2 0 (by omega)
    rw [hge] at l0
    have lc : (((1 : Nat) : Int) - 1) = ((0 : Nat) : Int) := by omega
    obtain ⟨lb, hlb⟩ : ∃ b, W1.heap.size = b := ⟨_, rfl⟩
    rw [hlb] at l0 hSR ⊢
    go_wp2_with fail
    go_at_call 24
    refine (HSH.out _ (hm.below (below_up hB1 hB2))).mono ?_
    rintro e w3 ⟨rfl, hSR0, hB3, hz3⟩
    have hB13 := below_up hB2 hB3
    obtain ⟨r0, r1, r2⟩ := (hR1.keep hB13).three
    have rf := (hR1.keep hB13).free
    have hSR3 := hSR.keep hB3
    have l3 := hSR3.2 (0) (by omega)
    rw [hge] at l3
    obtain ⟨kb, hkb⟩ : ∃ b, w2.heap.size = b := ⟨_, rfl⟩
    rw [hkb] at hSR0 ⊢
    clear hz2 hz3
    skip
    go_wp2_with fail
    -- tintype/tintref1.ImageRead: the function; 8: the error; below_up hB1 hB13: the last Below
    exact bodyPost_ret (v := .tuple #[.agg #[.int .i64 0, .int .i64 0, .slice none 0 0], .int .i64 8]) (by simp [results, Tryd.results13, go_sem, r0, r1, r2]) rfl (by first | exact ⟨below_set3 (below_up hB1 hB13) w.heap.size (Nat.le_refl _) _ _ _, rfl⟩ | exact ⟨below_up hB1 hB13, rfl⟩)
  · obtain ⟨n, rfl⟩ : ∃ n, L = n + 2 := ⟨L - 2, by omega⟩
    have hlast : Tx.mk (Pr.lin s (n + 1)) = ⟨#[]⟩ := by rw [show n + 1 = n + 2 - 1 from rfl, hlast]
    by_cases h3 : (Pr.spl 32 (Pr.lin s 0)).length = 3
    · obtain ⟨p, a, b, hK⟩ : ∃ p a b, Pr.spl 32 (Pr.lin s 0) = [p, a, b] := by
        match hh : Pr.spl 32 (Pr.lin s 0), h3 with
        | [p, a, b], _ => exact ⟨p, a, b, rfl⟩
      have hp : p ≠ Pr.img := fun e => h a b (by rw [hK, e])
      -- n + 2: L; n + 1: the last one's place; rw [hlast] at l3: the facts behind the second Split
      go_enter Tryd.func13, Tryd.ntmps13
      go_wp2_with fail
      rw [H1.out]
      go_wp2_with fail
      go_at_call 24
      refine HSP.out.mono ?_
      rintro e w2 ⟨rfl, hSR, hB2, hz2⟩
      have l0 := hSR.2 0 (by omega)
      rw [hge] at l0
      have lc : (((n + 2 : Nat) : Int) - 1) = ((n + 1 : Nat) : Int) := by omega
      obtain ⟨lb, hlb⟩ : ∃ b, W1.heap.size = b := ⟨_, rfl⟩
      rw [hlb] at l0 hSR ⊢
      go_wp2_with fail
      go_at_call 24
      refine (HSH.out _ (hm.below (below_up hB1 hB2))).mono ?_
      rintro e w3 ⟨rfl, hSR0, hB3, hz3⟩
      have hB13 := below_up hB2 hB3
      obtain ⟨r0, r1, r2⟩ := (hR1.keep hB13).three
      have rf := (hR1.keep hB13).free
      have hSR3 := hSR.keep hB3
      have l3 := hSR3.2 (n + 1) (by omega)
      rw [hge] at l3
      obtain ⟨kb, hkb⟩ : ∃ b, w2.heap.size = b := ⟨_, rfl⟩
      rw [hkb] at hSR0 ⊢
      clear hz2 hz3
      rw [hlast] at l3
      -- the first line's three pieces; : 'few' of the two
      have k0 := hSR0.2 0 (by omega)
      have k1 := hSR0.2 1 (by omega)
      have k2 := hSR0.2 2 (by omega)
      rw [hK] at k0 k1 k2
      rw [hK]
      simp only [List.getD_cons_zero, List.getD_cons_succ, List.length_cons, List.length_nil, Nat.zero_add, Nat.reduceAdd] at k0 k1 k2 ⊢
      have HP := Lib.hid hp
      generalize hpz : Tx.mk p = pz at *
      have hz1 : ¬ pz = ⟨#[105, 109, 97, 103, 101]⟩ := by
        rw [← hpz]; intro e
        have := congrArg (fun b : ByteArray => b.data.toList) e
        exact HP.out this
      have hz2 : (pz.toList == [105, 109, 97, 103, 101]) = false := by
        rw [← hpz, beq_eq_false_iff_ne, ByteArray.toList_eq]; exact HP.out
      have hz3 : ¬ pz.toList = [105, 109, 97, 103, 101] := by simpa using hz2
      clear hpz
      go_wp2_with fail
      -- tintype/tintref1.ImageRead: the function; 8: the error; below_up hB1 hB13: the last Below
      exact bodyPost_ret (v := .tuple #[.agg #[.int .i64 0, .int .i64 0, .slice none 0 0], .int .i64 8]) (by simp [results, Tryd.results13, go_sem, r0, r1, r2]) rfl (by first | exact ⟨below_set3 (below_up hB1 hB13) w.heap.size (Nat.le_refl _) _ _ _, rfl⟩ | exact ⟨below_up hB1 hB13, rfl⟩)
    · obtain ⟨K, hK⟩ : ∃ K, (Pr.spl 32 (Pr.lin s 0)).length = K := ⟨_, rfl⟩
      have HSH2 := HSH
      rw [hK] at h3 hKpos hKle HSH
      have h3' : ((K : Int) == 3) = false := by simp; omega
      have h3'' : ¬ (K : Int) = 3 := by omega
      -- n + 2: L; n + 1: the last one's place; rw [hlast] at l3: the facts behind the second Split
      go_enter Tryd.func13, Tryd.ntmps13
      go_wp2_with fail
      rw [H1.out]
      go_wp2_with fail
      go_at_call 24
      refine HSP.out.mono ?_
      rintro e w2 ⟨rfl, hSR, hB2, hz2⟩
      have l0 := hSR.2 0 (by omega)
      rw [hge] at l0
      have lc : (((n + 2 : Nat) : Int) - 1) = ((n + 1 : Nat) : Int) := by omega
      obtain ⟨lb, hlb⟩ : ∃ b, W1.heap.size = b := ⟨_, rfl⟩
      rw [hlb] at l0 hSR ⊢
      go_wp2_with fail
      go_at_call 24
      refine (HSH.out _ (hm.below (below_up hB1 hB2))).mono ?_
      rintro e w3 ⟨rfl, hSR0, hB3, hz3⟩
      have hB13 := below_up hB2 hB3
      obtain ⟨r0, r1, r2⟩ := (hR1.keep hB13).three
      have rf := (hR1.keep hB13).free
      have hSR3 := hSR.keep hB3
      have l3 := hSR3.2 (n + 1) (by omega)
      rw [hge] at l3
      obtain ⟨kb, hkb⟩ : ∃ b, w2.heap.size = b := ⟨_, rfl⟩
      rw [hkb] at hSR0 ⊢
      clear hz2 hz3
      rw [hlast] at l3
      go_wp2_with fail
      -- tintype/tintref1.ImageRead: the function; 8: the error; below_up hB1 hB13: the last Below
      exact bodyPost_ret (v := .tuple #[.agg #[.int .i64 0, .int .i64 0, .slice none 0 0], .int .i64 8]) (by simp [results, Tryd.results13, go_sem, r0, r1, r2]) rfl (by first | exact ⟨below_set3 (below_up hB1 hB13) w.heap.size (Nat.le_refl _) _ _ _, rfl⟩ | exact ⟨below_up hB1 hB13, rfl⟩)
set_option maxRecDepth 100000 in
set_option maxHeartbeats 4000000 in
theorem iread_runs (s : List UInt8) (hs : s.length ≤ 1000000) (a b : List UInt8) (hK : Pr.spl 32 (Pr.lin s 0) = [Pr.img, a, b]) (hL2 : 2 ≤ (Pr.spl 10 s).length) (hlast : Pr.lin s ((Pr.spl 10 s).length - 1) = []) (G : Nat)
    (hGn : G ≤ (Pr.spl 10 s).length - 2) (hG1 : ∀ i, i < G → (Pr.run (Pr.lin s (i + 1))).isSome = true) (hG2 : G < (Pr.spl 10 s).length - 2 → Pr.run (Pr.lin s (G + 1)) = none)
    (hbad : G < (Pr.spl 10 s).length - 2 ∨ Pr.num4 a = none ∨ Pr.num4 b = none)
    (w : World) (hm : Mx w) : Calls Tryd.prog 13 #[.string (Tx.mk s)] w (ReadPost w (.err 8)) := by
  -- up to the first loop, with the first line [image, a, b]
  have hlen3 : (Pr.spl 32 (Pr.lin s 0)).length = 3 := by rw [hK]; rfl
  -- the lines, and the first line's pieces
  obtain ⟨W1, hW1, hR1, hz1, hB1⟩ := box w #[.int .i64 0, .int .i64 0, .slice none 0 0] 24
  have H1 := Lib.hid hW1
  have hsz := Tx.mk_size s
  have HSP : Hid (Calls Tryd.prog 24 #[.string (Tx.mk s), .string ⟨#[10]⟩] W1 fun e w' => e = .returned (.slice (some ⟨W1.heap.size, 0, none⟩) (Pr.spl 10 s).length (Pr.spl 10 s).length) ∧ StrRow w' W1.heap.size (Pr.spl 10 s) ∧ Below W1.heap.size W1 w' ∧ w'.heap.size = W1.heap.size + 1) := split_is s 10 (by omega) W1 (hm.below hB1)
  have hl0 := Pr.lin_le s 0
  have HSH : Hid (∀ V, Mx V → Calls Tryd.prog 24 #[.string (Tx.mk (Pr.lin s 0)), .string ⟨#[32]⟩] V fun e w' => e = .returned (.slice (some ⟨V.heap.size, 0, none⟩) (Pr.spl 32 (Pr.lin s 0)).length (Pr.spl 32 (Pr.lin s 0)).length) ∧ StrRow w' V.heap.size (Pr.spl 32 (Pr.lin s 0)) ∧ Below V.heap.size V w' ∧ w'.heap.size = V.heap.size + 1) := fun V hV => split_is (Pr.lin s 0) 32 (by omega) V hV
  have hLpos : 1 ≤ (Pr.spl 10 s).length := List.length_pos_iff.2 (Pr.spl_ne 10 s)
  have hLle := Pr.spl_len_le 10 s
  have hge : ∀ i, (Pr.spl 10 s).getD i [] = Pr.lin s i := fun i => rfl
  have hKpos : 1 ≤ (Pr.spl 32 (Pr.lin s 0)).length := List.length_pos_iff.2 (Pr.spl_ne 32 _)
  have hKle := Pr.spl_len_le 32 (Pr.lin s 0)
  obtain ⟨L, hL⟩ : ∃ L, (Pr.spl 10 s).length = L := ⟨_, rfl⟩
  clear hW1
  rw [hL] at hLpos hLle HSP
  rw [hL] at hlast hGn hG2 hL2 hbad
  have HG1 := Lib.hid hG1; have HG2 := Lib.hid hG2
  clear hG1 hG2
  have HRR := Lib.hid (fun i V hV => run_is (Pr.lin s i) (Nat.le_trans (Pr.lin_le s i) hs) V hV)
  have hla : a.length ≤ 1000000 := by have := Pr.spl_mem_le 32 (Pr.lin s 0) a (by rw [hK]; simp); omega
  have hlb2 : b.length ≤ 1000000 := by have := Pr.spl_mem_le 32 (Pr.lin s 0) b (by rw [hK]; simp); omega
  obtain ⟨n, rfl⟩ : ∃ n, L = n + 2 := ⟨L - 2, by omega⟩
  have hlast : Tx.mk (Pr.lin s (n + 1)) = ⟨#[]⟩ := by rw [show n + 1 = n + 2 - 1 from rfl, hlast]
  rw [show n + 2 - 2 = n from rfl] at hGn HG2 hbad
  have HFA := Lib.hid (fun V => few_any a (by omega) V)
  have HFB := Lib.hid (fun V => few_any b (by omega) V)
  -- n + 2: L; n + 1: the last one's place; rw [hlast] at l3: the facts behind the second Split
  go_enter Tryd.func13, Tryd.ntmps13
  go_wp2_with fail
  rw [H1.out]
  go_wp2_with fail
  go_at_call 24
  refine HSP.out.mono ?_
  rintro e w2 ⟨rfl, hSR, hB2, hz2⟩
  have l0 := hSR.2 0 (by omega)
  rw [hge] at l0
  have lc : (((n + 2 : Nat) : Int) - 1) = ((n + 1 : Nat) : Int) := by omega
  obtain ⟨lb, hlb⟩ : ∃ b, W1.heap.size = b := ⟨_, rfl⟩
  rw [hlb] at l0 hSR ⊢
  go_wp2_with fail
  go_at_call 24
  refine (HSH.out _ (hm.below (below_up hB1 hB2))).mono ?_
  rintro e w3 ⟨rfl, hSR0, hB3, hz3⟩
  have hB13 := below_up hB2 hB3
  obtain ⟨r0, r1, r2⟩ := (hR1.keep hB13).three
  have rf := (hR1.keep hB13).free
  have hSR3 := hSR.keep hB3
  have l3 := hSR3.2 (n + 1) (by omega)
  rw [hge] at l3
  obtain ⟨kb, hkb⟩ : ∃ b, w2.heap.size = b := ⟨_, rfl⟩
  rw [hkb] at hSR0 ⊢
  clear hz2 hz3
  rw [hlast] at l3
  -- the first line's three pieces; : 'few' of the two
  have k0 := hSR0.2 0 (by omega)
  have k1 := hSR0.2 1 (by omega)
  have k2 := hSR0.2 2 (by omega)
  rw [hK] at k0 k1 k2
  rw [hK]
  simp only [List.getD_cons_zero, List.getD_cons_succ, List.length_cons, List.length_nil, Nat.zero_add, Nat.reduceAdd] at k0 k1 k2 ⊢
  have himg : Tx.mk Pr.img = ⟨#[105, 109, 97, 103, 101]⟩ := rfl
  rw [himg] at k0
  obtain ⟨mb, hmb⟩ : ∃ b, w3.heap.size = b := ⟨_, rfl⟩
  obtain ⟨W4, hW4, hX4, hz4, hB4⟩ := box w3 #[.int .i64 0, .int .i64 0, .slice none 0 0] 24
  have HW4 := Lib.hid hW4
  rw [hmb] at hX4
  clear hW4 hz4
  go_upto_region 9 with fail
  rw [HW4.out]
  have k1 := (hSR0.keep hB4).2 1 (by omega)
  have k2 := (hSR0.keep hB4).2 2 (by omega)
  rw [hK] at k1 k2
  simp only [List.getD_cons_zero, List.getD_cons_succ] at k1 k2
  obtain ⟨m0, m1, m2⟩ := hX4.three
  have mf := hX4.free
  have hB14 := below_up hB13 hB4
  have hB04 := below_up hB1 hB14
  have hS4 := hSR3.keep hB4
  have hR4 := hR1.keep hB14
  have hSH4 := hSR0.keep hB4
  have hkm : kb < mb := by rw [← hmb]; exact hSR0.1
  have hlm : lb < mb := by rw [← hmb]; exact hSR3.1
  have hwm : w.heap.size < mb := by have := hB13.size; omega
  clear l0 l3 k0 r0 r1 r2 rf
  go_wp2_with fail
  go_at_call 28
  refine (HFA.out _).mono ?_
  rintro e w5 ⟨x, oka, rfl, hoka, hB5⟩
  have hX5 := (hX4.keep hB5).set 0 (.int .i64 x)
  have hS5 := (hS4.keep hB5).setOther (b := mb) (i := 0) (v := .int .i64 x) (by omega)
  have hR5 := (hR4.keep hB5).setOther (a := ⟨mb, 0, none⟩) (by simp; omega) (.int .i64 x)
  have hH5 := (hSH4.keep hB5).setOther (b := mb) (i := 0) (v := .int .i64 x) (by omega)
  have hB05 := (below_up hB04 hB5).setCell (p := ⟨mb, 0, none⟩) (by simp; omega) (.int .i64 x)
  have kk2 := hH5.2 2 (by omega)
  rw [hK] at kk2
  simp only [List.getD_cons_zero, List.getD_cons_succ] at kk2
  obtain ⟨m0, m1, m2⟩ := (hX4.keep hB5).three
  have mf := (hX4.keep hB5).free
  go_upto_region 10 with fail
  obtain ⟨W5, hW5⟩ : ∃ V, (w5.setCell ⟨mb, 0, none⟩ (.int .i64 x)) = V := ⟨_, rfl⟩
  rw [hW5] at hX5 hS5 hR5 hH5 hB05 kk2 ⊢
  replace hX5 : Blk W5 mb #[.int .i64 x, .int .i64 0, .slice none 0 0] 24 := hX5
  clear hW5 m0 m1 m2 mf
  obtain ⟨m0, m1, m2⟩ := hX5.three
  have mf := hX5.free
  go_wp2_with fail
  go_at_call 28
  refine (HFB.out _).mono ?_
  rintro e w6 ⟨y, okb, rfl, hokb, hB6⟩
  have hX6 := (hX5.keep hB6).set 1 (.int .i64 y)
  have hS6 := (hS5.keep hB6).setOther (b := mb) (i := 1) (v := .int .i64 y) (by omega)
  have hR6 := (hR5.keep hB6).setOther (a := ⟨mb, 1, none⟩) (by simp; omega) (.int .i64 y)
  have hB06 := (below_up hB05 hB6).setCell (p := ⟨mb, 1, none⟩) (by simp; omega) (.int .i64 y)
  obtain ⟨m0, m1, m2⟩ := (hX5.keep hB6).three
  have mf := (hX5.keep hB6).free
  go_upto_region 11 with fail
  obtain ⟨W6, hW6⟩ : ∃ V, (w6.setCell ⟨mb, 1, none⟩ (.int .i64 y)) = V := ⟨_, rfl⟩
  rw [hW6] at hX6 hS6 hR6 hB06 ⊢
  replace hX6 : Blk W6 mb #[.int .i64 x, .int .i64 y, .slice none 0 0] 24 := hX6
  clear hW6 m0 m1 m2 mf
  clear hH5 hX5 hS5 hR5 hB05 hX4 hS4 hR4 hB04 kk2 k1 k2 hSR hSR0 hSR3 hSH4 HSP HSH
  go_wp2_with fail
  rw [show n + 2 - 1 - 1 = n by omega]
  go_loopg [78] n (fun gk i wr => ∃ j : Nat, j ≤ G ∧ gk = n - j ∧ i = .int .i64 j ∧ Blk wr w.heap.size #[.int .i64 0, .int .i64 0, .slice none 0 0] 24 ∧ StrRow wr lb (Pr.spl 10 s) ∧ Below w.heap.size w wr)
  case atStart => exact ⟨0, by omega, rfl, rfl, hR6, hS6, hB06⟩
  case round =>
    clear hR6 hS6 hB06 hX6
    obtain ⟨j, hjG, rfl, rfl, hR, hS, hB⟩ := hrel
    obtain ⟨r0, r1, r2⟩ := hR.three
    have rf := hR.free
    by_cases hjn : j < n
    · have lj := hS.2 (1 + j) (by omega)
      rw [hge] at lj
      have HRJ := Lib.hid (HRR.out (1 + j))
      by_cases hjG2 : j < G
      · obtain ⟨r, hr⟩ := Option.isSome_iff_exists.1 (HG1.out j hjG2)
        rw [Nat.add_comm] at hr
        rw [hr] at HRJ
        obtain ⟨nn, pa, pb, pc⟩ := r
        have HR2 : Hid (∀ V, Mx V → Calls Tryd.prog 29 #[.string (Tx.mk (Pr.lin s (1 + j)))] V fun e w' => Below V.heap.size V w' ∧ ∃ g cap, e = .returned (.tuple #[.int .i64 nn, .slice (some ⟨g, 0, none⟩) 3 cap, .bool true]) ∧ w'.ownsRow V.heap.size 5 1 (.slice (some ⟨g, 0, none⟩) 3 cap) 3 (pxs pa pb pc 3)) := HRJ.out
        go_wp2_with (go_at_call 29; refine (HR2.out _ (hm.below hB)).mono ?_; rintro e w7 ⟨hB7, g, cap, rfl, hown⟩)
        go_roundg (n - (j + 1))
        case rel => exact ⟨j + 1, by omega, rfl, by go_num, hR.keep hB7, hS.keep hB7, below_up hB hB7⟩
        case measure => omega
      · obtain rfl : j = G := by omega
        have hbadj := HG2.out hjn
        rw [Nat.add_comm] at hbadj
        rw [hbadj] at HRJ
        have HR2 : Hid (∀ V, Mx V → Calls Tryd.prog 29 #[.string (Tx.mk (Pr.lin s (1 + j)))] V fun e w' => Below V.heap.size V w' ∧ e = .returned (.tuple #[.int .i64 0, .slice none 0 0, .bool false])) := HRJ.out
        go_wp2_with (go_at_call 29; refine (HR2.out _ (hm.below hB)).mono ?_; rintro e w7 ⟨hB7, rfl⟩; have hR7 := hR.keep hB7; obtain ⟨r0, r1, r2⟩ := hR7.three; have rf := hR7.free)
        -- tintype/tintref1.ImageRead: the function; 8: the error; below_up hB hB7: the last Below
        exact bodyPost_ret (v := .tuple #[.agg #[.int .i64 0, .int .i64 0, .slice none 0 0], .int .i64 8]) (by simp [results, Tryd.results13, go_sem, r0, r1, r2]) rfl (by first | exact ⟨below_set3 (below_up hB hB7) w.heap.size (Nat.le_refl _) _ _ _, rfl⟩ | exact ⟨below_up hB hB7, rfl⟩)
    · obtain rfl : j = n := by omega
      rcases hoka with ⟨rfl, u, hu, rfl⟩ | ⟨rfl, hu⟩
      · rcases hokb with ⟨rfl, v, hv, rfl⟩ | ⟨rfl, hv⟩
        · rcases hbad with h | h | h
          · omega
          · rw [hu] at h; cases h
          · rw [hv] at h; cases h
        · go_wp2_with fail
          -- tintype/tintref1.ImageRead: the function; 8: the error; hB: the last Below
          exact bodyPost_ret (v := .tuple #[.agg #[.int .i64 0, .int .i64 0, .slice none 0 0], .int .i64 8]) (by simp [results, Tryd.results13, go_sem, r0, r1, r2]) rfl (by first | exact ⟨below_set3 (hB) w.heap.size (Nat.le_refl _) _ _ _, rfl⟩ | exact ⟨hB, rfl⟩)
      · cases okb
        · go_wp2_with fail
          -- tintype/tintref1.ImageRead: the function; 8: the error; hB: the last Below
          exact bodyPost_ret (v := .tuple #[.agg #[.int .i64 0, .int .i64 0, .slice none 0 0], .int .i64 8]) (by simp [results, Tryd.results13, go_sem, r0, r1, r2]) rfl (by first | exact ⟨below_set3 (hB) w.heap.size (Nat.le_refl _) _ _ _, rfl⟩ | exact ⟨hB, rfl⟩)
        · go_wp2_with fail
          -- tintype/tintref1.ImageRead: the function; 8: the error; hB: the last Below
          exact bodyPost_ret (v := .tuple #[.agg #[.int .i64 0, .int .i64 0, .slice none 0 0], .int .i64 8]) (by simp [results, Tryd.results13, go_sem, r0, r1, r2]) rfl (by first | exact ⟨below_set3 (hB) w.heap.size (Nat.le_refl _) _ _ _, rfl⟩ | exact ⟨hB, rfl⟩)
end Go.Proofs.YtpgjpnnjlilokaaDoor

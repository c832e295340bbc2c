/- ImageRead: the runs. -/
import Derived.Test.YtpgjpnnjlilokaaDoorRdReadR
import Derived.Test.YtpgjpnnjlilokaaDoorPtSame
namespace Go.Proofs.YtpgjpnnjlilokaaDoor
open Go.RowKit Go.Sort Go.Shelf
set_option linter.unusedVariables false
theorem few_some (l : List UInt8) (n : Nat) (h : Pr.num4 l = some n) (hl : l.length ≤ 1000000000000) (w : World) : Calls Tryd.prog 28 #[.string (Tx.mk l), .int .i64 4] w fun e w' => e = .returned (.tuple #[.int .i64 n, .bool true]) ∧ Below w.heap.size w w' := by
  refine (few_is l hl w).mono ?_
  rintro e w' (⟨m, hr, rfl, hB⟩ | ⟨q, hr, rfl, hB⟩)
  · rw [h] at hr; injection hr with hr; subst hr; exact ⟨rfl, hB⟩
  · rw [h] at hr; cases hr
/-- The pixel that was read last, if any. -/
def LastPx (w : World) (R : Nat → Pr.Run) (k : Nat) (mv lv : Value) : Prop :=
  (k = 0 ∧ lv = .slice none 0 0) ∨ (0 < k ∧ ∃ g cap, lv = .slice (some ⟨g, 0, none⟩) 3 cap ∧ 3 ≤ cap ∧ Lst w g (pxs (R (k - 1)).2.1 (R (k - 1)).2.2.1 (R (k - 1)).2.2.2 3) ∧ some g ≠ mv.ownBlock)
def pxF (a b c : Nat) (i : Nat) : Int := if i = 0 then a else if i = 1 then b else c
theorem Lst.bytes {w : World} {g : Nat} {a b c : Nat} (h : Lst w g (pxs a b c 3)) : Bytes w (some ⟨g, 0, none⟩) 3 (pxF a b c) := by
  intro _
  refine ⟨g, 0, rfl, h.1, fun i hi => ?_⟩
  have := h.2 i hi
  rw [Nat.zero_add, this]
  match i, hi with
  | 0, _ => rfl
  | 1, _ => rfl
  | 2, _ => rfl
theorem Bytes.nil (w : World) (f : Nat → Int) : Bytes w none 0 f := fun h => by omega
theorem pxF_eq (a b c a' b' c' : Nat) : decide (3 = 3 ∧ ∀ i, i < 3 → pxF a b c i = pxF a' b' c' i) = decide ((a, b, c) = (a', b', c')) := by
  refine decide_eq_decide.2 ?_
  constructor
  · rintro ⟨_, h⟩
    have h0 := h 0 (by omega); have h1 := h 1 (by omega); have h2 := h 2 (by omega)
    simp [pxF] at h0 h1 h2
    simp only [Prod.mk.injEq]; omega
  · intro h
    simp only [Prod.mk.injEq] at h
    refine ⟨rfl, fun i _ => ?_⟩
    obtain ⟨rfl, rfl, rfl⟩ := h
    rfl
theorem Lst.grown {w w' : World} {g : Nat} {xs : List Value} {row : Option Nat} (h : Lst w g xs) (hg : w.grownBy w' row) (hne : some g ≠ row) : Lst w' g xs := by
  refine ⟨Nat.lt_of_lt_of_le h.1 hg.size, fun i hi => ?_⟩
  have := hg.block g h.1 hne
  have h2 := h.2 i hi
  unfold World.cell? at h2 ⊢
  rw [this]; exact h2
theorem Lst.news {w : World} {g : Nat} {a b c : Nat} (h : Lst w g (pxs a b c 3)) : ∀ j v, [Value.int .u8 a, .int .u8 b, .int .u8 c][j]? = some v → w.cell? ((⟨g, 0, none⟩ : Addr).add j) = some v := by
  intro j v hv
  have hadd : (⟨g, 0, none⟩ : Addr).add j = ⟨g, j, none⟩ := by unfold Addr.add; split <;> simp_all
  have hj : j < 3 := (List.getElem?_eq_some_iff.1 hv).1
  rw [hadd, h.2 j hj]; exact hv
theorem LastPx.keep {w w' : World} {R : Nat → Pr.Run} {k : Nat} {mv lv : Value} (h : LastPx w R k mv lv) (hb : Below w.heap.size w w') : LastPx w' R k mv lv := by
  rcases h with h | ⟨h0, g, cap, h1, h2, h3, h4⟩
  · exact .inl h
  · exact .inr ⟨h0, g, cap, h1, h2, h3.keep hb, h4⟩
theorem last_eq {w : World} {R : Nat → Pr.Run} {k : Nat} {mv lv : Value} (h : LastPx w R k mv lv) {g cap pa pb pc : Nat} (hl : Lst w g (pxs pa pb pc 3)) (hc : 3 ≤ cap) :
    ∃ q : Bool, Calls Tryd.prog 21 #[.slice (some ⟨g, 0, none⟩) 3 cap, lv] w (fun e w' => e = .returned (.bool q) ∧ Below w.heap.size w w') ∧ (q = false ↔ (k = 0 ∨ (pa, pb, pc) ≠ (R (k - 1)).2)) := by
  rcases h with ⟨h0, rfl⟩ | ⟨h0, g2, cap2, rfl, h2, h3, _⟩
  · refine ⟨false, ?_, by simp [h0]⟩
    refine (equal_anyB (some ⟨g, 0, none⟩) none 3 0 cap 0 (pxF pa pb pc) (fun _ => 0) w hl.bytes (Bytes.nil _ _) (by omega) hc (by omega)).mono ?_
    rintro e w' ⟨rfl, hB⟩
    exact ⟨by rw [decide_eq_false (fun h => by omega)], hB⟩
  · generalize R (k - 1) = r at h3 ⊢
    obtain ⟨x, a', b', c'⟩ := r
    refine ⟨_, (equal_anyB (some ⟨g, 0, none⟩) (some ⟨g2, 0, none⟩) 3 3 cap cap2 (pxF pa pb pc) (pxF a' b' c') w hl.bytes h3.bytes (by omega) hc h2), ?_⟩
    rw [pxF_eq, decide_eq_false_iff_not]
    constructor
    · intro h; exact .inr h
    · rintro (h | h)
      · omega
      · exact h
set_option maxRecDepth 100000 in
set_option maxHeartbeats 8000000 in
theorem iread_ok (s : List UInt8) (hs : s.length ≤ 1000000) (a b : List UInt8) (hK : Pr.spl 32 (Pr.lin s 0) = [Pr.img, a, b]) (hL2 : 2 ≤ (Pr.spl 10 s).length) (hlast : Pr.lin s ((Pr.spl 10 s).length - 1) = []) (W H : Nat) (hWa : Pr.num4 a = some W) (hHb : Pr.num4 b = some H) (G M : Nat)
    (hGn : G ≤ (Pr.spl 10 s).length - 2) (hG1 : ∀ i, i < G → (Pr.run (Pr.lin s (i + 1))).isSome = true) (hG2 : G < (Pr.spl 10 s).length - 2 → Pr.run (Pr.lin s (G + 1)) = none) (hGG : G = (Pr.spl 10 s).length - 2)
    (hMn : M ≤ (Pr.spl 10 s).length - 2) (hM1 : ∀ i, i < M → Pr.okAt (W * H) (Pr.rn s) i) (hM2 : M < (Pr.spl 10 s).length - 2 → ¬ Pr.okAt (W * H) (Pr.rn s) M)
    (w : World) (hm : Mx w) : Calls Tryd.prog 13 #[.string (Tx.mk s)] w (ReadPost w (Pr.resOf G ((Pr.spl 10 s).length - 2) W H M (Pr.sumN (Pr.rn s) ((Pr.spl 10 s).length - 2)) (Pr.acc (Pr.rn s) ((Pr.spl 10 s).length - 2)))) := by
  obtain ⟨i1, hi0, hz0, hz1, hz2⟩ := info_parts infoU8
  have HV0 := Lib.hid hi0; have HV1 := Lib.hid hz0; have HV2 := Lib.hid hz1; have HV3 := Lib.hid hz2
  clear hi0 hz0 hz1 hz2
  -- up to the first loop, with the first line [image, a, b]
  have hlen3 : (Pr.spl 32 (Pr.lin s 0)).length = 3 := by rw [hK]; rfl
  -- the lines, and the first line's pieces
  obtain ⟨W1, hW1, hR1, hz1, hB1⟩ := box w #[.int .i64 0, .int .i64 0, .slice none 0 0] 24
  have H1 := Lib.hid hW1
  have hsz := Tx.mk_size s
  have HSP : Hid (Calls Tryd.prog 24 #[.string (Tx.mk s), .string ⟨#[10]⟩] W1 fun e w' => e = .returned (.slice (some ⟨W1.heap.size, 0, none⟩) (Pr.spl 10 s).length (Pr.spl 10 s).length) ∧ StrRow w' W1.heap.size (Pr.spl 10 s) ∧ Below W1.heap.size W1 w' ∧ w'.heap.size = W1.heap.size + 1) := split_is s 10 (by omega) W1 (hm.below hB1)
  have hl0 := Pr.lin_le s 0
  have HSH : Hid (∀ V, Mx V → Calls Tryd.prog 24 #[.string (Tx.mk (Pr.lin s 0)), .string ⟨#[32]⟩] V fun e w' => e = .returned (.slice (some ⟨V.heap.size, 0, none⟩) (Pr.spl 32 (Pr.lin s 0)).length (Pr.spl 32 (Pr.lin s 0)).length) ∧ StrRow w' V.heap.size (Pr.spl 32 (Pr.lin s 0)) ∧ Below V.heap.size V w' ∧ w'.heap.size = V.heap.size + 1) := fun V hV => split_is (Pr.lin s 0) 32 (by omega) V hV
  have hLpos : 1 ≤ (Pr.spl 10 s).length := List.length_pos_iff.2 (Pr.spl_ne 10 s)
  have hLle := Pr.spl_len_le 10 s
  have hge : ∀ i, (Pr.spl 10 s).getD i [] = Pr.lin s i := fun i => rfl
  have hKpos : 1 ≤ (Pr.spl 32 (Pr.lin s 0)).length := List.length_pos_iff.2 (Pr.spl_ne 32 _)
  have hKle := Pr.spl_len_le 32 (Pr.lin s 0)
  obtain ⟨L, hL⟩ : ∃ L, (Pr.spl 10 s).length = L := ⟨_, rfl⟩
  clear hW1
  rw [hL] at hLpos hLle HSP
  rw [hL] at hlast hGn hG2 hL2 hGG hMn hM2 ⊢
  have HG1 := Lib.hid hG1; have HG2 := Lib.hid hG2
  clear hG1 hG2
  have HRR := Lib.hid (fun i V hV => run_is (Pr.lin s i) (Nat.le_trans (Pr.lin_le s i) hs) V hV)
  have hla : a.length ≤ 1000000 := by have := Pr.spl_mem_le 32 (Pr.lin s 0) a (by rw [hK]; simp); omega
  have hlb2 : b.length ≤ 1000000 := by have := Pr.spl_mem_le 32 (Pr.lin s 0) b (by rw [hK]; simp); omega
  obtain ⟨n, rfl⟩ : ∃ n, L = n + 2 := ⟨L - 2, by omega⟩
  have hlast : Tx.mk (Pr.lin s (n + 1)) = ⟨#[]⟩ := by rw [show n + 1 = n + 2 - 1 from rfl, hlast]
  rw [show n + 2 - 2 = n from rfl] at hGn HG2 hGG hMn hM2 ⊢
  obtain rfl : n = G := hGG.symm
  have HFA := Lib.hid (fun V => few_some a W hWa (by omega) V)
  have HFB := Lib.hid (fun V => few_some b H hHb (by omega) V)
  have hW4 := Pr.num4_lt hWa
  have hH4 := Pr.num4_lt hHb
  have HM1 := Lib.hid hM1; have HM2 := Lib.hid hM2
  clear hM1 hM2 HG2 hWa hHb
  -- n + 2: L; n + 1: the last one's place; rw [hlast] at l3: the facts behind the second Split
  go_enter Tryd.func13, Tryd.ntmps13
  go_wp2_with fail
  rw [H1.out]
  go_wp2_with fail
  go_at_call 24
  refine HSP.out.mono ?_
  rintro e w2 ⟨rfl, hSR, hB2, hz2⟩
  have l0 := hSR.2 0 (by omega)
  rw [hge] at l0
  have lc : (((n + 2 : Nat) : Int) - 1) = ((n + 1 : Nat) : Int) := by omega
  obtain ⟨lb, hlb⟩ : ∃ b, W1.heap.size = b := ⟨_, rfl⟩
  rw [hlb] at l0 hSR ⊢
  go_wp2_with fail
  go_at_call 24
  refine (HSH.out _ (hm.below (below_up hB1 hB2))).mono ?_
  rintro e w3 ⟨rfl, hSR0, hB3, hz3⟩
  have hB13 := below_up hB2 hB3
  obtain ⟨r0, r1, r2⟩ := (hR1.keep hB13).three
  have rf := (hR1.keep hB13).free
  have hSR3 := hSR.keep hB3
  have l3 := hSR3.2 (n + 1) (by omega)
  rw [hge] at l3
  obtain ⟨kb, hkb⟩ : ∃ b, w2.heap.size = b := ⟨_, rfl⟩
  rw [hkb] at hSR0 ⊢
  clear hz2 hz3
  rw [hlast] at l3
  -- the first line's three pieces; : 'few' of the two
  have k0 := hSR0.2 0 (by omega)
  have k1 := hSR0.2 1 (by omega)
  have k2 := hSR0.2 2 (by omega)
  rw [hK] at k0 k1 k2
  rw [hK]
  simp only [List.getD_cons_zero, List.getD_cons_succ, List.length_cons, List.length_nil, Nat.zero_add, Nat.reduceAdd] at k0 k1 k2 ⊢
  have himg : Tx.mk Pr.img = ⟨#[105, 109, 97, 103, 101]⟩ := rfl
  rw [himg] at k0
  obtain ⟨mb, hmb⟩ : ∃ b, w3.heap.size = b := ⟨_, rfl⟩
  obtain ⟨W4, hW4, hX4, hz4, hB4⟩ := box w3 #[.int .i64 0, .int .i64 0, .slice none 0 0] 24
  have HW4 := Lib.hid hW4
  rw [hmb] at hX4
  clear hW4 hz4
  go_upto_region 9 with fail
  rw [HW4.out]
  have k1 := (hSR0.keep hB4).2 1 (by omega)
  have k2 := (hSR0.keep hB4).2 2 (by omega)
  rw [hK] at k1 k2
  simp only [List.getD_cons_zero, List.getD_cons_succ] at k1 k2
  obtain ⟨m0, m1, m2⟩ := hX4.three
  have mf := hX4.free
  have hB14 := below_up hB13 hB4
  have hB04 := below_up hB1 hB14
  have hS4 := hSR3.keep hB4
  have hR4 := hR1.keep hB14
  have hSH4 := hSR0.keep hB4
  have hkm : kb < mb := by rw [← hmb]; exact hSR0.1
  have hlm : lb < mb := by rw [← hmb]; exact hSR3.1
  have hwm : w.heap.size < mb := by have := hB13.size; omega
  clear l0 l3 k0 r0 r1 r2 rf
  go_wp2_with fail
  go_at_call 28
  refine (HFA.out _).mono ?_
  rintro e w5 ⟨rfl, hB5⟩
  have hX5 := (hX4.keep hB5).set 0 (.int .i64 W)
  have hS5 := (hS4.keep hB5).setOther (b := mb) (i := 0) (v := .int .i64 W) (by omega)
  have hR5 := (hR4.keep hB5).setOther (a := ⟨mb, 0, none⟩) (by simp; omega) (.int .i64 W)
  have hH5 := (hSH4.keep hB5).setOther (b := mb) (i := 0) (v := .int .i64 W) (by omega)
  have hB05 := (below_up hB04 hB5).setCell (p := ⟨mb, 0, none⟩) (by simp; omega) (.int .i64 W)
  have kk2 := hH5.2 2 (by omega)
  rw [hK] at kk2
  simp only [List.getD_cons_zero, List.getD_cons_succ] at kk2
  obtain ⟨m0, m1, m2⟩ := (hX4.keep hB5).three
  have mf := (hX4.keep hB5).free
  go_upto_region 10 with fail
  obtain ⟨W5, hW5⟩ : ∃ V, (w5.setCell ⟨mb, 0, none⟩ (.int .i64 W)) = V := ⟨_, rfl⟩
  rw [hW5] at hX5 hS5 hR5 hH5 hB05 kk2 ⊢
  replace hX5 : Blk W5 mb #[.int .i64 W, .int .i64 0, .slice none 0 0] 24 := hX5
  clear hW5 m0 m1 m2 mf
  obtain ⟨m0, m1, m2⟩ := hX5.three
  have mf := hX5.free
  go_wp2_with fail
  go_at_call 28
  refine (HFB.out _).mono ?_
  rintro e w6 ⟨rfl, hB6⟩
  have hX6 := (hX5.keep hB6).set 1 (.int .i64 H)
  have hS6 := (hS5.keep hB6).setOther (b := mb) (i := 1) (v := .int .i64 H) (by omega)
  have hR6 := (hR5.keep hB6).setOther (a := ⟨mb, 1, none⟩) (by simp; omega) (.int .i64 H)
  have hB06 := (below_up hB05 hB6).setCell (p := ⟨mb, 1, none⟩) (by simp; omega) (.int .i64 H)
  obtain ⟨m0, m1, m2⟩ := (hX5.keep hB6).three
  have mf := (hX5.keep hB6).free
  go_upto_region 11 with fail
  obtain ⟨W6, hW6⟩ : ∃ V, (w6.setCell ⟨mb, 1, none⟩ (.int .i64 H)) = V := ⟨_, rfl⟩
  rw [hW6] at hX6 hS6 hR6 hB06 ⊢
  replace hX6 : Blk W6 mb #[.int .i64 W, .int .i64 H, .slice none 0 0] 24 := hX6
  clear hW6 m0 m1 m2 mf
  clear hH5 hX5 hS5 hR5 hB05 hX4 hS4 hR4 hB04 kk2 k1 k2 hSR hSR0 hSR3 hSH4 HSP HSH
  go_wp2_with fail
  rw [show n + 2 - 1 - 1 = n by omega]
  have HRK : Hid (∀ j, j < n → ∃ r, Pr.rn s j = r ∧ Pr.run (Pr.lin s (1 + j)) = some r ∧ r.1 < 10000) := by
    intro j hj
    obtain ⟨r, hr⟩ := Option.isSome_iff_exists.1 (HG1.out j hj)
    exact ⟨r, by unfold Pr.rn; rw [hr]; rfl, by rw [Nat.add_comm]; exact hr, (Pr.run_lt hr).1⟩
  go_loopg [78] n (fun gk i wr => ∃ j : Nat, j ≤ n ∧ gk = n - j ∧ i = .int .i64 j ∧ Blk wr w.heap.size #[.int .i64 0, .int .i64 0, .slice none 0 0] 24 ∧ StrRow wr lb (Pr.spl 10 s) ∧ Blk wr mb #[.int .i64 W, .int .i64 H, .slice none 0 0] 24 ∧ Below w.heap.size w wr)
  case atStart => exact ⟨0, by omega, rfl, rfl, hR6, hS6, hX6, hB06⟩
  case round =>
    clear hR6 hS6 hB06 hX6
    obtain ⟨j, hjG, rfl, rfl, hR, hS, hX, hB⟩ := hrel
    by_cases hjn : j < n
    · have lj := hS.2 (1 + j) (by omega)
      rw [hge] at lj
      obtain ⟨⟨nn, pa, pb, pc⟩, hr1, hr2, hr3⟩ := HRK.out j hjn
      have HRJ := HRR.out (1 + j)
      rw [hr2] at HRJ
      have HR2 : Hid (∀ V, Mx V → Calls Tryd.prog 29 #[.string (Tx.mk (Pr.lin s (1 + j)))] V fun e w' => Below V.heap.size V w' ∧ ∃ g cap, e = .returned (.tuple #[.int .i64 nn, .slice (some ⟨g, 0, none⟩) 3 cap, .bool true]) ∧ w'.ownsRow V.heap.size 5 1 (.slice (some ⟨g, 0, none⟩) 3 cap) 3 (pxs pa pb pc 3)) := HRJ
      clear hr1 hr2 hr3 HRJ
      go_wp2_with (go_at_call 29; refine (HR2.out _ (hm.below hB)).mono ?_; rintro e w7 ⟨hB7, g, cap, rfl, hown⟩)
      go_roundg (n - (j + 1))
      case rel => exact ⟨j + 1, by omega, rfl, by go_num, hR.keep hB7, hS.keep hB7, hX.keep hB7, below_up hB hB7⟩
      case measure => omega
    · obtain rfl : j = n := by omega
      obtain ⟨r0, r1, r2⟩ := hR.three
      have rf := hR.free
      obtain ⟨m0, m1, m2⟩ := hX.three
      by_cases hrange : W < 1 ∨ 64 < W ∨ H < 1 ∨ 64 < H
      · have HRS : Hid (Pr.resOf j j W H M (Pr.sumN (Pr.rn s) j) (Pr.acc (Pr.rn s) j) = .err 2) := by show _ = _; unfold Pr.resOf; rw [if_neg (by omega), if_pos hrange]
        by_cases c1 : (W : Int) < 1
        · go_wp2_with fail
          rw [HRS.out]
          -- tintype/tintref1.ImageRead: the function; 2: the error; hB: the last Below
          exact bodyPost_ret (v := .tuple #[.agg #[.int .i64 0, .int .i64 0, .slice none 0 0], .int .i64 2]) (by simp [results, Tryd.results13, go_sem, r0, r1, r2]) rfl (by first | exact ⟨below_set3 (hB) w.heap.size (Nat.le_refl _) _ _ _, rfl⟩ | exact ⟨hB, rfl⟩)
        · by_cases c2 : (64 : Int) < W
          · go_wp2_with fail
            rw [HRS.out]
            -- tintype/tintref1.ImageRead: the function; 2: the error; hB: the last Below
            exact bodyPost_ret (v := .tuple #[.agg #[.int .i64 0, .int .i64 0, .slice none 0 0], .int .i64 2]) (by simp [results, Tryd.results13, go_sem, r0, r1, r2]) rfl (by first | exact ⟨below_set3 (hB) w.heap.size (Nat.le_refl _) _ _ _, rfl⟩ | exact ⟨hB, rfl⟩)
          · by_cases c3 : (H : Int) < 1
            · go_wp2_with fail
              rw [HRS.out]
              -- tintype/tintref1.ImageRead: the function; 2: the error; hB: the last Below
              exact bodyPost_ret (v := .tuple #[.agg #[.int .i64 0, .int .i64 0, .slice none 0 0], .int .i64 2]) (by simp [results, Tryd.results13, go_sem, r0, r1, r2]) rfl (by first | exact ⟨below_set3 (hB) w.heap.size (Nat.le_refl _) _ _ _, rfl⟩ | exact ⟨hB, rfl⟩)
            · have c4 : (64 : Int) < H := by omega
              go_wp2_with fail
              rw [HRS.out]
              -- tintype/tintref1.ImageRead: the function; 2: the error; hB: the last Below
              exact bodyPost_ret (v := .tuple #[.agg #[.int .i64 0, .int .i64 0, .slice none 0 0], .int .i64 2]) (by simp [results, Tryd.results13, go_sem, r0, r1, r2]) rfl (by first | exact ⟨below_set3 (hB) w.heap.size (Nat.le_refl _) _ _ _, rfl⟩ | exact ⟨hB, rfl⟩)
      · obtain ⟨N, hN⟩ : ∃ N, W * H = N := ⟨_, rfl⟩
        have hNi : (W : Int) * (H : Int) = (N : Int) := by rw [← hN, Int.natCast_mul]
        have hN4 : N ≤ 4096 := by rw [← hN]; exact Nat.mul_le_mul (show W ≤ 64 by omega) (show H ≤ 64 by omega)
        have hN1 : 1 ≤ N := by rw [← hN]; exact Nat.mul_le_mul (show 1 ≤ W by omega) (show 1 ≤ H by omega)
        have c1 : ¬ (W : Int) < 1 := by omega
        have c2 : ¬ (64 : Int) < W := by omega
        have c3 : ¬ (H : Int) < 1 := by omega
        have c4 : ¬ (64 : Int) < H := by omega
        go_wp2_with fail
        have HER : Hid (∀ k, k ≤ M → k < j → ¬ Pr.okAt N (Pr.rn s) k → Pr.resOf j j W H M (Pr.sumN (Pr.rn s) j) (Pr.acc (Pr.rn s) j) = .err 1) := by
          intro k hk hkG hno
          have : k = M := by
            rcases Nat.lt_or_ge k M with h | h
            · exact absurd (hN ▸ HM1.out k h) hno
            · omega
          unfold Pr.resOf; rw [if_neg (by omega), if_neg hrange, if_pos (by omega)]
        have HSL : Hid (∀ k, k ≤ M → Pr.sumN (Pr.rn s) k ≤ N) := fun k hk => Pr.sumN_le (fun i hi => hN ▸ HM1.out i hi) k hk
        have HEND : Hid (M = j → Pr.sumN (Pr.rn s) j = N → Pr.resOf j j W H M (Pr.sumN (Pr.rn s) j) (Pr.acc (Pr.rn s) j) = .ok W H (Pr.acc (Pr.rn s) j)) := by
          intro h1 h2
          unfold Pr.resOf; rw [if_neg (by omega), if_neg hrange, if_neg (by omega), if_neg (by rw [h2, hN]; simp)]
        have HENB : Hid (M = j → Pr.sumN (Pr.rn s) j ≠ N → Pr.resOf j j W H M (Pr.sumN (Pr.rn s) j) (Pr.acc (Pr.rn s) j) = .err 1) := by
          intro h1 h2
          unfold Pr.resOf; rw [if_neg (by omega), if_neg hrange, if_neg (by omega), if_pos (by rw [hN]; exact h2)]
        have HNM : Hid (∀ k, k ≤ M → k < j → Pr.okAt N (Pr.rn s) k → k + 1 ≤ M) := by
          intro k hk hkG hok
          rcases Nat.lt_or_ge k M with h | h
          · omega
          · obtain rfl : k = M := by omega
            exact absurd (hN ▸ hok) (HM2.out hkG)
        clear hrange HM1 HM2 hN hlast c1 c2 c3 c4 HG1
        generalize hRn : Pr.rn s = R at *
        clear hRn
        go_loopg [14, 15, 120] j (fun gk sv lv i wr => ∃ (k : Nat) (mv : Value), k ≤ M ∧ gk = j - k ∧ i = .int .i64 k ∧ sv = .int .i64 ((Pr.sumN R k : Nat) : Int) ∧ Blk wr w.heap.size #[.int .i64 0, .int .i64 0, .slice none 0 0] 24 ∧ Blk wr mb #[.int .i64 W, .int .i64 H, mv] 24 ∧ wr.ownsRow (mb + 1) 5 1 mv (3 * Pr.sumN R k) (Pr.acc R k) ∧ StrRow wr lb (Pr.spl 10 s) ∧ LastPx wr R k mv lv ∧ Below w.heap.size w wr)
        case atStart => exact ⟨0, _, by omega, rfl, rfl, rfl, hR, hX, ⟨rfl, .inl ⟨rfl, rfl⟩⟩, hS, .inl ⟨rfl, rfl⟩, hB⟩
        case round =>
          clear hB hX hR hS r0 r1 r2 rf m0 m1 m2
          obtain ⟨k, mv, hkM, rfl, rfl, rfl, hR, hX, hpx, hS, hL, hB⟩ := hrel
          obtain ⟨Q, hQ⟩ : ∃ Q, Pr.sumN R k = Q := ⟨_, rfl⟩
          have hSN := HSL.out k hkM
          rw [hQ] at hSN hpx ⊢
          obtain ⟨r0, r1, r2⟩ := hR.three
          have rf := hR.free
          obtain ⟨m0, m1, m2⟩ := hX.three
          by_cases hkj : k < j
          · have lj := hS.2 (1 + k) (by omega)
            rw [hge] at lj
            obtain ⟨⟨nn, pa, pb, pc⟩, hr1, hr2, hr3⟩ := HRK.out k hkj
            have HRJ := HRR.out (1 + k)
            rw [hr2] at HRJ
            have HR2 : Hid (∀ V, Mx V → Calls Tryd.prog 29 #[.string (Tx.mk (Pr.lin s (1 + k)))] V fun e w' => Below V.heap.size V w' ∧ ∃ g cap, e = .returned (.tuple #[.int .i64 nn, .slice (some ⟨g, 0, none⟩) 3 cap, .bool true]) ∧ w'.ownsRow V.heap.size 5 1 (.slice (some ⟨g, 0, none⟩) 3 cap) 3 (pxs pa pb pc 3)) := HRJ
            have HRKh := Lib.hid hr1
            simp only at hr3
            clear hr1 hr2 HRJ
            go_wp2_with fail
            go_at_call 29
            refine (HR2.out _ (hm.below hB)).mono ?_
            rintro e w7 ⟨hB7, g, cap, rfl, hown⟩
            have hgl := hown.lt g rfl
            have hcap3 : 3 ≤ cap := by
              rcases hown.2 with ⟨h1, _⟩ | ⟨g2, cap2, cur, h1, _, _, h3, _⟩
              · cases h1
              · injection h1 with _ _ h1; omega
            have hgmb : g ≠ mb := by have := hX.lt; omega
            have hlst : Lst w7 g (pxs pa pb pc 3) := Lst.of_own hown rfl
            have hR7 := hR.keep hB7
            have hX7 := hX.keep hB7
            have hp7 := own_below hpx hB7
            have hS7 := hS.keep hB7
            have hB07 := below_up hB hB7
            have hgne : some g ≠ mv.ownBlock := by
              intro e
              have := (hpx.lt g e.symm).2
              omega
            obtain ⟨r0, r1, r2⟩ := hR7.three
            have rf := hR7.free
            obtain ⟨m0, m1, m2⟩ := hX7.three
            by_cases h0 : nn = 0
            · subst h0
              have HRS := Lib.hid (HER.out k hkM hkj (fun h => h.1 (by rw [HRKh.out])))
              go_wp2_with fail
              rw [HRS.out]
              -- tintype/tintref1.ImageRead: the function; 1: the error; hB07: the last Below
              exact bodyPost_ret (v := .tuple #[.agg #[.int .i64 0, .int .i64 0, .slice none 0 0], .int .i64 1]) (by simp [results, Tryd.results13, go_sem, r0, r1, r2]) rfl (by first | exact ⟨below_set3 (hB07) w.heap.size (Nat.le_refl _) _ _ _, rfl⟩ | exact ⟨hB07, rfl⟩)
            · obtain ⟨q, hq1, hq2⟩ := last_eq (hL.keep hB7) hlst hcap3
              have HQ := Lib.hid hq1
              have HQ2 := Lib.hid hq2
              clear hq1 hq2
              have hz : ((nn : Int) == 0) = false := by simpa using h0
              have hz2 : ¬ (nn : Int) = 0 := by omega
              cases q with
              | true =>
                have HRS := Lib.hid (HER.out k hkM hkj (fun h => by
                  have := HQ2.out.2 (by rcases h.2.1 with h | h; exact .inl h; rw [HRKh.out] at h; exact .inr h)
                  cases this))
                go_wp2_with (go_at_call 21; (with_reducible refine HQ.out.mono ?_); rintro e w8 ⟨rfl, hB8⟩; have hR8 := hR7.keep hB8; obtain ⟨r0, r1, r2⟩ := hR8.three; have rf := hR8.free)
                rw [HRS.out]
                -- tintype/tintref1.ImageRead: the function; 1: the error; below_up hB07 hB8: the last Below
                exact bodyPost_ret (v := .tuple #[.agg #[.int .i64 0, .int .i64 0, .slice none 0 0], .int .i64 1]) (by simp [results, Tryd.results13, go_sem, r0, r1, r2]) rfl (by first | exact ⟨below_set3 (below_up hB07 hB8) w.heap.size (Nat.le_refl _) _ _ _, rfl⟩ | exact ⟨below_up hB07 hB8, rfl⟩)
              | false =>
                by_cases hs : Q + nn ≤ N
                · have s1 : ¬ (N : Int) < (Q : Int) + (nn : Int) := by omega
                  have HKM := Lib.hid (HNM.out k hkM hkj ⟨by rw [HRKh.out]; exact h0, by rcases HQ2.out.1 rfl with h | h; exact .inl h; exact .inr (by rw [HRKh.out]; exact h), by rw [HRKh.out, hQ]; exact hs⟩)
                  have hLno := hL
                  clear hL
                  go_wp2_with (go_at_call 21; (with_reducible refine HQ.out.mono ?_); rintro e w8 ⟨rfl, hB8⟩; have hX8 := hX7.keep hB8; obtain ⟨m0, m1, m2⟩ := hX8.three)
                  have hR8 := hR7.keep hB8
                  have hS8 := hS7.keep hB8
                  have hp8 := own_below hp7 hB8
                  have hlst8 := hlst.keep hB8
                  have hB08 := below_up hB07 hB8
                  obtain ⟨P, hP⟩ : ∃ P, Pr.acc R k = P := ⟨_, rfl⟩
                  rw [hP] at hp8
                  have HP := Lib.hid hP
                  have HQk := Lib.hid hQ
                  clear hP hQ hR7 hX7 hp7 hS7 hlst hB07 hR hX hpx hS hB hown hB7 r0 r1 r2 rf m0 m1 m2 lj hLno
                  go_loopg [154] nn (fun gk i wr => ∃ (t : Nat) (mv : Value), t ≤ nn ∧ gk = nn - t ∧ i = .int .i64 t ∧ Blk wr w.heap.size #[.int .i64 0, .int .i64 0, .slice none 0 0] 24 ∧ Blk wr mb #[.int .i64 W, .int .i64 H, mv] 24 ∧ wr.ownsRow (mb + 1) 5 1 mv (3 * (Q + t)) (P ++ Pr.rep (pa, pb, pc) t) ∧ StrRow wr lb (Pr.spl 10 s) ∧ Lst wr g (pxs pa pb pc 3) ∧ some g ≠ mv.ownBlock ∧ Below w.heap.size w wr)
                  case atStart => exact ⟨0, _, by omega, rfl, rfl, hR8, hX8, by rw [Pr.rep, List.append_nil]; exact hp8, hS8, hlst8, hgne, hB08⟩
                  case round =>
                    clear hR8 hX8 hp8 hS8 hlst8 hgne hB08
                    obtain ⟨t, mv, htn, rfl, rfl, hR, hX, hpx, hS, hlst, hgne, hB⟩ := hrel
                    by_cases ht : t < nn
                    · obtain ⟨m0, m1, m2⟩ := hX.three
                      have hnw := hlst.news
                      have hbs2 : mb + 1 ≤ wr.heap.size := hX.lt
                      have hmx2 : 3 * (Q + t) + 3 ≤ maxLen := by unfold maxLen; omega
                      have hby2 : (3 * (Q + t) + 3) * 1 ≤ 140737488355328 := by omega
                      go_wp2_with (at_builtin; refine wpList_append_own2 _ rfl _ _ 22 rfl (mb + 1) 5 i1 (.int .u8 0) 1 1 Tryd.underlying22 HV0.out HV1.out HV2.out HV3.out rfl (by decide) _ _ _ rfl hpx ⟨g, 0, none⟩ 3 cap [.int .u8 pa, .int .u8 pb, .int .u8 pc] rfl (by decide) rfl hnw (by simp [Value.oneCell']) hmx2 hby2 hbs2 ?_; intro g5 cap5 w5 hown5 hgrow5 hnew5; have hX5 := hX.grown hgrow5 (own_old hpx (by omega)); have hf5 := hX5.free; obtain ⟨y0, y1, y2⟩ := hX5.three)
                      have hR5 := hR.grown hgrow5 (own_old hpx (by omega))
                      have hS5 := hS.grown hgrow5 (own_old hpx (by omega)) hgrow5.size
                      have hl5 := hlst.grown hgrow5 hgne
                      have hgn5 := hnew5.ne hlst.1 (fun e => hgne e.symm)
                      have hB5 := hB.grown hgrow5 hB.size (fun k e => by have := (hpx.lt k e).1; omega)
                      have hgb := (hown5.lt g5 rfl).1
                      go_roundg (nn - (t + 1))
                      case rel => exact ⟨t + 1, _, by omega, rfl, by go_num, hR5.setOther (by simp; omega) _, hX5.set 2 _, own_set (by rw [show 3 * (Q + (t + 1)) = 3 * (Q + t) + 3 by omega]; simpa only [Pr.rep, List.append_assoc] using hown5) (by simp) _, hS5.setOther (by omega), hl5.setOther hgmb, by simp [Value.ownBlock]; omega, hB5.setCell (by simp; omega) _⟩
                      case measure => omega
                    · obtain rfl : t = nn := by omega
                      have HSS : Hid (Pr.sumN R (k + 1) = Q + t) := by show Pr.sumN R k + (R k).1 = _; rw [HQk.out, HRKh.out]
                      have HAC : Hid (Pr.acc R (k + 1) = P ++ Pr.rep (pa, pb, pc) t) := by show Pr.acc R k ++ Pr.rep (R k).2 (R k).1 = _; rw [HP.out, HRKh.out]
                      have hkm2 := HKM.out
                      go_wp2_with fail
                      go_roundg (j - (k + 1))
                      case rel => exact ⟨k + 1, _, hkm2, rfl, by go_num, by rw [HSS.out]; simp, hR, hX, by rw [HSS.out, HAC.out]; exact hpx, hS, .inr ⟨by omega, g, cap, rfl, hcap3, by rw [Nat.add_sub_cancel, HRKh.out]; exact hlst, hgne⟩, hB⟩
                      case measure => omega
                · have HRS := Lib.hid (HER.out k hkM hkj (fun h => hs (by have := h.2.2; rw [HRKh.out, hQ] at this; exact this)))
                  have s1 : (N : Int) < (Q : Int) + (nn : Int) := by omega
                  go_wp2_with (go_at_call 21; (with_reducible refine HQ.out.mono ?_); rintro e w8 ⟨rfl, hB8⟩; have hR8 := hR7.keep hB8; obtain ⟨r0, r1, r2⟩ := hR8.three; have rf := hR8.free; obtain ⟨m0, m1, m2⟩ := (hX7.keep hB8).three)
                  rw [HRS.out]
                  -- tintype/tintref1.ImageRead: the function; 1: the error; below_up hB07 hB8: the last Below
                  exact bodyPost_ret (v := .tuple #[.agg #[.int .i64 0, .int .i64 0, .slice none 0 0], .int .i64 1]) (by simp [results, Tryd.results13, go_sem, r0, r1, r2]) rfl (by first | exact ⟨below_set3 (below_up hB07 hB8) w.heap.size (Nat.le_refl _) _ _ _, rfl⟩ | exact ⟨below_up hB07 hB8, rfl⟩)
          · obtain rfl : k = j := by omega
            obtain rfl : M = k := by omega
            by_cases hsum : Q = N
            · have HRS := Lib.hid (HEND.out rfl (by rw [hQ]; exact hsum))
              rw [hQ] at HRS
              rcases hpx.2 with ⟨_, h2⟩ | ⟨g, cap2, cur, rfl, hg, _, hc1, hc2, _⟩
              · omega
              have hlen := Pr.acc_len R M
              rw [hQ] at hlen
              have HL := Lib.hid (Lst.of_own hpx (by omega))
              have hs1 : (Q : Int) = (N : Int) := by omega
              have HSM := Lib.hid hsum
              clear hsum
              have hgw : g ≠ w.heap.size := by omega
              go_wp2_with fail
              rw [HRS.out]
              refine bodyPost_ret (v := .tuple #[.agg #[.int .i64 W, .int .i64 H, .slice (some ⟨g, 0, none⟩) (3 * Q) cap2], .int .i64 0]) (by simp [results, Tryd.results13, go_sem, r0, r1, r2]) rfl ⟨below_set3 hB w.heap.size (Nat.le_refl _) _ _ _, g, cap2, ?_, by omega, by omega, ?_⟩
              · rw [hlen]
              · exact ((HL.out.setOther hgw).setOther hgw).setOther hgw
            · have HRS := Lib.hid (HENB.out rfl (by rw [hQ]; exact hsum))
              rw [hQ] at HRS
              have hs1 : ¬ (Q : Int) = (N : Int) := by omega
              go_wp2_with fail
              rw [HRS.out]
              -- tintype/tintref1.ImageRead: the function; 1: the error; hB: the last Below
              exact bodyPost_ret (v := .tuple #[.agg #[.int .i64 0, .int .i64 0, .slice none 0 0], .int .i64 1]) (by simp [results, Tryd.results13, go_sem, r0, r1, r2]) rfl (by first | exact ⟨below_set3 (hB) w.heap.size (Nat.le_refl _) _ _ _, rfl⟩ | exact ⟨hB, rfl⟩)
theorem iread_is (s : List UInt8) (r : Pr.Res) (h : Says s r) (w : World) (hm : Mx w) : Calls Tryd.prog 13 #[.string (Tx.mk s)] w (ReadPost w r) := by
  cases h with
  | large h => exact iread_large s h w
  | nohead h hh =>
    by_cases hl : Pr.lin s ((Pr.spl 10 s).length - 1) = []
    · by_cases hp : ∃ a b, Pr.spl 32 (Pr.lin s 0) = [Pr.img, a, b]
      · obtain ⟨a, b, hK⟩ := hp
        have hL2 : 2 ≤ (Pr.spl 10 s).length := by
          rcases Nat.lt_or_ge 1 (Pr.spl 10 s).length with h | h
          · exact h
          · have h1 : (Pr.spl 10 s).length - 1 = 0 := by omega
            rw [h1] at hl
            rw [hl] at hK
            simp [Pr.spl, Pr.img] at hK
        rw [Pr.head_spl, hK] at hh
        obtain ⟨G, hGn, hG1, hG2⟩ := Pr.first (fun i => (Pr.run (Pr.lin s (i + 1))).isSome = true) ((Pr.spl 10 s).length - 2)
        refine iread_runs s h a b hK hL2 hl G hGn hG1 (fun h => by have := hG2 h; simpa using this) ?_ w hm
        right
        simp only [if_true] at hh
        cases ha : Pr.num4 a with
        | none => exact .inl rfl
        | some x => cases hb : Pr.num4 b with
          | none => exact .inr rfl
          | some y => rw [ha, hb] at hh; cases hh
      · exact iread_pieces s h hl (fun a b e => hp ⟨a, b, e⟩) w hm
    · exact iread_last s h hl w hm
  | last h hl => exact iread_last s h hl w hm
  | main h W H hh hlast G M hGn hG1 hG2 hMn hM1 hM2 =>
    have hL2 : 2 ≤ (Pr.spl 10 s).length := by
      rcases Nat.lt_or_ge 1 (Pr.spl 10 s).length with h | h
      · exact h
      · have h1 : (Pr.spl 10 s).length - 1 = 0 := by omega
        rw [h1] at hlast
        rw [hlast] at hh
        have : Pr.head [] = none := by decide
        rw [this] at hh; cases hh
    rw [Pr.head_spl] at hh
    split at hh
    · rename_i p a b hK
      split at hh
      · rename_i hp
        subst hp
        cases ha : Pr.num4 a with
        | none => rw [ha] at hh; cases hh
        | some x => cases hb : Pr.num4 b with
          | none => rw [ha, hb] at hh; cases hh
          | some y =>
            rw [ha, hb] at hh
            injection hh with hh
            injection hh with e1 e2
            subst e1 e2
            by_cases hGG : G = (Pr.spl 10 s).length - 2
            · exact iread_ok s h a b hK hL2 hlast x y ha hb G M hGn hG1 hG2 hGG hMn hM1 hM2 w hm
            · have : ∀ S xs, Pr.resOf G ((Pr.spl 10 s).length - 2) x y M S xs = .err 8 := by intro S xs; unfold Pr.resOf; rw [if_pos (by omega)]
              rw [this]
              exact iread_runs s h a b hK hL2 hlast G hGn hG1 hG2 (.inl (by omega)) w hm
      · cases hh
    · cases hh
end Go.Proofs.YtpgjpnnjlilokaaDoor

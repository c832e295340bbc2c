/- The reference's GroupsOf: least places, lowered until nothing changes. -/
import Derived.Test.YtbbedepojogfmaaGrpInvR
namespace Go.Proofs.Ytbbedepojogfmaa
open Go.RowKit Go.Sort Go.Shelf
set_option linter.unusedVariables false
def GroupsPostR (w : World) (L : List (List Int)) (e : Ending) (w' : World) : Prop := ∃ a ca vs, e = .returned (.slice a vs.length ca) ∧ Lists w' a vs L ∧ Below w.heap.size w w'
/-- A pass over the pairs, as far as (i, k): nothing has been lowered, and nothing was to be; or the sum is less. -/
def Pass (n : Nat) (nr : Nat → Nat → Bool) (F0 F : Nat → Nat) (ag : Bool) (i k : Nat) : Prop :=
  (ag = false → F = F0 ∧ ∀ a b, a < n → b < n → (a < i ∨ a = i ∧ b < k) → nr a b = true → F a ≤ F b) ∧ (ag = true → Grp.sum F n < Grp.sum F0 n)
theorem Pass.start (n : Nat) (nr : Nat → Nat → Bool) (F : Nat → Nat) : Pass n nr F F false 0 0 := ⟨fun _ => ⟨rfl, fun a b _ _ h _ => by omega⟩, fun h => by cases h⟩
theorem Pass.keep {n : Nat} {nr : Nat → Nat → Bool} {F0 F : Nat → Nat} {ag : Bool} {i k : Nat} (h : Pass n nr F0 F ag i k) (g : nr i k = true → F i ≤ F k) : Pass n nr F0 F ag i (k + 1) :=
  ⟨fun e => ⟨(h.1 e).1, fun a b ha hb hab hn => by
    by_cases c : a = i ∧ b = k
    · obtain ⟨rfl, rfl⟩ := c; exact g hn
    · exact (h.1 e).2 a b ha hb (by omega) hn⟩, h.2⟩
theorem Pass.lower {n : Nat} {nr : Nat → Nat → Bool} {F0 F : Nat → Nat} {ag : Bool} {i k : Nat} (h : Pass n nr F0 F ag i k) (hi : i < n) (hl : F k < F i) : Pass n nr F0 (Grp.upd F i (F k)) true i (k + 1) := by
  refine ⟨fun e => (by cases e), fun _ => ?_⟩
  have h1 := Grp.sum_less F i (F k) hl n hi
  cases ag
  · rw [(h.1 rfl).1] at h1 ⊢; exact h1
  · have := h.2 rfl; omega
theorem Pass.next {n : Nat} {nr : Nat → Nat → Bool} {F0 F : Nat → Nat} {ag : Bool} {i : Nat} (h : Pass n nr F0 F ag i n) : Pass n nr F0 F ag (i + 1) 0 :=
  ⟨fun e => ⟨(h.1 e).1, fun a b ha hb hab hn => (h.1 e).2 a b ha hb (by omega) hn⟩, h.2⟩
theorem Pass.still {n : Nat} {nr : Nat → Nat → Bool} {F0 F : Nat → Nat} (h : Pass n nr F0 F false n 0) : Grp.Still n nr F := fun a b ha hb hn => (h.1 rfl).2 a b ha hb (by omega) hn
set_option maxRecDepth 100000 in
set_option maxHeartbeats 16000000 in
theorem groupsOf_is (a : Option Addr) (n ca : Nat) (h : Nat → Nat) (most : Int) (w : World) (hr : Row w a n (fun i => .int .u64 (h i : Nat))) (hb : ∀ i, i < n → h i < 18446744073709551616) (hn : n ≤ 9223372036854775807) (hl : ¬ 1000 < n) (hm : 0 ≤ most ∧ most ≤ 64) : Calls Try.prog 32 #[.slice a n ca, .int .i64 most] w (GroupsPostR w ((Grp.groups n (Grp.near h most) n).map Grp.ints)) := by
  obtain ⟨i0, hi0, hz0, hz1, hz2⟩ := info_parts infoInt
  obtain ⟨i1, hi1, hy0, hy1, hy2⟩ := info_parts infoInts
  have hmk : ∀ w', (Instr.makeSlice 29 (.int .i64 (n : Int)) (.int .i64 (n : Int))).run Try.prog w' = .ok (.slice (some ⟨w'.heap.size, 0, none⟩) n n) (w'.alloc (.cells (rowOf n fun _ => .int .i64 0) 3)) := by
    intro w'
    rw [run_make w' _ 3 i0 _ Try.underlying29 hi0 hz0 .i64 .i64 _ _ (by omega) (Int.le_refl _) (by rw [hz2]; omega) (by omega), Int.toNat_natCast]
    congr 3
    exact made_rowOf i0 n (.int .i64 0) rfl hz1
  have HI0 := Lib.hid hi0; have HI1 := Lib.hid hz0; have HI2 := Lib.hid hz1; have HI3 := Lib.hid hz2
  have HJ0 := Lib.hid hi1; have HJ1 := Lib.hid hy0; have HJ2 := Lib.hid hy1; have HJ3 := Lib.hid hy2
  have HR := Lib.hid hr; have HB := Lib.hid hb
  have HSY := Lib.hid (Grp.near_comm h most)
  have HM := Lib.hid hm
  clear hi0 hz0 hz1 hz2 hi1 hy0 hy1 hy2 hr hb hm
  obtain ⟨nr, hnr⟩ : ∃ nr, Grp.near h most = nr := ⟨_, rfl⟩
  rw [hnr] at HSY ⊢
  have HNR := Lib.hid hnr; clear hnr
  obtain ⟨W1, hW1, hBt, hz1, hB1⟩ := box w (rowOf n fun _ => .int .i64 0) 3
  have HW1 := Lib.hid hW1
  have hN0 : Nms W1 w.heap.size n (fun _ => 0) := hBt
  clear hW1 hBt hz1
  go_enter Try.func32, Try.ntmps32
  go_wp2_with fail
  rw [HW1.out]
  clear hmk
  go_loopg [19] n (fun gk i wr => ∃ (j : Nat) (F : Nat → Nat), j ≤ n ∧ gk = n - j ∧ i = .int .i64 j ∧ (∀ k, k < j → F k = k) ∧ Nms wr w.heap.size n F ∧ Below w.heap.size w wr)
  case atStart => exact ⟨0, _, by omega, rfl, rfl, fun k hk => by omega, hN0, hB1⟩
  case round =>
    clear hN0 hB1
    obtain ⟨j, F, hj, rfl, rfl, hF, hN, hB⟩ := hrel
    have HF := Lib.hid hF; clear hF
    by_cases hlt : j < n
    · have fj := Blk.frozen hN j
      have cj := hN.cell j hlt
      have hj0 : (0 : Int) ≤ (j : Int) := by omega
      have hj1 : (j : Int) < (n : Int) := by omega
      go_wp2_with fail
      go_roundg (n - (j + 1))
      case rel => exact ⟨j + 1, Grp.upd F j j, by omega, rfl, by go_num, fun k hk => by (by_cases e : k = j); exact e ▸ Grp.upd_same _ _ _; rw [Grp.upd_other _ _ _ e]; exact HF.out k (by omega), hN.set j j, hB.setCell (p := ⟨w.heap.size, j, none⟩) (Nat.le_refl _) _⟩
      case measure => omega
    · obtain rfl : j = n := by omega
      have hNid := hN.congr (G := fun k => k) (fun k hk => HF.out k hk)
      clear hN HF
      go_wp2_with fail
      go_loopg [7] (Grp.sum (fun k => k) j + 1) (fun gk v wr => ∃ (F : Nat → Nat) (ag : Bool), v = .bool ag ∧ gk = Grp.sum F j + (if ag = true then 1 else 0) ∧ Grp.Fst j nr F ∧ (ag = false → Grp.Still j nr F) ∧ Nms wr w.heap.size j F ∧ Below w.heap.size w wr)
      case atStart => exact ⟨fun k => k, true, rfl, by rw [if_pos rfl], Grp.Fst.start, fun h => (by cases h), hNid, hB⟩
      case round =>
        clear hNid hB
        obtain ⟨F, ag, rfl, rfl, hFst, hSt, hN, hB⟩ := hrel
        have HFS := Lib.hid hFst; have HST := Lib.hid hSt
        clear hFst hSt
        cases ag
        · have HSTL := Lib.hid (HST.out rfl)
          have hG0 : GR w wr j w.heap.size wr.heap.size F (.slice none 0 0) [] [] := ⟨hN, World.ownsRow_nil _ _ _ _, Gs.nil _ _ _, hB, Nat.le_refl _, Nat.le_refl _, Blk.lt hN, fun k e => by simp [Value.ownBlock] at e, fun l hl => by cases hl⟩
          clear hN hB HST
          go_wp2_with fail
          go_loopg [10, 71] j (fun gk o iv wr => ∃ (f : Nat) (vs : List Value), f ≤ j ∧ gk = j - f ∧ iv = .int .i64 f ∧ GR w wr j w.heap.size wr.heap.size F o vs ((Grp.groups j nr f).map Grp.ints))
          case atStart => exact ⟨0, [], by omega, rfl, rfl, hG0⟩
          case round =>
            clear hG0
            obtain ⟨f, vs, hf, rfl, rfl, hG⟩ := hrel
            by_cases hlf : f < j
            · have HMG := Lib.hid (Grp.mine_groups HSY.out HFS.out HSTL.out hlf)
              obtain ⟨lim, hlim⟩ : ∃ lim, wr.heap.size = lim := ⟨_, rfl⟩
              rw [hlim] at hG
              clear hlim
              go_wp2_with fail
              go_loopg [12, 76] j (fun gk gv mv wr => ∃ (m : Nat), m ≤ j ∧ gk = j - m ∧ mv = .int .i64 m ∧ wr.ownsRow lim 3 1 gv (Grp.mineUp F f m).length ((Grp.ints (Grp.mineUp F f m)).map (Value.int .i64)) ∧ GR w wr j w.heap.size lim F u10 vs ((Grp.groups j nr f).map Grp.ints))
              case atStart => exact ⟨0, by omega, rfl, rfl, World.ownsRow_nil _ _ _ _, hG⟩
              case round =>
                clear hG
                obtain ⟨m, hm, rfl, rfl, hO, hG⟩ := hrel
                have hml := Grp.mineUp_len F f m
                by_cases hlm : m < j
                · have nm := hG.nms.cell m hlm
                  have m0 : (0 : Int) ≤ (m : Int) := by omega
                  have m1 : (m : Int) < (j : Int) := by omega
                  by_cases he : F m = f
                  · have he' : ((F m : Int) == (f : Int)) = true := by simp; omega
                    have HU := Lib.hid (Grp.mineUp_yes he)
                    have hG1 := hG.alloc (.cells #[.int .i64 m] 3)
                    have hO1 := hO.alloc (.cells #[.int .i64 m] 3)
                    have hbg := hG1.big
                    clear he
                    generalize Grp.mineUp F f m = g at *
                    go_wp2_with (at_builtin; refine wpList_append_own2 _ rfl _ _ 29 rfl lim 3 i0 (.int .i64 0) 1 8 Try.underlying29 HI0.out HI1.out HI2.out HI3.out rfl (by decide) _ _ _ rfl hO1 ⟨wr.heap.size, 0, none⟩ 1 1 [.int .i64 (m : Int)] rfl (by decide) rfl (cell_one_new _ _ _) (by simp [Value.oneCell']) (by unfold maxLen; omega) (by omega) hbg ?_; intro g5 cap5 w5 hown5 hgrow5 hnew5)
                    have hG5 := hG1.grow hgrow5 (fun r e => (hO1.lt r e).1)
                    go_roundg (j - (m + 1))
                    case rel => exact ⟨m + 1, by omega, rfl, by go_num, by rw [HU.out, List.length_append, Grp.ints_snoc, List.map_append]; exact hown5, hG5⟩
                    case measure => omega
                  · have he' : ((F m : Int) == (f : Int)) = false := by simp; omega
                    have HU := Lib.hid (Grp.mineUp_no he)
                    clear he
                    go_wp2_with fail
                    go_roundg (j - (m + 1))
                    case rel => exact ⟨m + 1, by omega, rfl, by go_num, by rw [HU.out]; exact hO, hG⟩
                    case measure => omega
                · obtain rfl : m = j := by omega
                  have hmi : Grp.mineUp F f m = Grp.mine m F f := rfl
                  rw [hmi] at hO hml
                  clear hmi
                  have hvl : vs.length ≤ m := by have h1 := hG.gs.len; rw [List.length_map] at h1; have h2 := Grp.groups_len m nr f; omega
                  obtain ⟨g, hg⟩ : ∃ g, Grp.mine m F f = g := ⟨_, rfl⟩
                  rw [hg] at hO HMG hml
                  clear hg
                  by_cases hg1 : 1 < g.length
                  · have HGR := Lib.hid (HMG.out.1 hg1)
                    obtain ⟨gb, cap, cur, rfl, _⟩ := hO.2.resolve_left (fun h => by omega)
                    have hgi : (1 : Int) < (g.length : Int) := by omega
                    have hG2 := hG.alloc (.cells #[.slice (some ⟨gb, 0, none⟩) g.length cap] 29)
                    have hO2 := hO.alloc (.cells #[.slice (some ⟨gb, 0, none⟩) g.length cap] 29)
                    have hbg := hG2.bel.size
                    obtain ⟨N, hN⟩ : ∃ N, g.length = N := ⟨_, rfl⟩
                    have HN := Lib.hid hN
                    rw [hN] at hgi hG2 hO2 hbg hO hg1 hml ⊢
                    clear hN
                    go_wp2_with (at_builtin; refine wpList_append_own2 _ rfl _ _ 53 rfl w.heap.size 29 i1 (.slice none 0 0) 1 24 Try.underlying53 HJ0.out HJ1.out HJ2.out HJ3.out rfl (by decide) _ _ _ rfl hG2.own ⟨wr.heap.size, 0, none⟩ 1 1 [.slice (some ⟨gb, 0, none⟩) N cap] rfl (by decide) rfl (cell_one_new _ _ _) (by simp [Value.oneCell']) (by unfold maxLen; omega) (by omega) hbg ?_; intro g5 cap5 w5 hown5 hgrow5 hnew5)
                    have hyN : (Grp.ints g).length = N := by rw [Grp.ints_len, HN.out]
                    have hGD := hG2.done (g := gb) (cap := cap) (c := cap) (l := Grp.ints g) (by omega) (by rw [hyN]; exact hO2) (by rw [hyN]; exact hown5) hgrow5
                    rw [hyN] at hGD
                    go_roundg (m - (f + 1))
                    case rel => exact ⟨f + 1, vs ++ [.slice (some ⟨gb, 0, none⟩) N cap], by omega, rfl, by go_num, by rw [HGR.out, List.map_append, List.map_cons, List.map_nil]; exact hGD⟩
                    case measure => omega
                  · have HGR := Lib.hid (HMG.out.2 hg1)
                    have hgi : ¬ (1 : Int) < (g.length : Int) := by omega
                    rcases hO.2 with ⟨rfl, hz⟩ | ⟨gb, cap, cur, rfl, _⟩
                    · have hgi2 : ¬ (1 : Int) < 0 := by omega
                      go_wp2_with fail
                      go_roundg (m - (f + 1))
                      case rel => exact ⟨f + 1, vs, by omega, rfl, by go_num, by rw [HGR.out]; exact hG.more⟩
                      case measure => omega
                    · go_wp2_with fail
                      go_roundg (m - (f + 1))
                      case rel => exact ⟨f + 1, vs, by omega, rfl, by go_num, by rw [HGR.out]; exact hG.more⟩
                      case measure => omega
            · obtain rfl : f = j := by omega
              have HG := Lib.hid hG
              rcases hG.own.2 with ⟨rfl, h0⟩ | ⟨g, cap, cur, rfl, _, _, hcap, hcap2, _⟩
              · have hvs : vs = [] := List.eq_nil_of_length_eq_zero h0
                subst hvs
                have hL := hG.gs.len
                have hL2 : (Grp.groups f nr f).map Grp.ints = [] := List.eq_nil_of_length_eq_zero (by rw [← hL]; rfl)
                have HL2 := Lib.hid hL2
                clear hG hL hL2 h0
                go_wp2_with fail
                go_ret
                exact ⟨none, 0, [], rfl, by rw [HL2.out]; exact Lists.nil _ _, HG.out.bel⟩
              · have HLS := Lib.hid (Lists.of_own hG.own hG.gs)
                obtain ⟨m, hm⟩ : ∃ m, vs.length = m := ⟨_, rfl⟩
                have HM2 := Lib.hid hm
                rw [hm] at hcap ⊢
                clear hG hm
                go_wp2_with fail
                go_ret
                exact ⟨some ⟨g, 0, none⟩, cap, vs, by rw [HM2.out]; rfl, HLS.out, HG.out.bel⟩
        · go_wp2_with fail
          go_loopg [7, 30] j (fun gk v iv wr => ∃ (i : Nat) (F1 : Nat → Nat) (ag : Bool), i ≤ j ∧ gk = j - i ∧ iv = .int .i64 i ∧ v = .bool ag ∧ Grp.Fst j nr F1 ∧ Pass j nr F F1 ag i 0 ∧ Nms wr w.heap.size j F1 ∧ Below w.heap.size w wr)
          case atStart => exact ⟨0, F, false, by omega, rfl, rfl, rfl, HFS.out, Pass.start j nr F, hN, hB⟩
          case round =>
            clear hN hB HFS HST
            obtain ⟨i, F1, ag, hi, rfl, rfl, rfl, hFst, hPs, hN, hB⟩ := hrel
            have HFS := Lib.hid hFst; have HPS := Lib.hid hPs
            clear hFst hPs
            by_cases hli : i < j
            · go_wp2_with fail
              go_loopg [7, 35] j (fun gk v kv wr => ∃ (k : Nat) (F1 : Nat → Nat) (ag : Bool), k ≤ j ∧ gk = j - k ∧ kv = .int .i64 k ∧ v = .bool ag ∧ Grp.Fst j nr F1 ∧ Pass j nr F F1 ag i k ∧ Nms wr w.heap.size j F1 ∧ Below w.heap.size w wr)
              case atStart => exact ⟨0, F1, ag, by omega, rfl, rfl, rfl, HFS.out, HPS.out, hN, hB⟩
              case round =>
                clear hN hB HFS HPS
                obtain ⟨k, F1, ag, hk, rfl, rfl, rfl, hFst, hPs, hN, hB⟩ := hrel
                have HFS := Lib.hid hFst; have HPS := Lib.hid hPs
                clear hFst hPs
                by_cases hlk : k < j
                · obtain ⟨bh, off, rfl, hbh, hcell⟩ := HR.out.keep hB (by omega)
                  have ci : wr.cell? ⟨bh, off + i, none⟩ = some (.int .u64 (h i : Nat)) := hcell i hli
                  have ck : wr.cell? ⟨bh, off + k, none⟩ = some (.int .u64 (h k : Nat)) := hcell k hlk
                  clear hcell
                  have ni := hN.cell i hli
                  have nk := hN.cell k hlk
                  have fi := Blk.frozen hN i
                  have i0' : (0 : Int) ≤ (i : Int) := by omega
                  have i1' : (i : Int) < (j : Int) := by omega
                  have k0 : (0 : Int) ≤ (k : Int) := by omega
                  have k1 : (k : Int) < (j : Int) := by omega
                  have HD := Lib.hid (fun W => differ_is (h i) (h k) (HB.out i hli) (HB.out k hlk) W)
                  have hnm : nr i k = decide ((Pop.dist (h i) (h k) : Int) ≤ most) := by rw [← HNR.out]; rfl
                  have HNM := Lib.hid hnm; clear hnm
                  generalize Pop.dist (h i) (h k) = d at HD HNM
                  by_cases hd : (d : Int) ≤ most
                  · have hd' : decide ((d : Int) ≤ most) = true := by simpa using hd
                    by_cases hf : F1 k < F1 i
                    · have hf' : decide ((F1 k : Int) < (F1 i : Int)) = true := by simpa using hf
                      have HPL := Lib.hid (HPS.out.lower hli hf)
                      have HFL := Lib.hid (HFS.out.lower HSY.out hli hlk (by rw [HNM.out]; exact hd') hf)
                      have hN2 := fun d => Nms.set (w := wr.drewN d) hN i (F1 k)
                      go_wp2_with fail
                      go_quiet ((go_at_call 41; exact quiet_same (HD.out _)))
                      go_wp2_with fail
                      go_roundg (j - (k + 1))
                      case rel => exact ⟨k + 1, Grp.upd F1 i (F1 k), true, by omega, rfl, by go_num, rfl, HFL.out, HPL.out, hN2 _, (below_drewN hB _).setCell (p := ⟨w.heap.size, i, none⟩) (Nat.le_refl _) _⟩
                      case measure => omega
                    · have hf' : decide ((F1 k : Int) < (F1 i : Int)) = false := by simp; omega
                      have hf2 : decide (F1 k < F1 i) = false := by simp; omega
                      have HPL := Lib.hid (HPS.out.keep (fun _ => by omega))
                      go_wp2_with fail
                      go_quiet ((go_at_call 41; exact quiet_same (HD.out _)))
                      go_wp2_with fail
                      go_roundg (j - (k + 1))
                      case rel => exact ⟨k + 1, F1, ag, by omega, rfl, by go_num, rfl, HFS.out, HPL.out, hN, below_drewN hB _⟩
                      case measure => omega
                  · have hd' : decide ((d : Int) ≤ most) = false := by simpa using hd
                    have hd2 : ((d : Int) ≤ most) = False := by simpa using hd
                    have HPL := Lib.hid (HPS.out.keep (fun e => by rw [HNM.out, hd'] at e; cases e))
                    clear hd
                    go_wp2_with fail
                    go_quiet ((go_at_call 41; exact quiet_same (HD.out _)))
                    go_wp2_with fail
                    go_roundg (j - (k + 1))
                    case rel => exact ⟨k + 1, F1, ag, by omega, rfl, by go_num, rfl, HFS.out, HPL.out, hN, below_drewN hB _⟩
                    case measure => omega
                · obtain rfl : k = j := by omega
                  have HPN := Lib.hid HPS.out.next
                  go_wp2_with fail
                  go_roundg (k - (i + 1))
                  case rel => exact ⟨i + 1, F1, ag, by omega, rfl, by go_num, rfl, HFS.out, HPN.out, hN, hB⟩
                  case measure => omega
            · obtain rfl : i = j := by omega
              go_wp2_with fail
              go_roundg (Grp.sum F1 i + (if ag = true then 1 else 0))
              case rel => exact ⟨F1, ag, rfl, rfl, HFS.out, fun e => by subst e; exact HPS.out.still, hN, hB⟩
              case measure =>
                cases ag
                · have := (HPS.out.1 rfl).1
                  subst this
                  simp
                · have := HPS.out.2 rfl
                  simp; omega
end Go.Proofs.Ytbbedepojogfmaa

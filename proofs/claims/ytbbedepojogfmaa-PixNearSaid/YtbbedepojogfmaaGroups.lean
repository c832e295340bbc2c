/- Groups: the program's search for what hangs together. -/
import Derived.Test.YtbbedepojogfmaaGrpInv
namespace Go.Proofs.Ytbbedepojogfmaa
open Go.RowKit Go.Sort Go.Shelf
set_option linter.unusedVariables false
/-- A slice of slices of integers. -/
structure Lists (w : World) (a : Option Addr) (vs : List Value) (L : List (List Int)) : Prop where
  row : Row w a vs.length (fun i => vs[i]?.getD undef)
  len : vs.length = L.length
  each : ∀ (i : Nat) (v : Value) (l : List Int), vs[i]? = some v → L[i]? = some l → ∃ b c, v = .slice b l.length c ∧ RowL w b l
def GroupsPost (w : World) (L : List (List Int)) (e : Ending) (w' : World) : Prop := ∃ a ca vs, e = .returned (.tuple #[.slice a vs.length ca, .int .i64 0]) ∧ Lists w' a vs L ∧ Below w.heap.size w w'
theorem Lists.of_own {w : World} {base lim g cap : Nat} {vs : List Value} {L : List (List Int)} (ho : w.ownsRow base 29 1 (.slice (some ⟨g, 0, none⟩) vs.length cap) vs.length vs) (hg : Gs w base lim vs L) : Lists w (some ⟨g, 0, none⟩) vs L := by
  refine ⟨fun h0 => ⟨g, 0, rfl, (ho.lt g rfl).2, fun i hi => ?_⟩, hg.len, fun i v l hv hl => ?_⟩
  · rw [Nat.zero_add, ho.cellAt i (by omega)]; simp [List.getElem?_eq_getElem hi]
  · obtain ⟨g2, c, cap2, rfl, ho2, _⟩ := hg.each i v l hv hl
    exact ⟨_, c, rfl, RowL.of_own ho2⟩
theorem own_cap {w : World} {base : Nat} {e : TypeId} {g n cap : Nat} {xs : List Value} (h : w.ownsRow base e 1 (.slice (some ⟨g, 0, none⟩) n cap) n xs) : n ≤ cap ∧ cap ≤ 9223372036854775807 := by
  rcases h.2 with ⟨h1, _⟩ | ⟨g', cap', cur, h1, _, _, h2, h3, _⟩
  · cases h1
  · cases h1; unfold maxLen at h3; exact ⟨h2, h3⟩
theorem Lists.nil (w : World) (a : Option Addr) : Lists w a [] [] := ⟨fun h => by simp at h, rfl, fun i v l h => by simp at h⟩
theorem groups_large (a : Option Addr) (n ca : Nat) (h : Nat → Nat) (most : Int) (w : World) (hr : Row w a n (fun i => .int .u64 (h i : Nat))) (hb : ∀ i, i < n → h i < 18446744073709551616) (hn : n ≤ 9223372036854775807) (hl : 1000 < n) : Calls Try.prog 30 #[.slice a n ca, .int .i64 most] w fun e w' => e = .returned (.tuple #[.slice none 0 0, .int .i64 4]) ∧ w = w' := by
  have hl' : (1000 : Int) < (n : Int) := by omega
  go_enter Try.func30, Try.ntmps30
  go_wp2_with fail
  go_ret2
  exact ⟨rfl, rfl⟩
theorem groups_range (a : Option Addr) (n ca : Nat) (h : Nat → Nat) (most : Int) (w : World) (hr : Row w a n (fun i => .int .u64 (h i : Nat))) (hb : ∀ i, i < n → h i < 18446744073709551616) (hn : n ≤ 9223372036854775807) (hl : ¬ 1000 < n) (hm : most < 0 ∨ 64 < most) : Calls Try.prog 30 #[.slice a n ca, .int .i64 most] w fun e w' => e = .returned (.tuple #[.slice none 0 0, .int .i64 2]) ∧ w = w' := by
  have hl' : ¬ (1000 : Int) < (n : Int) := by omega
  have HM := Lib.hid hm; clear hm
  go_enter Try.func30, Try.ntmps30
  go_wp2_with (go_at_call 76; refine (outsideX_yes _ _ _ _ HM.out).mono ?_; rintro e w' ⟨rfl, rfl⟩)
  go_ret2
  exact ⟨rfl, rfl⟩
set_option maxRecDepth 100000 in
set_option maxHeartbeats 16000000 in
theorem groups_is (a : Option Addr) (n ca : Nat) (h : Nat → Nat) (most : Int) (w : World) (hr : Row w a n (fun i => .int .u64 (h i : Nat))) (hb : ∀ i, i < n → h i < 18446744073709551616) (hn : n ≤ 9223372036854775807) (hl : ¬ 1000 < n) (hm : 0 ≤ most ∧ most ≤ 64) : Calls Try.prog 30 #[.slice a n ca, .int .i64 most] w (GroupsPost w ((Grp.groups n (Grp.near h most) n).map Grp.ints)) := by
  have hl' : ¬ (1000 : Int) < (n : Int) := by omega
  have hm1 := hm.1
  have hm2 := hm.2
  clear hm
  obtain ⟨i0, hi0, hz0, hz1, hz2⟩ := info_parts infoInt
  obtain ⟨i1, hi1, hy0, hy1, hy2⟩ := info_parts infoInts
  obtain ⟨i2, hi2, hx0, hx1, hx2⟩ := info_parts infoBool
  have hmk : ∀ w', (Instr.makeSlice 108 (.int .i64 (n : Int)) (.int .i64 (n : Int))).run Try.prog w' = .ok (.slice (some ⟨w'.heap.size, 0, none⟩) n n) (w'.alloc (.cells (rowOf n fun _ => .bool false) 4)) := by
    intro w'
    rw [run_make w' _ 4 i2 _ Try.underlying108 hi2 hx0 .i64 .i64 _ _ (by omega) (Int.le_refl _) (by rw [hx2]; omega) (by omega), Int.toNat_natCast]
    congr 3
    exact made_rowOf i2 n (.bool false) rfl hx1
  have HI0 := Lib.hid hi0; have HI1 := Lib.hid hz0; have HI2 := Lib.hid hz1; have HI3 := Lib.hid hz2
  have HJ0 := Lib.hid hi1; have HJ1 := Lib.hid hy0; have HJ2 := Lib.hid hy1; have HJ3 := Lib.hid hy2
  have HR := Lib.hid hr; have HB := Lib.hid hb
  have HSY := Lib.hid (Grp.near_comm h most)
  clear hi0 hz0 hz1 hz2 hi1 hy0 hy1 hy2 hi2 hx0 hx1 hx2 hr hb
  obtain ⟨nr, hnr⟩ : ∃ nr, Grp.near h most = nr := ⟨_, rfl⟩
  rw [hnr] at HSY ⊢
  have HNR := Lib.hid hnr; clear hnr
  obtain ⟨W1, hW1, hBt, hz1, hB1⟩ := box w (rowOf n fun _ => .bool false) 4
  have HW1 := Lib.hid hW1
  have hG0 : GI w W1 n w.heap.size W1.heap.size (fun _ => false) (.slice none 0 0) [] [] := ⟨hBt, World.ownsRow_nil _ _ _ _, Gs.nil _ _ _, hB1, Nat.le_refl _, Nat.le_refl _, by omega, fun k e => by simp [Value.ownBlock] at e, fun l hl => by cases hl⟩
  clear hW1 hBt hz1 hB1
  go_enter Try.func30, Try.ntmps30
  go_wp2_with (go_at_call 76; refine (outsideX_no _ _ _ _ hm1 hm2).mono ?_; rintro e w' ⟨rfl, rfl⟩)
  rw [HW1.out]
  clear hmk
  go_loopg [6, 23] n (fun gk o i wr => ∃ (j : Nat) (s : Nat → Bool) (vs : List Value), j ≤ n ∧ gk = n - j ∧ i = .int .i64 j ∧ Grp.Seen n nr s j ∧ GI w wr n w.heap.size wr.heap.size s o vs ((Grp.groups n nr j).map Grp.ints))
  case atStart => exact ⟨0, _, _, by omega, rfl, rfl, Grp.Seen.start, hG0⟩
  case round =>
    clear hG0
    obtain ⟨j, s, vs, hj, rfl, rfl, hS, hG⟩ := hrel
    have HS := Lib.hid hS; clear hS
    by_cases hlt : j < n
    · have cj := hG.bts.cell j hlt
      have fj := Blk.frozen hG.bts j
      have hj0 : (0 : Int) ≤ (j : Int) := by omega
      have hj1 : (j : Int) < (n : Int) := by omega
      cases hsj : s j
      · rw [hsj] at cj
        have HLD := Lib.hid (HS.out.lead HSY.out hlt hsj)
        have HSJ := Lib.hid hsj; clear hsj
        obtain ⟨lim, hlim⟩ : ∃ lim, wr.heap.size = lim := ⟨_, rfl⟩
        rw [hlim] at hG
        have hG1 := (hG.mark j).alloc (.cells #[.int .i64 j] 3)
        have hO1 := ownsRow_new (wr.setCell ⟨w.heap.size, j, none⟩ (.bool true)) lim 3 #[.int .i64 j] (by simp; omega) (by simp [maxLen])
        have hO1 : ((wr.setCell ⟨w.heap.size, j, none⟩ (.bool true)).alloc (.cells #[.int .i64 j] 3)).ownsRow lim 3 1 (.slice (some ⟨wr.heap.size, 0, none⟩) 1 1) 1 ((Grp.ints [j]).map (Value.int .i64)) := by simpa [Grp.ints] using hO1
        have HLIM := Lib.hid hlim
        clear hG hlim
        go_wp2_with fail
        go_loopg [9, 10] n (fun gk gv kv wr => ∃ (k : Nat) (g : List Nat) (s1 : Nat → Bool) (gb cap : Nat), k ≤ g.length ∧ gk = n - k ∧ kv = .int .i64 k ∧ gv = .slice (some ⟨gb, 0, none⟩) g.length cap ∧ Grp.Bfs n nr s s1 j g k ∧ wr.ownsRow lim 3 1 (.slice (some ⟨gb, 0, none⟩) g.length cap) g.length ((Grp.ints g).map (Value.int .i64)) ∧ GI w wr n w.heap.size lim s1 u6 vs ((Grp.groups n nr j).map Grp.ints))
        case atStart => exact ⟨0, [j], _, _, 1, by omega, rfl, rfl, rfl, Grp.Bfs.start hlt, hO1, hG1⟩
        case round =>
          clear hG1 hO1 cj fj
          obtain ⟨k, g, s1, gb, cap, hk, rfl, rfl, rfl, hBf, hO, hG⟩ := hrel
          have hgn := hBf.len
          have HBF := Lib.hid hBf; clear hBf
          by_cases hkg : k < g.length
          · obtain ⟨x, hx⟩ : ∃ x, g[k]? = some x := ⟨_, List.getElem?_eq_getElem hkg⟩
            have hxn := (HBF.out.conn x (List.mem_of_getElem? hx)).lt.2
            have HX := Lib.hid hx; clear hx
            go_wp2_with fail
            go_loopg [9, 43] n (fun gk gv mv wr => ∃ (m : Nat) (g : List Nat) (s1 : Nat → Bool) (gb cap : Nat), m ≤ n ∧ gk = n - m ∧ mv = .int .i64 m ∧ gv = .slice (some ⟨gb, 0, none⟩) g.length cap ∧ k < g.length ∧ g[k]? = some x ∧ (∀ b, b < m → nr x b = true → s1 b = true) ∧ Grp.Bfs n nr s s1 j g k ∧ wr.ownsRow lim 3 1 (.slice (some ⟨gb, 0, none⟩) g.length cap) g.length ((Grp.ints g).map (Value.int .i64)) ∧ GI w wr n w.heap.size lim s1 u6 vs ((Grp.groups n nr j).map Grp.ints))
            case atStart => exact ⟨0, g, s1, gb, cap, by omega, rfl, rfl, rfl, hkg, HX.out, fun b hb => by omega, HBF.out, hO, hG⟩
            case round =>
              clear hO hG HBF HX hkg hgn hk
              obtain ⟨m, g, s1, gb, cap, hm, rfl, rfl, rfl, hkg, hx, hall, hBf, hO, hG⟩ := hrel
              have hgn := hBf.len
              have HBF := Lib.hid hBf; have HX := Lib.hid hx; have HALL := Lib.hid hall
              clear hBf hx hall
              by_cases hlm : m < n
              · obtain ⟨bh, off, rfl, hbh, hcell⟩ := HR.out.keep hG.bel (by omega)
                have cm : wr.cell? ⟨bh, off + m, none⟩ = some (.int .u64 (h m : Nat)) := hcell m hlm
                have cx : wr.cell? ⟨bh, off + x, none⟩ = some (.int .u64 (h x : Nat)) := hcell x hxn
                clear hcell
                have cs := hG.bts.cell m hlm
                have fs := Blk.frozen hG.bts m
                have cg := row_own_cell hO k x (Grp.ints_at HX.out)
                have x0 : (0 : Int) ≤ (x : Int) := by omega
                have x1 : (x : Int) < (n : Int) := by omega
                have k0 : (0 : Int) ≤ (k : Int) := by omega
                have k1 : (k : Int) < (g.length : Int) := by omega
                have m0 : (0 : Int) ≤ (m : Int) := by omega
                have m1 : (m : Int) < (n : Int) := by omega
                have HD := Lib.hid (fun W => distance_is (h x) (h m) (HB.out x hxn) (HB.out m hlm) W)
                have hnm : nr x m = decide ((Pop.dist (h x) (h m) : Int) ≤ most) := by rw [← HNR.out]; rfl
                have HNM := Lib.hid hnm; clear hnm
                generalize Pop.dist (h x) (h m) = d at HD HNM
                cases hsm : s1 m
                · rw [hsm] at cs
                  by_cases hd : (d : Int) ≤ most
                  · have HADD := Lib.hid (HBF.out.add HX.out hlm hsm (by rw [HNM.out]; exact decide_eq_true hd))
                    have hG1 := (hG.mark m).alloc (.cells #[.int .i64 m] 3)
                    have hO1 := (own_mark hG hO m (.bool true)).alloc (.cells #[.int .i64 m] 3)
                    have hg1 : (Grp.ints g).length = g.length := Grp.ints_len g
                    have hbg := hG1.big
                    clear hsm
                    go_wp2_with (first
                      | (go_at_call 29; refine (HD.out _).mono ?_; rintro e w2 ⟨rfl, rfl⟩)
                      | (at_builtin; refine wpList_append_own2 _ rfl _ _ 29 rfl lim 3 i0 (.int .i64 0) 1 8 Try.underlying29 HI0.out HI1.out HI2.out HI3.out rfl (by decide) _ _ _ rfl hO1 ⟨wr.heap.size, 0, none⟩ 1 1 [.int .i64 (m : Int)] rfl (by decide) rfl (by have := cell_one_new (wr.setCell ⟨w.heap.size, m, none⟩ (.bool true)) (.int .i64 (m : Int)) 3; simpa using this) (by simp [Value.oneCell']) (by unfold maxLen; omega) (by omega) hbg ?_; intro g5 cap5 w5 hown5 hgrow5 hnew5))
                    have hG5 := hG1.grow hgrow5 (fun r e => (hO1.lt r e).1)
                    go_roundg (n - (m + 1))
                    case rel => exact ⟨m + 1, g ++ [m], Grp.upd s1 m true, g5, cap5, by omega, rfl, by go_num, by rw [List.length_append]; rfl, by rw [List.length_append]; omega, by rw [List.getElem?_append_left hkg]; exact HX.out, fun b hb hnb => by (by_cases e : b = m); exact e ▸ Grp.upd_same _ _ _; rw [Grp.upd_other _ _ _ e]; exact HALL.out b (by omega) hnb, HADD.out, by rw [List.length_append, Grp.ints_snoc, List.map_append]; exact hown5, hG5⟩
                    case measure => omega
                  · have hd' : decide ((d : Int) ≤ most) = false := by simpa using hd
                    have HNO : Hid (nr x m = false) := by have := HNM.out; rw [hd'] at this; exact Lib.hid this
                    have hd2 : most < (d : Int) := by omega
                    clear hsm hd hd'
                    go_wp2_with (go_at_call 29; refine (HD.out _).mono ?_; rintro e w2 ⟨rfl, rfl⟩)
                    go_roundg (n - (m + 1))
                    case rel => exact ⟨m + 1, g, s1, gb, cap, by omega, rfl, by go_num, rfl, hkg, HX.out, fun b hb hnb => by (by_cases e : b = m); rw [e, HNO.out] at hnb; cases hnb; exact HALL.out b (by omega) hnb, HBF.out, hO, hG⟩
                    case measure => omega
                · rw [hsm] at cs
                  have HSM := Lib.hid hsm; clear hsm
                  go_wp2_with (go_at_call 29; refine (HD.out _).mono ?_; rintro e w2 ⟨rfl, rfl⟩)
                  go_roundg (n - (m + 1))
                  case rel => exact ⟨m + 1, g, s1, gb, cap, by omega, rfl, by go_num, rfl, hkg, HX.out, fun b hb hnb => by (by_cases e : b = m); exact e ▸ HSM.out; exact HALL.out b (by omega) hnb, HBF.out, hO, hG⟩
                  case measure => omega
              · obtain rfl : m = n := by omega
                have HNX := Lib.hid (HBF.out.next HX.out HALL.out)
                go_wp2_with fail
                go_roundg (m - (k + 1))
                case rel => exact ⟨k + 1, g, s1, gb, cap, by omega, rfl, by go_num, rfl, HNX.out, hO, hG⟩
                case measure => omega
          · obtain rfl : k = g.length := by omega
            have HSN := Lib.hid (HBF.out.seenNext HSY.out HS.out hlt HSJ.out)
            have HCL := Lib.hid (HBF.out.cls_len HSY.out HS.out hlt HSJ.out)
            have HSO := Lib.hid (HBF.out.sorted HSY.out HS.out hlt HSJ.out)
            have hgpos : 0 < g.length := List.length_pos_of_mem HBF.out.first
            by_cases hg1 : 1 < g.length
            · have hgi : (1 : Int) < (g.length : Int) := by omega
              have HGR := Lib.hid (Grp.groups_yes HLD.out (by rw [HCL.out]; exact hg1))
              have hSORT := sort_own gb cap (Grp.ints g) lim wr (by rw [Grp.ints_len]; exact hO) (by rw [Grp.ints_len]; omega) (by rw [Grp.ints_len]; omega)
              rw [Grp.ints_len] at hSORT
              have HSORT := Lib.hid hSORT; clear hSORT
              have hgb := (hO.lt gb rfl).1
              have hcap := own_cap hO
              obtain ⟨N, hN⟩ : ∃ N, g.length = N := ⟨_, rfl⟩
              have HN := Lib.hid hN
              rw [hN] at HSORT hcap hgi hgpos hg1 hgn ⊢
              have hvl : vs.length ≤ n := by have h1 := hG.gs.len; rw [List.length_map] at h1; have h2 := Grp.groups_len n nr j; omega
              clear hN HBF hO
              go_wp2_with (first
                | (go_at_call 42; refine HSORT.out.mono ?_; rintro e w2 ⟨ys, rfl, hyl, hyp, hyu, hown2, hgr2⟩; have hG2 := (hG.grow hgr2 (fun r e => by cases e; exact hgb)).alloc (.cells #[.slice (some ⟨gb, 0, none⟩) N N] 29); have hbg := hG2.bel.size)
                | (go_at_call 57; refine (clip_ints _ N cap _ hcap.1 hcap.2).mono ?_; rintro e w3 ⟨rfl, rfl⟩)
                | (at_builtin; refine wpList_append_own2 _ rfl _ _ 53 rfl w.heap.size 29 i1 (.slice none 0 0) 1 24 Try.underlying53 HJ0.out HJ1.out HJ2.out HJ3.out rfl (by decide) _ _ _ rfl hG2.own ⟨w2.heap.size, 0, none⟩ 1 1 [.slice (some ⟨gb, 0, none⟩) N N] rfl (by decide) rfl (cell_one_new _ _ _) (by simp [Value.oneCell']) (by unfold maxLen; omega) (by omega) hbg ?_; intro g5 cap5 w5 hown5 hgrow5 hnew5))
              have hys := HSO.out ys hyp hyu
              have hyN : ys.length = N := hyl
              have hGD := hG2.done (g := gb) (cap := cap) (c := N) (l := ys) (by omega) (by rw [hyN]; exact hown2.alloc _) (by rw [hyN]; exact hown5) hgrow5
              rw [hyN] at hGD
              go_roundg (n - (j + 1))
              case rel => exact ⟨j + 1, s1, vs ++ [.slice (some ⟨gb, 0, none⟩) N N], by omega, rfl, by go_num, HSN.out, by rw [HGR.out, List.map_append, List.map_cons, List.map_nil, ← hys]; exact hGD⟩
              case measure => omega
            · have hgi : ¬ (1 : Int) < (g.length : Int) := by omega
              have HGR := Lib.hid (Grp.groups_no (n := n) (nr := nr) (k := j) (fun h => hg1 (by rw [← HCL.out]; exact h.2)))
              clear HBF
              go_wp2_with fail
              go_roundg (n - (j + 1))
              case rel => exact ⟨j + 1, s1, vs, by omega, rfl, by go_num, HSN.out, by rw [HGR.out]; exact hG.more⟩
              case measure => omega
      · rw [hsj] at cj
        have HN := Lib.hid (HS.out.skip HSY.out hlt hsj)
        clear hsj
        go_wp2_with fail
        go_roundg (n - (j + 1))
        case rel => exact ⟨j + 1, s, vs, by omega, rfl, by go_num, HN.out.1, by rw [HN.out.2]; exact hG⟩
        case measure => omega
    · obtain rfl : j = n := by omega
      have HG := Lib.hid hG
      rcases hG.own.2 with ⟨rfl, h0⟩ | ⟨g, cap, cur, rfl, _, _, hcap, hcap2, _⟩
      · have hvs : vs = [] := List.eq_nil_of_length_eq_zero h0
        subst hvs
        have hL := hG.gs.len
        have hL2 : (Grp.groups j nr j).map Grp.ints = [] := List.eq_nil_of_length_eq_zero (by rw [← hL]; rfl)
        have HL2 := Lib.hid hL2
        clear hG hL hL2 h0
        go_wp2_with (go_at_call 77; refine (clip_rows none 0 0 _ (by omega) (by omega)).mono ?_; rintro e w3 ⟨rfl, rfl⟩)
        go_ret2
        exact ⟨none, 0, [], rfl, by rw [HL2.out]; exact Lists.nil _ _, HG.out.bel⟩
      · have hcap3 : cap ≤ 9223372036854775807 := hcap2
        have HLS := Lib.hid (Lists.of_own hG.own hG.gs)
        obtain ⟨m, hm⟩ : ∃ m, vs.length = m := ⟨_, rfl⟩
        have HM := Lib.hid hm
        rw [hm] at hcap ⊢
        clear hG hm
        go_wp2_with (go_at_call 77; refine (clip_rows _ m cap _ hcap hcap3).mono ?_; rintro e w3 ⟨rfl, rfl⟩)
        go_ret2
        exact ⟨some ⟨g, 0, none⟩, m, vs, by rw [HM.out]; rfl, HLS.out, HG.out.bel⟩
end Go.Proofs.Ytbbedepojogfmaa

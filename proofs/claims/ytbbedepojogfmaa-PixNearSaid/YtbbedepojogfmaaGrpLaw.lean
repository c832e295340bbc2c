/- The law PixGroups, walked. -/
import Derived.Test.YtbbedepojogfmaaGroupsR
namespace Go.Proofs.Ytbbedepojogfmaa
open Go.RowKit Go.Sort Go.Shelf
set_option linter.unusedVariables false
theorem Lists.keep {w w' : World} {a : Option Addr} {vs : List Value} {L : List (List Int)} (h : Lists w a vs L) (hb : Below w.heap.size w w') : Lists w' a vs L :=
  ⟨h.row.keep hb, h.len, fun i v l hv hl => by obtain ⟨b, c, e, hr⟩ := h.each i v l hv hl; exact ⟨b, c, e, hr.keep hb⟩⟩
theorem pg1_is (l : List Int) (a : Option Addr) (ca : Nat) (b : Option Addr) (cb : Nat) (w : World) (hx : RowL w a l) (hy : RowL w b l) (hn : l.length ≤ 9223372036854775807) :
    Calls Try.prog 33 #[.slice a l.length ca, .slice b l.length cb] w fun e w' => e = .returned (.bool true) ∧ Below w.heap.size w w' := by
  have HE := equal_ints a l ca b l cb w hx hy hn hn
  rw [decide_eq_true rfl] at HE
  have HE := Lib.hid HE
  generalize l.length = n at *
  go_enter Try.func33, Try.ntmps33
  go_wp2_with (go_at_call 17; refine HE.out.mono ?_; rintro e w1 ⟨rfl, hB⟩)
  go_ret
  exact ⟨rfl, hB⟩
theorem pg1_eg : ∀ args w, (callFunc 33 args).run Try.prog w = .ok (.enter 33 args) w := enters_of Try.func33 (by kernel_rfl) rfl
set_option maxRecDepth 100000 in
set_option maxHeartbeats 4000000 in
theorem equalLists_is (L : List (List Int)) (a : Option Addr) (vs : List Value) (ca : Nat) (b : Option Addr) (us : List Value) (cb : Nat) (w : World) (hx : Lists w a vs L) (hy : Lists w b us L) (hn : L.length ≤ 1000000) (hl : ∀ l ∈ L, l.length ≤ 1000000) :
    Calls Try.prog 31 #[.slice a vs.length ca, .slice b us.length cb, .func (.func 33) #[] #[]] w fun e w' => e = .returned (.bool true) ∧ Below w.heap.size w w' := by
  have eg := pg1_eg
  have h1 := hx.len
  have h2 := hy.len
  rw [h1, h2]
  obtain ⟨n, hN⟩ : ∃ n, L.length = n := ⟨_, rfl⟩
  rw [hN] at h1 h2 hn ⊢
  have H1 := Lib.hid h1; have H2 := Lib.hid h2; have HN := Lib.hid hN
  have HX := Lib.hid hx; have HY := Lib.hid hy; have HL := Lib.hid hl
  clear h1 h2 hN hx hy hl
  have hl' : ((n : Int) == (n : Int)) = true := by simp
  go_enter Try.func31, Try.ntmps31
  go_wp2_with fail
  go_loopg [17] n (fun gk i wr => ∃ j : Nat, j ≤ n ∧ gk = n - j ∧ i = .int .i64 j ∧ Below w.heap.size w wr)
  case atStart => exact ⟨0, by omega, rfl, rfl, Below.refl _ _⟩
  case round =>
    obtain ⟨j, hj, rfl, rfl, hB⟩ := hrel
    by_cases hlt : j < n
    · have hX := HX.out.keep hB
      have hY := HY.out.keep hB
      obtain ⟨v, hv⟩ : ∃ v, vs[j]? = some v := ⟨_, List.getElem?_eq_getElem (by rw [H1.out]; exact hlt)⟩
      obtain ⟨u, hu⟩ : ∃ u, us[j]? = some u := ⟨_, List.getElem?_eq_getElem (by rw [H2.out]; exact hlt)⟩
      obtain ⟨l, hll⟩ : ∃ l, L[j]? = some l := ⟨_, List.getElem?_eq_getElem (by rw [HN.out]; exact hlt)⟩
      obtain ⟨b1, c1, rfl, hr1⟩ := hX.each j v l hv hll
      obtain ⟨b2, c2, rfl, hr2⟩ := hY.each j u l hu hll
      obtain ⟨bx, ox, rfl, hbx, hcx⟩ := hX.row (by rw [H1.out]; omega)
      obtain ⟨by_, oy, rfl, hby, hcy⟩ := hY.row (by rw [H2.out]; omega)
      have cx : wr.cell? ⟨bx, ox + j, none⟩ = some (.slice b1 l.length c1) := by have := hcx j (by rw [H1.out]; exact hlt); simp only [hv] at this; exact this
      have cy : wr.cell? ⟨by_, oy + j, none⟩ = some (.slice b2 l.length c2) := by have := hcy j (by rw [H2.out]; exact hlt); simp only [hu] at this; exact this
      have hln := HL.out l (List.mem_of_getElem? hll)
      have HC := Lib.hid (pg1_is l b1 c1 b2 c2 wr hr1 hr2 (by omega))
      have hj0 : (0 : Int) ≤ (j : Int) := by omega
      have hj1 : (j : Int) < (n : Int) := by omega
      clear hcx hcy hX hY hv hu hll hr1 hr2
      generalize l.length = m at *
      go_wp2_with (go_at_call 33; refine HC.out.mono ?_; rintro e w5 ⟨rfl, hB5⟩)
      go_roundg (n - (j + 1))
      case rel => exact ⟨j + 1, by omega, rfl, by go_num, below_up hB hB5⟩
      case measure => omega
    · obtain rfl : j = n := by omega
      go_wp2_with fail
      go_ret
      exact ⟨rfl, hB⟩
theorem grps_len (n : Nat) (nr : Nat → Nat → Bool) (h : n ≤ 1000) : ((Grp.groups n nr n).map Grp.ints).length ≤ 1000000 ∧ ∀ l ∈ (Grp.groups n nr n).map Grp.ints, l.length ≤ 1000000 := by
  refine ⟨by rw [List.length_map]; have := Grp.groups_len n nr n; omega, fun l hl => ?_⟩
  obtain ⟨g, hg, rfl⟩ := List.mem_map.1 hl
  rw [Grp.ints_len]
  have := Grp.groups_mem_len hg
  omega
set_option maxRecDepth 100000 in
set_option maxHeartbeats 4000000 in
theorem pixGroups_walk (a : Option Addr) (n ca : Nat) (h : Nat → Nat) (most : Int) (w : World) (hr : Row w a n (fun i => .int .u64 (h i : Nat))) (hb : ∀ i, i < n → h i < 18446744073709551616) (hn : n ≤ 9223372036854775807) : Calls Try.prog 7 #[.slice a n ca, .int .i64 most] w fun e w' => e = .returned (.bool true) ∧ Below w.heap.size w w' := by
  by_cases hl : 1000 < n
  · have HG := Lib.hid (groups_large a n ca h most w hr hb hn hl)
    have hl' : (1000 : Int) < (n : Int) := by omega
    clear hr hb
    go_enter Try.func7, Try.ntmps7
    go_wp2_with (go_at_call 30; refine HG.out.mono ?_; rintro e w1 ⟨rfl, rfl⟩)
    go_ret
    exact ⟨rfl, Below.refl _ _⟩
  · have hl' : ¬ (1000 : Int) < (n : Int) := by omega
    by_cases h1 : most < 0
    · have HG := Lib.hid (groups_range a n ca h most w hr hb hn hl (.inl h1))
      clear hr hb
      go_enter Try.func7, Try.ntmps7
      go_wp2_with (go_at_call 30; refine HG.out.mono ?_; rintro e w1 ⟨rfl, rfl⟩)
      go_ret
      exact ⟨rfl, Below.refl _ _⟩
    · by_cases h2 : 64 < most
      · have HG := Lib.hid (groups_range a n ca h most w hr hb hn hl (.inr h2))
        clear hr hb
        go_enter Try.func7, Try.ntmps7
        go_wp2_with (go_at_call 30; refine HG.out.mono ?_; rintro e w1 ⟨rfl, rfl⟩)
        go_ret
        exact ⟨rfl, Below.refl _ _⟩
      · have HG := Lib.hid (groups_is a n ca h most w hr hb hn hl ⟨by omega, by omega⟩)
        have HGR := Lib.hid (fun W (hB : Below w.heap.size w W) => groupsOf_is a n ca h most W (hr.keep hB) hb hn hl ⟨by omega, by omega⟩)
        have HLN := Lib.hid (grps_len n (Grp.near h most) (by omega))
        clear hr hb
        generalize (Grp.groups n (Grp.near h most) n).map Grp.ints = L at *
        go_enter Try.func7, Try.ntmps7
        go_wp2_with (first
          | (go_at_call 30; refine HG.out.mono ?_; rintro e w1 ⟨a1, ca1, vs, rfl, hL1, hB1⟩; have HL1 := Lib.hid hL1; clear hL1)
          | (go_at_call 32; refine (HGR.out _ hB1).mono ?_; rintro e w2 ⟨a2, ca2, us, rfl, hL2, hB2⟩; have HL2 := Lib.hid hL2; clear hL2)
          | (go_at_call 31; refine (equalLists_is L a1 vs ca1 a2 us ca2 _ (HL1.out.keep hB2) HL2.out HLN.out.1 HLN.out.2).mono ?_; rintro e w3 ⟨rfl, hB3⟩))
        go_ret
        exact ⟨rfl, below_up hB1 (below_up hB2 hB3)⟩
end Go.Proofs.Ytbbedepojogfmaa

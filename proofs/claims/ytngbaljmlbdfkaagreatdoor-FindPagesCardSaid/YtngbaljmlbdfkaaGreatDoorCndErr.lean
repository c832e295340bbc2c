/- CheckCond and the reference's CondError. -/
import Derived.Test.YtngbaljmlbdfkaaGreatDoorCndChk2
import Derived.Test.YtngbaljmlbdfkaaGreatDoorCndAhd
namespace Go.Proofs.YtngbaljmlbdfkaaGreatDoor
open Go.RowKit Go.Sort Go.Shelf
set_option linter.unusedVariables false
set_option maxHeartbeats 2000000 in
theorem checkCond_is (c : Cnd) (w : World) (hI : c.In w) (hF : c.Fits) : Calls Tryz.prog 20 #[.agg #[.int .i64 c.op, .slice c.ka c.kn c.kc, .string c.text, .int .i64 c.low, .int .i64 c.high, .slice c.aa c.an c.ac]] w fun e w' => e = .returned (.int .i64 c.err) ∧ Below w.heap.size w w' := by
  have hB2 : Below w.heap.size w ((w.alloc (.cells #[.int .i64 c.op, .slice c.ka c.kn c.kc, .string c.text, .int .i64 c.low, .int .i64 c.high, .slice c.aa c.an c.ac] 26)).alloc (.cells #[.int .i64 0] 94)) := below_allocs (below_allocs (Below.refl _ _) _) _
  have hC : Ctr ((w.alloc (.cells #[.int .i64 c.op, .slice c.ka c.kn c.kc, .string c.text, .int .i64 c.low, .int .i64 c.high, .slice c.aa c.an c.ac] 26)).alloc (.cells #[.int .i64 0] 94)) (w.heap.size + 1) 0 := by
    have := Blk.new (w.alloc (.cells #[.int .i64 c.op, .slice c.ka c.kn c.kc, .string c.text, .int .i64 c.low, .int .i64 c.high, .slice c.aa c.an c.ac] 26)) #[.int .i64 0] 94
    simpa [Ctr] using this
  have h := chk_is w c 0 [] _ (w.heap.size + 1) hI hF hB2 (by omega) (by omega) rfl hC
  have HC := Lib.hid h
  have HB := Lib.hid hB2
  clear h hC hB2 hI hF
  go_enter Tryz.func20, Tryz.ntmps20
  go_wp2_with (go_at_call 51; refine HC.out.mono ?_; rintro e w7 ⟨rfl, -, hG⟩; have HG := Lib.hid hG; clear hG)
  go_ret
  exact ⟨rfl, HB.out.trans (below_of_grown HG.out (HB.out.size) (by omega))⟩
def GoodC (w : World) (p : Cnd × Nat) : Prop := p.1.In w ∧ p.1.Fits ∧ p.2 ≤ 13
theorem aheadK_all {w : World} {f : Nat → List (Cnd × Nat) → List (Cnd × Nat)} (k : Nat) (hf : ∀ i l, i < k → (∀ p ∈ l, GoodC w p) → ∀ p ∈ f i l, GoodC w p) : ∀ j, j ≤ k → ∀ l, (∀ p ∈ l, GoodC w p) → ∀ p ∈ Cnd.aheadK f j l, GoodC w p
  | 0, _, l, h => h
  | j + 1, hj, l, h => hf j _ (by omega) (aheadK_all k hf j (by omega) l h)
theorem ahead_all (w : World) : ∀ (c : Cnd), c.In w → c.Fits → ∀ (d : Nat), d ≤ 13 → ∀ l, (∀ p ∈ l, GoodC w p) → ∀ p ∈ Cnd.ahead c d l, GoodC w p := by
  refine Cnd.ind (fun h => absurd rfl h.ne) fun c hne ih hI hF d hd l hl => ?_
  by_cases h1 : 100 < l.length
  · rw [Cnd.ahead_full hne h1]; exact hl
  · have hl2 : ∀ p ∈ l ++ [(c, d)], GoodC w p := by
      intro p hp
      rcases List.mem_append.1 hp with h | h
      · exact hl p h
      · rw [List.mem_singleton] at h; subst h; exact ⟨hI, hF, hd⟩
    by_cases h2 : 12 < d
    · rw [Cnd.ahead_deep hne (by omega) h2]; exact hl2
    · rw [Cnd.ahead_eq hne (by omega) (by omega)]
      exact aheadK_all c.kn (fun i l hi hl => ih i (hI.each i hi) (hF.each i hi) (d + 1) (by omega) l hl) c.kn (Nat.le_refl _) _ hl2
theorem flat_get : ∀ (L : List (Cnd × Nat)), (∀ p ∈ L, p.1.cells.length = 6) → ∀ (j : Nat) (p : Cnd × Nat) (k : Nat), L[j]? = some p → k < 6 → (flatC L)[j * 6 + k]? = p.1.cells[k]?
  | [], _, j, p, k, h, _ => by simp at h
  | q :: L, hL, j, p, k, h, hk => by
    have h6 := hL q (List.mem_cons_self ..)
    have e : flatC (q :: L) = q.1.cells ++ flatC L := rfl
    rw [e]
    cases j with
    | zero =>
      simp at h; subst h
      rw [Nat.zero_mul, Nat.zero_add, List.getElem?_append_left (by omega)]
    | succ j =>
      rw [List.getElem?_append_right (by rw [h6]; omega), h6, show (j + 1) * 6 + k - 6 = j * 6 + k by omega]
      exact flat_get L (fun p hp => hL p (List.mem_cons_of_mem _ hp)) j p k (by simpa using h) hk
theorem own_some {w : World} {B : Nat} {e : TypeId} {k : Nat} {v : Value} {n : Nat} {xs : List Value} (h : w.ownsRow B e k v n xs) (hn : 0 < n) : ∃ g cap, v = .slice (some ⟨g, 0, none⟩) n cap := by
  rcases h.2 with ⟨rfl, rfl⟩ | ⟨g, cap, cur, rfl, _⟩
  · omega
  · exact ⟨_, _, rfl⟩
theorem ahead_pos {c : Cnd} (hne : c ≠ .zero) : 0 < (Cnd.ahead c 0 []).length := by
  rw [Cnd.ahead_eq hne (by simp) (by omega)]
  obtain ⟨m, hm⟩ := Cnd.aheadK_pre (f := fun i => Cnd.ahead (c.kids i) (0 + 1)) (fun i l => Cnd.ahead_pre _ _ _) c.kn ([] ++ [(c, 0)])
  rw [hm]; simp
theorem errL_here {L : List (Cnd × Nat)} {j : Nat} {q : Int} {p : Cnd × Nat} (h : Cnd.errL j (L.drop j) = q) (hp : L[j]? = some p) (e : Int) (he : Cnd.errAt j p = e) (h0 : e ≠ 0) : e = q := by
  obtain ⟨hlt, hg⟩ := List.getElem?_eq_some_iff.1 hp
  rw [List.drop_eq_getElem_cons hlt, hg, Cnd.errL, he, if_neg h0] at h
  exact h
theorem errL_next {L : List (Cnd × Nat)} {j : Nat} {q : Int} {p : Cnd × Nat} (h : Cnd.errL j (L.drop j) = q) (hp : L[j]? = some p) (he : Cnd.errAt j p = 0) : Cnd.errL (j + 1) (L.drop (j + 1)) = q := by
  obtain ⟨hlt, hg⟩ := List.getElem?_eq_some_iff.1 hp
  rw [List.drop_eq_getElem_cons hlt, hg, Cnd.errL, if_pos he] at h
  exact h
set_option maxRecDepth 100000 in
set_option maxHeartbeats 8000000 in
theorem condError_is (c : Cnd) (w : World) (hI : c.In w) (hF : c.Fits) : Calls Tryz.prog 10 #[.agg #[.int .i64 c.op, .slice c.ka c.kn c.kc, .string c.text, .int .i64 c.low, .int .i64 c.high, .slice c.aa c.an c.ac]] w fun e w' => e = .returned (.int .i64 c.err) ∧ Below w.heap.size w w' := by
  have hne := hI.ne
  have hpos := ahead_pos hne
  have hall := ahead_all w c hI hF 0 (by omega) [] (fun p hp => by cases hp)
  have hlen := Cnd.ahead_len c 0 [] (by simp)
  obtain ⟨q, hq⟩ : ∃ q, c.err = q := ⟨_, rfl⟩
  rw [hq]
  unfold Cnd.err at hq
  have hA := ahead_is w w.heap.size (Nat.le_refl _) c 0 [] (w.alloc (.cells #[.int .i64 c.op, .slice c.ka c.kn c.kc, .string c.text, .int .i64 c.low, .int .i64 c.high, .slice c.aa c.an c.ac] 26)) (.slice none 0 0) (.slice none 0 0) hI hF (below_allocs (Below.refl _ _) _) (by omega) (by simp) (by simp) ⟨World.ownsRow_nil _ _ _ _, World.ownsRow_nil _ _ _ _⟩
  rw [show ((0 : Nat) : Int) = 0 from rfl] at hA
  have hB1 := below_allocs (Below.refl w.heap.size w) (.cells #[.int .i64 c.op, .slice c.ka c.kn c.kc, .string c.text, .int .i64 c.low, .int .i64 c.high, .slice c.aa c.an c.ac] 26)
  generalize Cnd.ahead c 0 [] = L at *
  have HA := Lib.hid hA; have HQ := Lib.hid hq; have HALL := Lib.hid hall; have HB1 := Lib.hid hB1
  clear hA hq hall hI hF hne hB1
  go_enter Tryz.func10, Tryz.ntmps10
  go_wp2_with (go_at_call 34; refine HA.out.mono ?_; rintro e w3 ⟨v, u, rfl, hT, hB⟩; obtain ⟨g, cap, rfl⟩ := own_some hT.rows hpos; obtain ⟨g2, cap2, rfl⟩ := own_some hT.deps hpos; have HT := Lib.hid hT; have HB3 := Lib.hid (HB1.out.trans hB); clear hT hB)
  go_loopg [15] L.length (fun gk i wr => ∃ j : Nat, j ≤ L.length ∧ gk = L.length - j ∧ i = .int .i64 j ∧ Cnd.errL j (L.drop j) = q ∧ Below w3.heap.size w3 wr)
  case atStart => exact ⟨0, by omega, rfl, rfl, by rw [List.drop_zero]; exact HQ.out, Below.refl _ _⟩
  case round =>
    obtain ⟨j, hj, rfl, rfl, hsc, hB⟩ := hrel
    have HSC := Lib.hid hsc; clear hsc
    by_cases hlt : j < L.length
    · obtain ⟨p, hp⟩ : ∃ p, L[j]? = some p := ⟨_, List.getElem?_eq_getElem hlt⟩
      have hgood := HALL.out p (List.mem_of_getElem? hp)
      obtain ⟨x, dd⟩ := p
      have hxI : x.In w := hgood.1
      have hxF : x.Fits := hgood.2.1
      have hcx := hxI.cells
      have h6 : ∀ p ∈ L, p.1.cells.length = 6 := fun p hp => by rw [(HALL.out p hp).1.cells]; rfl
      have hg3 := (HT.out.rows.lt g rfl).2
      have hg4 := (HT.out.deps.lt g2 rfl).2
      have hcell : ∀ k v, k < 6 → x.cells[k]? = some v → wr.cell? ⟨g, j * 6 + k, none⟩ = some v := by
        intro k v hk hv
        rw [hB.cell (p := ⟨g, j * 6 + k, none⟩) hg3, HT.out.rows.cellAt (j * 6 + k) (by omega), flat_get L h6 j _ k hp hk]
        exact hv
      have c0 := hcell 0 (.int .i64 x.op) (by omega) (by rw [hcx]; rfl)
      have c1 := hcell 1 (.slice x.ka x.kn x.kc) (by omega) (by rw [hcx]; rfl)
      have c2 := hcell 2 (.string x.text) (by omega) (by rw [hcx]; rfl)
      have c3 := hcell 3 (.int .i64 x.low) (by omega) (by rw [hcx]; rfl)
      have c4 := hcell 4 (.int .i64 x.high) (by omega) (by rw [hcx]; rfl)
      have c5 := hcell 5 (.slice x.aa x.an x.ac) (by omega) (by rw [hcx]; rfl)
      rw [Nat.add_zero] at c0
      have cd : wr.cell? ⟨g2, j, none⟩ = some (.int .i64 (dd : Int)) := by
        rw [hB.cell (p := ⟨g2, j, none⟩) hg4, HT.out.deps.cellAt j (by omega)]
        unfold depsC
        rw [List.getElem?_map, hp]; rfl
      have hg5 : g2 < wr.heap.size := Nat.lt_of_lt_of_le hg4 hB.size
      have hbb : Below w.heap.size w wr := HB3.out.trans (hB.mono HB3.out.size)
      have HBB := Lib.hid hbb
      have HP := Lib.hid hp
      have HXN := Lib.hid (Cnd.bare_eq hxI.ne)
      have hBx := below_allocs hB (.cells #[.int .i64 x.op, .slice x.ka x.kn x.kc, .string x.text, .int .i64 x.low, .int .i64 x.high, .slice x.aa x.an x.ac] 26)
      have HBX := Lib.hid hBx
      clear hcell h6 hgood hcx hp hbb hg3 hBx
      obtain ⟨bv, hbv⟩ : ∃ bv, Cnd.bareE x.op x.kn x.text x.low x.high x.an x.lat x.lon = bv := ⟨_, rfl⟩
      have HBV := Lib.hid hbv
      have HCB := Lib.hid (condBare_is x.op x.ka x.kn x.kc x.text x.low x.high x.aa x.an x.ac x.lat x.lon (wr.alloc (.cells #[.int .i64 x.op, .slice x.ka x.kn x.kc, .string x.text, .int .i64 x.low, .int .i64 x.high, .slice x.aa x.an x.ac] 26)) hxF.size.1 hxF.size.2.1 hxF.size.2.2 (Cnd.In.keep (HBB.out.trans ((below_allocs (Below.refl _ _) _).mono HBB.out.size)) hxI).row bv hbv)
      clear hxI hxF hbv
      have hj0 : (0 : Int) ≤ (j : Int) := by omega
      have hj1 : (j : Int) < (L.length : Int) := by omega
      by_cases h100 : 100 ≤ j
      · have h100' : (100 : Int) ≤ (j : Int) := by omega
        have HE := Lib.hid (errL_here HSC.out HP.out 4 (if_pos (.inl h100)) (by decide))
        clear h100
        go_wp2_with fail
        go_ret
        exact ⟨ret_int HE.out, HBB.out.trans ((below_allocs (Below.refl _ _) _).mono HBB.out.size)⟩
      · have h100' : ¬ (100 : Int) ≤ (j : Int) := by omega
        by_cases h12 : 12 < dd
        · have h12' : (12 : Int) < (dd : Int) := by omega
          have HE := Lib.hid (errL_here HSC.out HP.out 4 (if_pos (.inr h12)) (by decide))
          clear h100 h12
          go_wp2_with fail
          go_ret
          exact ⟨ret_int HE.out, HBB.out.trans ((below_allocs (Below.refl _ _) _).mono HBB.out.size)⟩
        · have h12' : ¬ (12 : Int) < (dd : Int) := by omega
          have HAT : Hid (Cnd.errAt j (x, dd) = bv) := Lib.hid (by rw [← HBV.out, ← HXN.out]; exact if_neg (by rintro (h | h); exact h100 h; exact h12 h))
          clear h100 h12
          by_cases hb0 : bv = 0
          · have HE := Lib.hid (errL_next HSC.out HP.out (HAT.out.trans hb0))
            subst hb0
            go_wp2_with (go_at_call 35; refine HCB.out.mono ?_; rintro e w5 ⟨rfl, hB5⟩)
            go_roundg (L.length - (j + 1))
            case rel => exact ⟨j + 1, by omega, rfl, by go_num, HE.out, below_up HBX.out hB5⟩
            case measure => omega
          · have hb1 : (bv != 0) = true := by simpa using hb0
            have HE := Lib.hid (errL_here HSC.out HP.out bv HAT.out hb0)
            clear hb0
            go_wp2_with (go_at_call 35; refine HCB.out.mono ?_; rintro e w5 ⟨rfl, hB5⟩)
            go_ret
            exact ⟨ret_int HE.out, HB3.out.trans ((below_up HBX.out hB5).mono HB3.out.size)⟩
    · obtain rfl : j = L.length := by omega
      have HE : Hid ((0 : Int) = q) := Lib.hid (by have h := HSC.out; rw [List.drop_length] at h; exact h)
      go_wp2_with fail
      go_ret
      exact ⟨ret_int HE.out, HB3.out.trans (hB.mono HB3.out.size)⟩
end Go.Proofs.YtngbaljmlbdfkaaGreatDoor

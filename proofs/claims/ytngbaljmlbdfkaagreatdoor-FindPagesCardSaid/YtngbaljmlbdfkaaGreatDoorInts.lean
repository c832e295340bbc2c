/- slices.Equal, Clone and Clip of integers. -/
import Derived.ArgAppend
import Derived.WalkSpells
import Derived.Test.YtngbaljmlbdfkaaGreatDoorOwn
import Derived.Test.YtngbaljmlbdfkaaGreatDoorEvents0
namespace Go.Proofs.YtngbaljmlbdfkaaGreatDoor
open Go.RowKit Go.Sort Go.Shelf
set_option linter.unusedVariables false
theorem infoInt : (Tryz.prog.info? 3).map (fun i => (i.zero, i.size, i.bytes)) = some (some (.int .i64 0), 1, 8) := by kernel_rfl
/-- A slice of integers. -/
def RowL (w : World) (a : Option Addr) (xs : List Int) : Prop := Row w a xs.length (fun i => .int .i64 (xs[i]?.getD 0))
theorem RowL.keep {w w' : World} {a : Option Addr} {xs : List Int} (h : RowL w a xs) (hb : Below w.heap.size w w') : RowL w' a xs := Row.keep h hb
theorem RowL.nil (w : World) (a : Option Addr) : RowL w a [] := fun h => by simp at h
theorem getD_at {xs : List Int} {i : Nat} {v : Int} (h : xs[i]? = some v) : xs[i]?.getD 0 = v := by rw [h]; rfl
theorem RowL.of_own {w : World} {base : Nat} {e : TypeId} {g n cap : Nat} {xs : List Int} (h : w.ownsRow base e 1 (.slice (some ⟨g, 0, none⟩) n cap) n (xs.map (Value.int .i64))) : RowL w (some ⟨g, 0, none⟩) xs := by
  intro hl
  have hlen := h.1
  rw [List.length_map, Nat.mul_one] at hlen
  refine ⟨g, 0, rfl, (h.lt g rfl).2, fun i hi => ?_⟩
  rw [Nat.zero_add, h.cellAt i (by omega), List.getElem?_map]; simp [List.getElem?_eq_getElem hi]
theorem row_own_cell {w : World} {base : Nat} {e : TypeId} {g n cap : Nat} {xs : List Int} (h : w.ownsRow base e 1 (.slice (some ⟨g, 0, none⟩) n cap) n (xs.map (Value.int .i64))) (i : Nat) (v : Int) (hi : xs[i]? = some v) : w.cell? ⟨g, i, none⟩ = some (.int .i64 v) := by
  have hlen := h.1
  rw [List.length_map, Nat.mul_one] at hlen
  have := (List.getElem?_eq_some_iff.1 hi).1
  rw [h.cellAt i (by omega), List.getElem?_map, hi]; rfl
set_option maxRecDepth 100000 in
set_option maxHeartbeats 1000000 in
theorem equal_ints (a : Option Addr) (xs : List Int) (ca : Nat) (b : Option Addr) (ys : List Int) (cb : Nat) (w : World) (hx : RowL w a xs) (hy : RowL w b ys) (hnx : xs.length ≤ 9223372036854775807) (hny : ys.length ≤ 9223372036854775807) :
    Calls Tryz.prog 11 #[.slice a xs.length ca, .slice b ys.length cb] w fun e w' => e = .returned (.bool (decide (xs = ys))) ∧ Below w.heap.size w w' := by
  have HX := Lib.hid hx; have HY := Lib.hid hy
  clear hx hy
  by_cases hl : xs.length = ys.length
  · have hl' : ((xs.length : Int) == (ys.length : Int)) = true := by simp [hl]
    obtain ⟨n, hn⟩ : ∃ n, xs.length = n := ⟨_, rfl⟩
    have hm : ys.length = n := by omega
    have HN := Lib.hid hn; have HM := Lib.hid hm
    rw [hn] at hnx hl' ⊢
    rw [hm] at hny hl' ⊢
    clear hn hm hl
    obtain ⟨q, hq⟩ : ∃ q, decide (xs = ys) = q := ⟨_, rfl⟩
    rw [hq]
    have HQ := Lib.hid hq; clear hq
    go_enter Tryz.func11, Tryz.ntmps11
    go_wp2_with fail
    go_loopg [13] n (fun gk i wr => ∃ j : Nat, j ≤ n ∧ gk = n - j ∧ i = .int .i64 j ∧ (∀ k, k < j → xs[k]? = ys[k]?) ∧ Below w.heap.size w wr)
    case atStart => exact ⟨0, by omega, rfl, rfl, fun k hk => by omega, Below.refl _ _⟩
    case round =>
      obtain ⟨j, hj, rfl, rfl, hall, hB⟩ := hrel
      have HALL := Lib.hid hall; clear hall
      by_cases hlt : j < n
      · obtain ⟨b1, o1, rfl, hb1, hc1⟩ := HX.out.keep hB (by rw [HN.out]; omega)
        obtain ⟨b2, o2, rfl, hb2, hc2⟩ := HY.out.keep hB (by rw [HM.out]; omega)
        have c1 : wr.cell? ⟨b1, o1 + j, none⟩ = some (.int .i64 (xs[j]?.getD 0)) := hc1 j (by rw [HN.out]; exact hlt)
        have c2 : wr.cell? ⟨b2, o2 + j, none⟩ = some (.int .i64 (ys[j]?.getD 0)) := hc2 j (by rw [HM.out]; exact hlt)
        clear hc1 hc2
        have hxe : xs[j]? = some (xs[j]?.getD 0) := by rw [List.getElem?_eq_getElem (by rw [HN.out]; exact hlt)]; rfl
        have hye : ys[j]? = some (ys[j]?.getD 0) := by rw [List.getElem?_eq_getElem (by rw [HM.out]; exact hlt)]; rfl
        have HXE := Lib.hid hxe; have HYE := Lib.hid hye; clear hxe hye
        generalize xs[j]?.getD 0 = x at c1 HXE
        generalize ys[j]?.getD 0 = y at c2 HYE
        have hj0 : (0 : Int) ≤ (j : Int) := by omega
        have hj1 : (j : Int) < (n : Int) := by omega
        by_cases he : x = y
        · have he' : (x == y) = true := by simpa using he
          have he2 : (x != y) = false := by simpa using he
          have HE := Lib.hid he; clear he
          go_wp2_with fail
          go_quiet (fail)
          go_wp2_with fail
          go_roundg (n - (j + 1))
          case rel => exact ⟨j + 1, by omega, rfl, by go_num, fun k hk => by (by_cases e : k = j); exact (by rw [e, HXE.out, HYE.out, HE.out]); exact HALL.out k (by omega), below_drewN hB _⟩
          case measure => omega
        · have he' : (x == y) = false := by simpa using he
          have he2 : (x != y) = true := by simpa using he
          have hd : decide (xs = ys) = false := by
            rw [decide_eq_false_iff_not]; intro e
            have := HXE.out; rw [e, HYE.out] at this; exact he (by cases this; rfl)
          have HD := Lib.hid hd
          clear he hd
          go_wp2_with fail
          go_quiet (fail)
          go_wp2_with fail
          go_ret
          exact ⟨ret_bool (by rw [← HQ.out, HD.out]), below_drewN hB _⟩
      · obtain rfl : j = n := by omega
        have hd : decide (xs = ys) = true := by
          rw [decide_eq_true_iff]
          apply List.ext_getElem?
          intro k
          by_cases hk : k < j
          · exact HALL.out k hk
          · rw [List.getElem?_eq_none (by have := HN.out; omega), List.getElem?_eq_none (by have := HM.out; omega)]
        have HD := Lib.hid hd
        clear hd
        go_wp2_with fail
        go_ret
        exact ⟨ret_bool (by rw [← HQ.out, HD.out]), hB⟩
  · have hl' : ((xs.length : Int) == (ys.length : Int)) = false := by simp; omega
    have hl2 : ((xs.length : Int) != (ys.length : Int)) = true := by simp; omega
    have hd : decide (xs = ys) = false := by rw [decide_eq_false_iff_not]; intro e; rw [e] at hl; exact hl rfl
    rw [hd]
    generalize xs.length = n at *
    generalize ys.length = m at *
    clear hl hd
    go_enter Tryz.func11, Tryz.ntmps11
    go_wp2_with fail
    go_ret
    exact ⟨rfl, Below.refl _ _⟩
theorem clip_ints (a : Option Addr) (n ca : Nat) (w : World) (h : n ≤ ca) (hc : ca ≤ 9223372036854775807) : Calls Tryz.prog 82 #[.slice a n ca] w fun e w' => e = .returned (.slice a n n) ∧ w = w' := by
  go_enter Tryz.func82, Tryz.ntmps82
  go_wp2_with fail
  go_ret
  exact ⟨rfl, rfl⟩
end Go.Proofs.YtngbaljmlbdfkaaGreatDoor

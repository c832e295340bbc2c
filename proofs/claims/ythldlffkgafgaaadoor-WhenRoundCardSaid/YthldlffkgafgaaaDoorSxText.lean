/- units: the texts of a date. -/
import Derived.Test.YthldlffkgafgaaaDoorSxDate
import Derived.Test.YthldlffkgafgaaaDoorTxLocal
import Derived.BigRegion
import Derived.Test.YthldlffkgafgaaaDoorSpSpan
import Derived.Test.YthldlffkgafgaaaDoorOwn
namespace Go.Proofs.YthldlffkgafgaaaDoor
open Go.RowKit Go.Sort Go.Shelf
set_option linter.unusedVariables false
/-- A row of strings, from a block's begin on. -/
def StrRow (w : World) (g : Nat) (ss : List (List UInt8)) : Prop := g < w.heap.size ∧ ∀ i, i < ss.length → w.cell? ⟨g, i, none⟩ = some (.string (Tx.mk (ss.getD i [])))
theorem StrRow.keep {w w' : World} {g : Nat} {ss : List (List UInt8)} (h : StrRow w g ss) (hb : Below w.heap.size w w') : StrRow w' g ss :=
  ⟨Nat.lt_of_lt_of_le h.1 hb.size, fun i hi => cell_below hb (h.2 i hi)⟩
theorem StrRow.grown {w w' : World} {g : Nat} {ss : List (List UInt8)} {row : Option Nat} (h : StrRow w g ss) (hg : w.grownBy w' row) (hne : some g ≠ row) (hz : w.heap.size ≤ w'.heap.size) : StrRow w' g ss := by
  refine ⟨Nat.lt_of_lt_of_le h.1 hz, fun i hi => ?_⟩
  have := hg.block g h.1 hne
  have h2 := h.2 i hi
  unfold World.cell? at h2 ⊢
  rw [this]; exact h2
theorem StrRow.new3 (w : World) (a b c : List UInt8) (t : TypeId) : StrRow (w.alloc (.cells #[.string (Tx.mk a), .string (Tx.mk b), .string (Tx.mk c)] t)).drew w.heap.size [a, b, c] := by
  refine ⟨by show w.heap.size < (w.alloc _).heap.size; simp, fun i hi => ?_⟩
  show (w.alloc _).cell? _ = _
  rw [(Blk.new w _ t).cell]
  match i, hi with
  | 0, _ => rfl
  | 1, _ => rfl
  | 2, _ => rfl
theorem below_drew0 {B : Nat} {a w : World} (h : Below B a w) : Below B a w.drew := ⟨h.os, h.tape, h.output, h.size, h.block⟩
theorem Tx.D_u3 (d : Sp.D3) : Tx.D d.1 d.2.1 d.2.2 ⟨#[45]⟩ = Tx.mk (Sx.u3 d) := by
  unfold Tx.D Tx.Y4 Tx.P2 Sx.u3 Sx.u2 Sx.u1
  rw [show ByteArray.mk #[45] = Tx.mk [45] from rfl]
  simp only [Tx.mk_append]
set_option maxRecDepth 100000 in
set_option maxHeartbeats 2000000 in
theorem units_is (d : Sp.D3) (hv : Sp.vld d = true) (w : World) (ht : Tx.Tab w) :
    Calls Tryd.prog 65 #[.agg #[.int .i64 d.1, .int .i64 d.2.1, .int .i64 d.2.2]] w fun e w' => ∃ g, e = .returned (.slice (some ⟨g, 0, none⟩) 3 3) ∧ w.heap.size ≤ g ∧ StrRow w' g [Sx.u1 d, Sx.u2 d, Sx.u3 d] ∧ Below w.heap.size w w' := by
  obtain ⟨hy, hm, hd⟩ := Sx.vld_bd hv
  obtain ⟨l1, l2, l3⟩ := Sx.lens hv
  obtain ⟨_, _, _, _, _, w7⟩ := Sx.wins hv
  have w4 : Ft.win (Sx.u3 d) 0 4 = Sx.u1 d := (Sx.wins hv).1
  obtain ⟨W1, hW1, hP, hz1, hB1⟩ := box w #[.int .i64 d.1, .int .i64 d.2.1, .int .i64 d.2.2] 56
  have HW1 := Lib.hid hW1
  have HDT : Hid (Calls Tryd.prog 69 #[.agg #[.int .i64 d.1, .int .i64 d.2.1, .int .i64 d.2.2], .string ⟨#[45]⟩] W1 fun e w' => e = .returned (.string (Tx.mk (Sx.u3 d))) ∧ Below W1.heap.size W1 w') := by
    have := dateText_is d.1 d.2.1 d.2.2 ⟨#[45]⟩ hy hm hd rfl W1 (Tx.tab_below ht hB1)
    rwa [Tx.D_u3] at this
  obtain ⟨c0, c1, c2⟩ := hP.three
  have hsz := Tx.mk_size (Sx.u3 d)
  rw [l3] at hsz
  have x4 := ext_mk (Sx.u3 d) 0 4
  have x7 := ext_mk (Sx.u3 d) 0 7
  rw [w4] at x4
  rw [w7] at x7
  clear hW1 hy hm hd l1 l2 l3 w4 w7 hv ht
  generalize Sx.u1 d = a1 at *
  generalize Sx.u2 d = a2 at *
  generalize Sx.u3 d = a3 at *
  go_enter Tryd.func65, Tryd.ntmps65
  go_wp2_with fail
  rw [HW1.out]
  go_wp2_with fail
  go_at_call 69
  refine HDT.out.mono ?_
  rintro e w2 ⟨rfl, hB2⟩
  have hBa := below_up hB1 hB2
  go_wp2_with fail
  go_region_with (fail)
  go_wp2_with fail
  go_ret
  exact ⟨w2.heap.size, rfl, hBa.size, StrRow.new3 _ _ _ _ _, below_drew0 (below_allocs hBa _)⟩
end Go.Proofs.YthldlffkgafgaaaDoor
namespace Go.Proofs.YthldlffkgafgaaaDoor
open Go.RowKit Go.Sort Go.Shelf
set_option linter.unusedVariables false
theorem infoStr : (Tryd.prog.info? 9).map (fun i => (i.zero, i.size, i.bytes)) = some (some (.string ByteArray.empty), 1, 16) := by kernel_rfl
def strV (s : List UInt8) : Value := .string (Tx.mk s)
namespace Sx
/-- The texts gathered so far: the first n candidates. -/
def Row (B : Nat) (w6 : World) (P : List (List UInt8)) (n : Nat) (v : Value) (wr : World) : Prop := wr.ownsRow B 9 1 v n ((P.take n).map strV) ∧ Below w6.heap.size w6 wr
def U (u1 u2 u3 : List UInt8) (k : Nat) : List UInt8 := [u1, u2, u3].getD k []
theorem candP_one (u1 u2 u3 v1 v2 v3 : List UInt8) (k : Nat) (hk : k < 3) : (candP u1 u2 u3 v1 v2 v3)[4 * k]? = some (U u1 u2 u3 k) := by
  match k, hk with
  | 0, _ => rfl
  | 1, _ => rfl
  | 2, _ => rfl
theorem candP_two (u1 u2 u3 v1 v2 v3 : List UInt8) (k j : Nat) (hk : k < 3) (hj : j < 3) : (candP u1 u2 u3 v1 v2 v3)[4 * k + 1 + j]? = some (U u1 u2 u3 k ++ dots ++ U v1 v2 v3 j) := by
  match k, hk, j, hj with
  | 0, _, 0, _ => rfl
  | 0, _, 1, _ => rfl
  | 0, _, 2, _ => rfl
  | 1, _, 0, _ => rfl
  | 1, _, 1, _ => rfl
  | 1, _, 2, _ => rfl
  | 2, _, 0, _ => rfl
  | 2, _, 1, _ => rfl
  | 2, _, 2, _ => rfl
theorem take_snoc {P : List (List UInt8)} {n : Nat} {s : List UInt8} (h : P[n]? = some s) : (P.take (n + 1)).map strV = (P.take n).map strV ++ [strV s] := by
  obtain ⟨hn, he⟩ := List.getElem?_eq_some_iff.1 h
  rw [List.take_succ_eq_append_getElem hn, List.map_append, he]; rfl
theorem U_len {u1 u2 u3 : List UInt8} (h1 : u1.length ≤ 10) (h2 : u2.length ≤ 10) (h3 : u3.length ≤ 10) (k : Nat) : (U u1 u2 u3 k).length ≤ 10 := by
  match k with
  | 0 => exact h1
  | 1 => exact h2
  | 2 => exact h3
  | k + 3 => show ([] : List UInt8).length ≤ 10; simp
end Sx
set_option maxRecDepth 100000 in
set_option maxHeartbeats 2000000 in
theorem spanText_mom (F T : Int) (h : ¬ (Ev.mom F = true ∧ Ev.mom T = true)) (w : World) :
    Calls Tryd.prog 29 #[.agg #[.int .i64 F, .int .i64 T]] w fun e w' => e = .returned (.tuple #[.string ⟨#[]⟩, .int .i64 2]) ∧ Below w.heap.size w w' := by
  cases hF : Ev.mom F
  · have HMF := Lib.hid hF
    have HMT := Lib.hid hF
    clear hF h
    go_enter Tryd.func29, Tryd.ntmps29
    go_wp2_with (go_at_call 33; first | (with_reducible refine (isMoment_is _ _ HMF.out _).mono ?_; rintro e w2 ⟨rfl, rfl⟩) | (with_reducible refine (isMoment_is _ _ HMT.out _).mono ?_; rintro e w2 ⟨rfl, rfl⟩))
    go_ret2
    exact ⟨rfl, below_allocs (Below.refl _ _) _⟩
  · have hT : Ev.mom T = false := by rw [← Bool.not_eq_true]; exact fun e => h ⟨hF, e⟩
    have HMF := Lib.hid hF
    have HMT := Lib.hid hT
    clear hF hT h
    go_enter Tryd.func29, Tryd.ntmps29
    go_wp2_with (go_at_call 33; first | (with_reducible refine (isMoment_is _ _ HMF.out _).mono ?_; rintro e w2 ⟨rfl, rfl⟩) | (with_reducible refine (isMoment_is _ _ HMT.out _).mono ?_; rintro e w2 ⟨rfl, rfl⟩))
    go_ret2
    exact ⟨rfl, below_allocs (Below.refl _ _) _⟩
set_option maxRecDepth 100000 in
set_option maxHeartbeats 2000000 in
theorem spanText_order (F T : Int) (hF : Ev.mom F = true) (hT : Ev.mom T = true) (h : T < F) (w : World) :
    Calls Tryd.prog 29 #[.agg #[.int .i64 F, .int .i64 T]] w fun e w' => e = .returned (.tuple #[.string ⟨#[]⟩, .int .i64 5]) ∧ Below w.heap.size w w' := by
  have HMF := Lib.hid hF
  have HMT := Lib.hid hT
  clear hF hT
  go_enter Tryd.func29, Tryd.ntmps29
  go_wp2_with (go_at_call 33; first | (with_reducible refine (isMoment_is _ _ HMF.out _).mono ?_; rintro e w2 ⟨rfl, rfl⟩) | (with_reducible refine (isMoment_is _ _ HMT.out _).mono ?_; rintro e w2 ⟨rfl, rfl⟩))
  go_ret2
  exact ⟨rfl, below_allocs (Below.refl _ _) _⟩
set_option maxRecDepth 100000 in
set_option maxHeartbeats 2000000 in
theorem spanText_form (F T : Int) (hF : Ev.mom F = true) (hT : Ev.mom T = true) (h : F ≤ T) (ha : ¬ (F % 86400 = 0 ∧ (T + 1) % 86400 = 0)) (w : World) :
    Calls Tryd.prog 29 #[.agg #[.int .i64 F, .int .i64 T]] w fun e w' => e = .returned (.tuple #[.string ⟨#[]⟩, .int .i64 1]) ∧ Below w.heap.size w w' := by
  have hf := (Ev.mom_iff _).1 hF
  have ht := (Ev.mom_iff _).1 hT
  have HMF := Lib.hid hF
  have HMT := Lib.hid hT
  have hlt : ¬ T < F := by omega
  clear hF hT
  by_cases h1 : F % 86400 = 0
  · have h2 : ¬ (T + 1) % 86400 = 0 := fun e => ha ⟨h1, e⟩
    clear ha
    go_enter Tryd.func29, Tryd.ntmps29
    go_wp2_with (go_at_call 33; first | (with_reducible refine (isMoment_is _ _ HMF.out _).mono ?_; rintro e w2 ⟨rfl, rfl⟩) | (with_reducible refine (isMoment_is _ _ HMT.out _).mono ?_; rintro e w2 ⟨rfl, rfl⟩))
    go_ret2
    exact ⟨rfl, below_allocs (Below.refl _ _) _⟩
  · clear ha
    go_enter Tryd.func29, Tryd.ntmps29
    go_wp2_with (go_at_call 33; first | (with_reducible refine (isMoment_is _ _ HMF.out _).mono ?_; rintro e w2 ⟨rfl, rfl⟩) | (with_reducible refine (isMoment_is _ _ HMT.out _).mono ?_; rintro e w2 ⟨rfl, rfl⟩))
    go_ret2
    exact ⟨rfl, below_allocs (Below.refl _ _) _⟩
end Go.Proofs.YthldlffkgafgaaaDoor

/- Parts of the proof, no condition: SxText, SxText2, SxText3, SxLaw, Once, Open. -/
import Derived.Test.YtimjmjmpaicdbaaGreatDoorPc11
import Derived.Test.YtimjmjmpaicdbaaGreatDoorPc8
import Derived.BigRegion
import Derived.Test.YtimjmjmpaicdbaaGreatDoorPc5
import Derived.Test.YtimjmjmpaicdbaaGreatDoorPc7
import Derived.Test.YtimjmjmpaicdbaaGreatDoorPc1
import Derived.Defers
import Derived.Laws.Pointers
import Derived.Laws.LoneSync
import Derived.RegionCalls
import Derived.ChangeAlike
import Derived.Test.YtimjmjmpaicdbaaGreatDoorProg
import Derived.WalkKit
import Derived.ProofKit
import Derived.OpenShut
import Derived.ShutString
import Derived.ChangeOld
import Derived.Below
import Derived.SizedLaws
import Derived.Lib.SmallJoins
import Derived.Deep.SlicePairs
set_option maxRecDepth 100000
set_option maxHeartbeats 8000000
set_option linter.unusedSimpArgs false
set_option linter.unusedVariables false
namespace Go.Proofs.YtimjmjmpaicdbaaGreatDoor
open Go.RowKit Go.Sort Go.Shelf
theorem StrRow.new3 (w : World) (a b c : List UInt8) (t : TypeId) : StrRow (w.alloc (.cells #[.string (Tx.mk a), .string (Tx.mk b), .string (Tx.mk c)] t)).drew w.heap.size [a, b, c] := by
 refine ⟨by show w.heap.size < (w.alloc _).heap.size; simp, fun i hi => ?_⟩
 show (w.alloc _).cell? _ = _
 rw [(Blk.new w _ t).cell]
 match i, hi with
 | 0, _ => rfl
 | 1, _ => rfl
 | 2, _ => rfl
theorem below_drew0 {B : Nat} {a w : World} (h : Below B a w) : Below B a w.drew := ⟨h.os, h.tape, h.output, h.size, h.block⟩
theorem Tx.D_u3 (d : Sp.D3) : Tx.D d.1 d.2.1 d.2.2 ⟨#[45]⟩ = Tx.mk (Sx.u3 d) := by
 unfold Tx.D Tx.Y4 Tx.P2 Sx.u3 Sx.u2 Sx.u1
 rw [show ByteArray.mk #[45] = Tx.mk [45] from rfl]
 simp only [Tx.mk_append]
theorem units_is (d : Sp.D3) (hv : Sp.vld d = true) (w : World) (ht : Tx.Tab w) :
  Calls Tryz.prog 102 #[.agg #[.int .i64 d.1, .int .i64 d.2.1, .int .i64 d.2.2]] w fun e w' => ∃ g, e = .returned (.slice (some ⟨g, 0, none⟩) 3 3) ∧ w.heap.size ≤ g ∧ StrRow w' g [Sx.u1 d, Sx.u2 d, Sx.u3 d] ∧ Below w.heap.size w w' := by
 obtain ⟨hy, hm, hd⟩ := Sx.vld_bd hv
 obtain ⟨l1, l2, l3⟩ := Sx.lens hv
 obtain ⟨_, _, _, _, _, w7⟩ := Sx.wins hv
 have w4 : Ft.win (Sx.u3 d) 0 4 = Sx.u1 d := (Sx.wins hv).1
 obtain ⟨W1, hW1, hP, hz1, hB1⟩ := box w #[.int .i64 d.1, .int .i64 d.2.1, .int .i64 d.2.2] 138
 have HW1 := Lib.hid hW1
 have HDT : Hid (Calls Tryz.prog 159 #[.agg #[.int .i64 d.1, .int .i64 d.2.1, .int .i64 d.2.2], .string ⟨#[45]⟩] W1 fun e w' => e = .returned (.string (Tx.mk (Sx.u3 d))) ∧ Below W1.heap.size W1 w') := by
  have := dateText_is d.1 d.2.1 d.2.2 ⟨#[45]⟩ hy hm hd rfl W1 (Tx.tab_below ht hB1)
  rwa [Tx.D_u3] at this
 obtain ⟨c0, c1, c2⟩ := hP.three
 have hsz := Tx.mk_size (Sx.u3 d)
 rw [l3] at hsz
 have x4 := ext_mk (Sx.u3 d) 0 4
 have x7 := ext_mk (Sx.u3 d) 0 7
 rw [w4] at x4
 rw [w7] at x7
 clear hW1 hy hm hd l1 l2 l3 w4 w7 hv ht
 generalize Sx.u1 d = a1 at *
 generalize Sx.u2 d = a2 at *
 generalize Sx.u3 d = a3 at *
 go_enter Tryz.func102, Tryz.ntmps102
 go_wp2_with fail
 rw [HW1.out]
 go_wp2_with fail
 go_at_call 159
 refine HDT.out.mono ?_
 rintro e w2 ⟨rfl, hB2⟩
 have hBa := below_up hB1 hB2
 go_wp2_with fail
 go_region_with (fail)
 go_wp2_with fail
 go_ret
 exact ⟨w2.heap.size, rfl, hBa.size, StrRow.new3 _ _ _ _ _, below_drew0 (below_allocs hBa _)⟩
theorem infoStr : (Tryz.prog.info? 9).map (fun i => (i.zero, i.size, i.bytes)) = some (some (.string ByteArray.empty), 1, 16) := by kernel_rfl
def strV (s : List UInt8) : Value := .string (Tx.mk s)
namespace Sx
def Row (B : Nat) (w6 : World) (P : List (List UInt8)) (n : Nat) (v : Value) (wr : World) : Prop := wr.ownsRow B 9 1 v n ((P.take n).map strV) ∧ Below w6.heap.size w6 wr
def U (u1 u2 u3 : List UInt8) (k : Nat) : List UInt8 := [u1, u2, u3].getD k []
theorem candP_one (u1 u2 u3 v1 v2 v3 : List UInt8) (k : Nat) (hk : k < 3) : (candP u1 u2 u3 v1 v2 v3)[4 * k]? = some (U u1 u2 u3 k) := by
 match k, hk with
 | 0, _ => rfl
 | 1, _ => rfl
 | 2, _ => rfl
theorem candP_two (u1 u2 u3 v1 v2 v3 : List UInt8) (k j : Nat) (hk : k < 3) (hj : j < 3) : (candP u1 u2 u3 v1 v2 v3)[4 * k + 1 + j]? = some (U u1 u2 u3 k ++ dots ++ U v1 v2 v3 j) := by
 match k, hk, j, hj with
 | 0, _, 0, _ => rfl
 | 0, _, 1, _ => rfl
 | 0, _, 2, _ => rfl
 | 1, _, 0, _ => rfl
 | 1, _, 1, _ => rfl
 | 1, _, 2, _ => rfl
 | 2, _, 0, _ => rfl
 | 2, _, 1, _ => rfl
 | 2, _, 2, _ => rfl
theorem take_snoc {P : List (List UInt8)} {n : Nat} {s : List UInt8} (h : P[n]? = some s) : (P.take (n + 1)).map strV = (P.take n).map strV ++ [strV s] := by
 obtain ⟨hn, he⟩ := List.getElem?_eq_some_iff.1 h
 rw [List.take_succ_eq_append_getElem hn, List.map_append, he]; rfl
theorem U_len {u1 u2 u3 : List UInt8} (h1 : u1.length ≤ 10) (h2 : u2.length ≤ 10) (h3 : u3.length ≤ 10) (k : Nat) : (U u1 u2 u3 k).length ≤ 10 := by
 match k with
 | 0 => exact h1
 | 1 => exact h2
 | 2 => exact h3
 | k + 3 => show ([] : List UInt8).length ≤ 10; simp
end Sx
theorem spanText_mom (F T : Int) (h : ¬ (Ev.mom F = true ∧ Ev.mom T = true)) (w : World) :
  Calls Tryz.prog 59 #[.agg #[.int .i64 F, .int .i64 T]] w fun e w' => e = .returned (.tuple #[.string ⟨#[]⟩, .int .i64 2]) ∧ Below w.heap.size w w' := by
 cases hF : Ev.mom F
 ·have HMF := Lib.hid hF
  have HMT := Lib.hid hF
  clear hF h
  go_enter Tryz.func59, Tryz.ntmps59
  go_wp2_with (go_at_call 100; first | (with_reducible refine (isMoment_is _ _ HMF.out _).mono ?_; rintro e w2 ⟨rfl, rfl⟩) | (with_reducible refine (isMoment_is _ _ HMT.out _).mono ?_; rintro e w2 ⟨rfl, rfl⟩))
  go_ret2
  exact ⟨rfl, below_allocs (Below.refl _ _) _⟩
 ·have hT : Ev.mom T = false := by rw [← Bool.not_eq_true]; exact fun e => h ⟨hF, e⟩
  have HMF := Lib.hid hF
  have HMT := Lib.hid hT
  clear hF hT h
  go_enter Tryz.func59, Tryz.ntmps59
  go_wp2_with (go_at_call 100; first | (with_reducible refine (isMoment_is _ _ HMF.out _).mono ?_; rintro e w2 ⟨rfl, rfl⟩) | (with_reducible refine (isMoment_is _ _ HMT.out _).mono ?_; rintro e w2 ⟨rfl, rfl⟩))
  go_ret2
  exact ⟨rfl, below_allocs (Below.refl _ _) _⟩
theorem spanText_order (F T : Int) (hF : Ev.mom F = true) (hT : Ev.mom T = true) (h : T < F) (w : World) :
  Calls Tryz.prog 59 #[.agg #[.int .i64 F, .int .i64 T]] w fun e w' => e = .returned (.tuple #[.string ⟨#[]⟩, .int .i64 5]) ∧ Below w.heap.size w w' := by
 have HMF := Lib.hid hF
 have HMT := Lib.hid hT
 clear hF hT
 go_enter Tryz.func59, Tryz.ntmps59
 go_wp2_with (go_at_call 100; first | (with_reducible refine (isMoment_is _ _ HMF.out _).mono ?_; rintro e w2 ⟨rfl, rfl⟩) | (with_reducible refine (isMoment_is _ _ HMT.out _).mono ?_; rintro e w2 ⟨rfl, rfl⟩))
 go_ret2
 exact ⟨rfl, below_allocs (Below.refl _ _) _⟩
theorem spanText_form (F T : Int) (hF : Ev.mom F = true) (hT : Ev.mom T = true) (h : F ≤ T) (ha : ¬ (F % 86400 = 0 ∧ (T + 1) % 86400 = 0)) (w : World) :
  Calls Tryz.prog 59 #[.agg #[.int .i64 F, .int .i64 T]] w fun e w' => e = .returned (.tuple #[.string ⟨#[]⟩, .int .i64 1]) ∧ Below w.heap.size w w' := by
 have hf := (Ev.mom_iff _).1 hF
 have ht := (Ev.mom_iff _).1 hT
 have HMF := Lib.hid hF
 have HMT := Lib.hid hT
 have hlt : ¬ T < F := by omega
 clear hF hT
 by_cases h1 : F % 86400 = 0
 ·have h2 : ¬ (T + 1) % 86400 = 0 := fun e => ha ⟨h1, e⟩
  clear ha
  go_enter Tryz.func59, Tryz.ntmps59
  go_wp2_with (go_at_call 100; first | (with_reducible refine (isMoment_is _ _ HMF.out _).mono ?_; rintro e w2 ⟨rfl, rfl⟩) | (with_reducible refine (isMoment_is _ _ HMT.out _).mono ?_; rintro e w2 ⟨rfl, rfl⟩))
  go_ret2
  exact ⟨rfl, below_allocs (Below.refl _ _) _⟩
 ·clear ha
  go_enter Tryz.func59, Tryz.ntmps59
  go_wp2_with (go_at_call 100; first | (with_reducible refine (isMoment_is _ _ HMF.out _).mono ?_; rintro e w2 ⟨rfl, rfl⟩) | (with_reducible refine (isMoment_is _ _ HMT.out _).mono ?_; rintro e w2 ⟨rfl, rfl⟩))
  go_ret2
  exact ⟨rfl, below_allocs (Below.refl _ _) _⟩
theorem StrRow.of_own {w : World} {base : Nat} {e : TypeId} {g n cap : Nat} {l : List (List UInt8)} (h : w.ownsRow base e 1 (.slice (some ⟨g, 0, none⟩) n cap) n (l.map strV)) : StrRow w g l := by
 refine ⟨(h.lt g rfl).2, fun i hi => ?_⟩
 have := h.cells (g := g) rfl i (strV (l.getD i [])) (by rw [List.getElem?_map, List.getD_eq_getElem?_getD, List.getElem?_eq_getElem hi]; rfl)
 have hadd : (⟨g, 0, none⟩ : Addr).add i = ⟨g, i, none⟩ := by unfold Addr.add; split <;> simp_all
 rwa [hadd] at this
namespace Sx
theorem candP_len {u1 u2 u3 v1 v2 v3 : List UInt8} (h1 : u1.length ≤ 10) (h2 : u2.length ≤ 10) (h3 : u3.length ≤ 10) (g1 : v1.length ≤ 10) (g2 : v2.length ≤ 10) (g3 : v3.length ≤ 10) : ∀ t ∈ candP u1 u2 u3 v1 v2 v3, t.length ≤ 22 := by
 intro t ht
 simp only [candP, List.mem_cons, List.not_mem_nil, or_false] at ht
 rcases ht with h | h | h | h | h | h | h | h | h | h | h | h <;> (rw [h]; (try simp [dots]); omega)
theorem best_take {ok : List UInt8 → Bool} {P : List (List UInt8)} {j : Nat} {s : List UInt8} (h : P[j]? = some s) : best ok (P.take (j + 1)) = step ok (best ok (P.take j)) s := by
 obtain ⟨hj, he⟩ := List.getElem?_eq_some_iff.1 h
 rw [List.take_succ_eq_append_getElem hj, best_snoc, he]
theorem step_no {F T : Int} {b s : List UInt8} (h : ¬ Sp.span s = (F, T, 0)) : step (ok F T) b s = b := by
 unfold step
 have : ok F T s = false := by rw [← Bool.not_eq_true, ok_iff]; exact h
 rw [this, if_neg (by simp)]
theorem step_nil {F T : Int} {s : List UInt8} (h : Sp.span s = (F, T, 0)) : step (ok F T) [] s = s := by
 unfold step
 rw [(ok_iff F T s).2 h, if_pos (by simp)]
theorem step_lt {F T : Int} {b s : List UInt8} (h : Sp.span s = (F, T, 0)) (hl : lt s b = true) : step (ok F T) b s = s := by
 unfold step
 rw [(ok_iff F T s).2 h, hl, if_pos (by simp)]
theorem step_ge {F T : Int} {b s : List UInt8} (hb : b ≠ []) (hl : lt s b = false) : step (ok F T) b s = b := by
 unfold step
 have hbe : b.isEmpty = false := by cases b with | nil => exact absurd rfl hb | cons => rfl
 rw [hl, hbe, if_neg (by simp)]
end Sx
theorem spanText_ok (F T : Int) (a b : Sp.D3) (ha : Sp.vld a = true) (hb : Sp.vld b = true) (hF : Ev.mom F = true) (hT : Ev.mom T = true) (h : F ≤ T) (hF0 : F % 86400 = 0) (hT0 : (T + 1) % 86400 = 0) (hna : Sp.num a = F / 86400) (hnb : Sp.num b = T / 86400) (w : World) (ht : Tx.Tab w) (hmx : Mx w) :
  Calls Tryz.prog 59 #[.agg #[.int .i64 F, .int .i64 T]] w fun e w' => e = .returned (.tuple #[.string (Tx.mk (Sx.text F T a b)), .int .i64 0]) ∧ Below w.heap.size w w' := by
 have hf := (Ev.mom_iff _).1 hF
 have htt := (Ev.mom_iff _).1 hT
 have HMF := Lib.hid hF
 have HMT := Lib.hid hT
 have hlt : ¬ T < F := by omega
 obtain ⟨ya, ma, da⟩ := a
 obtain ⟨yb, mb, db⟩ := b
 have HDA : Hid (∀ W, Calls Tryz.prog 101 #[.int .i64 (F / 86400)] W fun e w' => e = .returned (.tuple #[.agg #[.int .i64 ya, .int .i64 ma, .int .i64 da], .int .i64 0]) ∧ Below W.heap.size W w') := fun W => by
  refine (dateOf_yes (F / 86400) W (by omega) (by omega)).mono ?_
  rintro e w' ⟨y, m, d, hv, hn, rfl, hB⟩
  obtain ⟨rfl, rfl, rfl⟩ := Cal.num_inj _ _ _ _ _ _ hv ha (hn.trans hna.symm)
  exact ⟨rfl, hB⟩
 have HDB : Hid (∀ W, Calls Tryz.prog 101 #[.int .i64 (T / 86400)] W fun e w' => e = .returned (.tuple #[.agg #[.int .i64 yb, .int .i64 mb, .int .i64 db], .int .i64 0]) ∧ Below W.heap.size W w') := fun W => by
  refine (dateOf_yes (T / 86400) W (by omega) (by omega)).mono ?_
  rintro e w' ⟨y, m, d, hv, hn, rfl, hB⟩
  obtain ⟨rfl, rfl, rfl⟩ := Cal.num_inj _ _ _ _ _ _ hv hb (hn.trans hnb.symm)
  exact ⟨rfl, hB⟩
 have HUA : Hid (∀ W, Tx.Tab W → Calls Tryz.prog 102 #[.agg #[.int .i64 ya, .int .i64 ma, .int .i64 da]] W fun e w' => ∃ g, e = .returned (.slice (some ⟨g, 0, none⟩) 3 3) ∧ W.heap.size ≤ g ∧ StrRow w' g [Sx.u1 (ya, ma, da), Sx.u2 (ya, ma, da), Sx.u3 (ya, ma, da)] ∧ Below W.heap.size W w') := fun W hW => units_is (ya, ma, da) ha W hW
 have HUB : Hid (∀ W, Tx.Tab W → Calls Tryz.prog 102 #[.agg #[.int .i64 yb, .int .i64 mb, .int .i64 db]] W fun e w' => ∃ g, e = .returned (.slice (some ⟨g, 0, none⟩) 3 3) ∧ W.heap.size ≤ g ∧ StrRow w' g [Sx.u1 (yb, mb, db), Sx.u2 (yb, mb, db), Sx.u3 (yb, mb, db)] ∧ Below W.heap.size W w') := fun W hW => units_is (yb, mb, db) hb W hW
 obtain ⟨al1, al2, al3⟩ := Sx.lens ha
 obtain ⟨bl1, bl2, bl3⟩ := Sx.lens hb
 have hul := Sx.U_len (u1 := Sx.u1 (ya, ma, da)) (u2 := Sx.u2 (ya, ma, da)) (u3 := Sx.u3 (ya, ma, da)) (by omega) (by omega) (by omega)
 have hvl := Sx.U_len (u1 := Sx.u1 (yb, mb, db)) (u2 := Sx.u2 (yb, mb, db)) (u3 := Sx.u3 (yb, mb, db)) (by omega) (by omega) (by omega)
 have hP1 := fun k hk => Sx.candP_one (Sx.u1 (ya, ma, da)) (Sx.u2 (ya, ma, da)) (Sx.u3 (ya, ma, da)) (Sx.u1 (yb, mb, db)) (Sx.u2 (yb, mb, db)) (Sx.u3 (yb, mb, db)) k hk
 have hP2 := fun k j hk hj => Sx.candP_two (Sx.u1 (ya, ma, da)) (Sx.u2 (ya, ma, da)) (Sx.u3 (ya, ma, da)) (Sx.u1 (yb, mb, db)) (Sx.u2 (yb, mb, db)) (Sx.u3 (yb, mb, db)) k j hk hj
 have hP12 : (Sx.candP (Sx.u1 (ya, ma, da)) (Sx.u2 (ya, ma, da)) (Sx.u3 (ya, ma, da)) (Sx.u1 (yb, mb, db)) (Sx.u2 (yb, mb, db)) (Sx.u3 (yb, mb, db))).length = 12 := rfl
 have hPL := Sx.candP_len (u1 := Sx.u1 (ya, ma, da)) (u2 := Sx.u2 (ya, ma, da)) (u3 := Sx.u3 (ya, ma, da)) (v1 := Sx.u1 (yb, mb, db)) (v2 := Sx.u2 (yb, mb, db)) (v3 := Sx.u3 (yb, mb, db)) (by omega) (by omega) (by omega) (by omega) (by omega) (by omega)
 unfold Sx.text
 generalize Sx.candP (Sx.u1 (ya, ma, da)) (Sx.u2 (ya, ma, da)) (Sx.u3 (ya, ma, da)) (Sx.u1 (yb, mb, db)) (Sx.u2 (yb, mb, db)) (Sx.u3 (yb, mb, db)) = P at *
 generalize Sx.u1 (ya, ma, da) = a1 at *
 generalize Sx.u2 (ya, ma, da) = a2 at *
 generalize Sx.u3 (ya, ma, da) = a3 at *
 generalize Sx.u1 (yb, mb, db) = b1 at *
 generalize Sx.u2 (yb, mb, db) = b2 at *
 generalize Sx.u3 (yb, mb, db) = b3 at *
 have HP1 := Lib.hid hP1
 have HP2 := Lib.hid hP2
 have HP12 := Lib.hid hP12
 have HPL := Lib.hid hPL
 have HUL := Lib.hid hul
 have HVL := Lib.hid hvl
 obtain ⟨i0, hi, hz0, hz1', hz2⟩ := info_parts infoStr
 have HI0 := Lib.hid hi; have HI1 := Lib.hid hz0; have HI2 := Lib.hid hz1'; have HI3 := Lib.hid hz2
 have HT := Lib.hid ht
 have HM := Lib.hid hmx
 clear hF hT ha hb hna hnb al1 al2 al3 bl1 bl2 bl3 hul hvl hP1 hP2 hP12 hPL hi hz0 hz1' hz2 ht hmx
 obtain ⟨W1, hW1, hX1, hz1, hB1⟩ := box w #[.int .i64 F, .int .i64 T] 108
 have HW1 := Lib.hid hW1
 obtain ⟨c0, c1⟩ := hX1.two
 clear hW1
 go_enter Tryz.func59, Tryz.ntmps59
 go_wp2_with fail
 rw [HW1.out]
 go_wp2_with (go_at_call 100; first | (with_reducible refine (isMoment_is _ _ HMF.out _).mono ?_; rintro e w2 ⟨rfl, rfl⟩) | (with_reducible refine (isMoment_is _ _ HMT.out _).mono ?_; rintro e w2 ⟨rfl, rfl⟩))
 go_at_call 101
 refine (HDA.out _).mono ?_
 rintro e w2 ⟨rfl, hB2⟩
 obtain ⟨W3, hW3, hA3, hz3, hB3⟩ := box w2 #[.int .i64 ya, .int .i64 ma, .int .i64 da] 138
 have HW3 := Lib.hid hW3
 have hX3 := (hX1.keep hB2).keep hB3
 have hBr := below_up (below_up hB1 hB2) hB3
 have HT3 := Lib.hid (Tx.tab_below HT.out hBr)
 have HM3 := Lib.hid (HM.out.below hBr)
 clear hW3 c0 c1
 obtain ⟨c0, c1⟩ := hX3.two
 have hlt2 : w.heap.size < w2.heap.size := by have := hB2.size; omega
 have hx2 := (hX1.keep hB2).two
 obtain ⟨x0, x1⟩ := hx2
 go_wp2_with fail
 rw [HW3.out]
 go_at_call 101
 refine (HDB.out _).mono ?_
 rintro e w4 ⟨rfl, hB4⟩
 obtain ⟨W5, hW5, hD5, hz5, hB5⟩ := box w4 #[.int .i64 yb, .int .i64 mb, .int .i64 db] 138
 have HW5 := Lib.hid hW5
 have hA5 := (hA3.keep hB4).keep hB5
 have hX5 := (hX3.keep hB4).keep hB5
 have hBr5 := below_up (below_up hBr hB4) hB5
 have HT5 := Lib.hid (Tx.tab_below HT.out hBr5)
 clear hW5 c0 c1 x0 x1
 obtain ⟨d0, d1, d2⟩ := (hA3.keep hB4).three
 have hlt4 : w2.heap.size < w4.heap.size := by have := hB4.size; omega
 go_wp2_with fail
 rw [HW5.out]
 go_at_call 102
 refine (HUA.out _ HT5.out).mono ?_
 rintro e w6 ⟨ga, rfl, hga, hUA, hB6⟩
 have hD6 := hD5.keep hB6
 have hX6 := hX5.keep hB6
 have hBr6 := below_up hBr5 hB6
 have HT6 := Lib.hid (Tx.tab_below HT.out hBr6)
 have HM6 := Lib.hid (HM.out.below hBr6)
 clear d0 d1 d2 hA3 hA5 hX3 hX5 hX1 hD5
 go_wp2_with fail
 go_loopg [8, 64] 3 (fun gk v i wr => ∃ k : Nat, k ≤ 3 ∧ gk = 3 - k ∧ i = .int .i64 k ∧ Sx.Row w6.heap.size w6 P (4 * k) v wr)
 case atStart => exact ⟨0, by omega, rfl, rfl, World.ownsRow_nil _ _ _ _, Below.refl _ _⟩
 case round =>
  obtain ⟨k, hk, rfl, rfl, hrow⟩ := hrel
  obtain ⟨hown, hB⟩ := hrow
  by_cases hk3 : k < 3
  ·have hkI : (k : Int) < 3 := by omega
   have HO1 := Lib.hid (HP1.out k hk3)
   have hcell := (hUA.keep hB).2 k (by simpa using hk3)
   have hcell' : wr.cell? ⟨ga, k, none⟩ = some (.string (Tx.mk (Sx.U a1 a2 a3 k))) := hcell
   have hUl := HUL.out k
   clear hcell
   obtain ⟨uk, huk⟩ : ∃ uk, Sx.U a1 a2 a3 k = uk := ⟨_, rfl⟩
   rw [huk] at HO1 hcell' hUl
   have HUK := Lib.hid huk
   clear huk
   have hukz := Tx.mk_size uk
   have hBsz := hB.size
   go_wp2_with (first
    | (at_builtin; refine wpList_append_own2 _ rfl _ _ 83 rfl w6.heap.size 9 i0 (.string ByteArray.empty) 1 16 Tryz.underlying83 HI0.out HI1.out HI2.out HI3.out rfl (by decide) _ _ _ rfl (hown.alloc _) ⟨wr.heap.size, 0, none⟩ 1 1 [strV uk] rfl (by decide) rfl (cell_one_new _ _ _) (by simp [strV, Value.oneCell']) (by unfold maxLen; omega) (by omega) (by simp; have := hB.size; omega) ?_; intro g7 cap7 w7 hown7 hgrow7 hnew7; have hB7 := (below_allocs hB (.cells #[.string (Tx.mk uk)] 9)).grown hgrow7 (by simp; omega) (fun q e => (hown.lt q e).1); obtain ⟨d0, d1, d2⟩ := (hD6.keep hB7).three)
    | (go_at_call 102; refine (HUB.out _ (Tx.tab_below HT6.out hB7)).mono ?_; rintro e w8 ⟨gb, rfl, hgb, hVB, hB8⟩))
   have hown8 : w8.ownsRow w6.heap.size 9 1 (.slice (some ⟨g7, 0, none⟩) (4 * k + 1) cap7) (4 * k + 1) ((P.take (4 * k + 1)).map strV) := by
    rw [Sx.take_snoc HO1.out]; exact own_keep hown7 hB8
   have hg7 := (hown7.lt g7 rfl).2
   have hB8' := below_up hB7 hB8
   clear hown7 hgrow7 hnew7 hown hcell' d0 d1 d2
   go_loopg [8, 75] 3 (fun gk v i wq => ∃ j : Nat, j ≤ 3 ∧ gk = 3 - j ∧ i = .int .i64 j ∧ Sx.Row w6.heap.size w6 P (4 * k + 1 + j) v wq ∧ StrRow wq gb [b1, b2, b3] ∧ v.ownBlock ≠ some gb)
   case atStart => exact ⟨0, by omega, rfl, rfl, ⟨hown8, hB8'⟩, hVB, by show some g7 ≠ some gb; intro e; injection e with e; omega⟩
   case round =>
    obtain ⟨j, hj, rfl, rfl, hrow, hVq, hne⟩ := hrel
    obtain ⟨hown, hB⟩ := hrow
    by_cases hj3 : j < 3
    ·have hjI : (j : Int) < 3 := by omega
     have HO2 := Lib.hid (HP2.out k j hk3 hj3)
     rw [HUK.out] at HO2
     have hcell' : wr.cell? ⟨gb, j, none⟩ = some (.string (Tx.mk (Sx.U b1 b2 b3 j))) := hVq.2 j (by simpa using hj3)
     have hVl := HVL.out j
     generalize Sx.U b1 b2 b3 j = vj at *
     have hvjz := Tx.mk_size vj
     have hcat1 : Tx.mk uk ++ ByteArray.mk #[46, 46] = Tx.mk (uk ++ Sx.dots) := Tx.mk_append uk Sx.dots
     have hcat2 : Tx.mk (uk ++ Sx.dots) ++ Tx.mk vj = Tx.mk (uk ++ Sx.dots ++ vj) := Tx.mk_append _ vj
     have hcz := Tx.mk_size (uk ++ Sx.dots)
     rw [List.length_append, show Sx.dots.length = 2 from rfl] at hcz
     have hBsz' := hB.size
     generalize uk ++ Sx.dots ++ vj = cc at *
     generalize uk ++ Sx.dots = cd at *
     go_wp2_with (first
      | (at_builtin; refine wpList_append_own2 _ rfl _ _ 83 rfl w6.heap.size 9 i0 (.string ByteArray.empty) 1 16 Tryz.underlying83 HI0.out HI1.out HI2.out HI3.out rfl (by decide) _ _ _ rfl (hown.alloc _) ⟨wr.heap.size, 0, none⟩ 1 1 [strV cc] rfl (by decide) rfl (cell_one_new _ _ _) (by simp [strV, Value.oneCell']) (by unfold maxLen; omega) (by omega) (by simp; have := hB.size; omega) ?_; intro g9 cap9 w9 hown9 hgrow9 hnew9))
     have hB9 := (below_allocs hB (.cells #[.string (Tx.mk cc)] 9)).grown hgrow9 (by simp; omega) (fun q e => (hown.lt q e).1)
     have hV9 := (hVq.keep (below_allocs (Below.refl _ _) (.cells #[.string (Tx.mk cc)] 9))).grown hgrow9 (fun e => hne e.symm) hgrow9.size
     have hn9 : g9 ≠ gb := hnew9.ne (by have := hVq.1; simp; omega) hne
     have hown9' : w9.ownsRow w6.heap.size 9 1 (.slice (some ⟨g9, 0, none⟩) (4 * k + 1 + (j + 1)) cap9) (4 * k + 1 + (j + 1)) ((P.take (4 * k + 1 + (j + 1))).map strV) := by
      rw [show 4 * k + 1 + (j + 1) = (4 * k + 1 + j) + 1 by omega, Sx.take_snoc HO2.out]; exact hown9
     clear hown9 hgrow9 hnew9 hown hcell' hcat1 hcat2 hcz
     go_roundg (3 - (j + 1))
     case rel => exact ⟨j + 1, by omega, rfl, by go_num, ⟨hown9', hB9⟩, hV9, by show some g9 ≠ some gb; intro e; injection e with e; exact hn9 e⟩
     case measure => omega
    ·obtain rfl : j = 3 := by omega
     clear hVq hne
     go_wp2_with fail
     go_roundg (3 - (k + 1))
     case rel => exact ⟨k + 1, by omega, rfl, by go_num, ⟨hown, hB⟩⟩
     case measure => omega
  ·obtain rfl : k = 3 := by omega
   rw [show 4 * 3 = 12 from rfl, List.take_of_length_le (by rw [HP12.out]; exact Nat.le_refl _)] at hown
   rcases hown.2 with ⟨_, h0⟩ | ⟨gA, capA, cur, rfl, hbg, hrest⟩
   ·omega
   have hAR := StrRow.of_own hown
   have hXA := hX6.keep hB
   have HMA := Lib.hid (HM6.out.below hB)
   have hBA := below_up hBr6 hB
   clear hUA hX6 hD6 hown hrest hbg hB
   generalize wr = wA at *
   obtain ⟨c0, c1⟩ := hXA.two
   go_wp2_with fail
   go_loopg [13, 90] 12 (fun gk v i wr => ∃ j : Nat, j ≤ 12 ∧ gk = 12 - j ∧ i = .int .i64 j ∧ v = .string (Tx.mk (Sx.best (Sx.ok F T) (P.take j))) ∧ Below wA.heap.size wA wr)
   case atStart => exact ⟨0, by omega, rfl, rfl, rfl, Below.refl _ _⟩
   case round =>
    obtain ⟨j, hj, rfl, rfl, rfl, hB⟩ := hrel
    by_cases hj3 : j < 12
    ·have hjI : (j : Int) < 12 := by omega
     obtain ⟨s, hs⟩ : ∃ s, P[j]? = some s := ⟨_, List.getElem?_eq_getElem (by rw [HP12.out]; exact hj3)⟩
     have hsl : s.length ≤ 22 := HPL.out s (List.mem_of_getElem? hs)
     have hcell' : wr.cell? ⟨gA, j, none⟩ = some (.string (Tx.mk s)) := by
      have := (hAR.keep hB).2 j (by rw [HP12.out]; exact hj3)
      rwa [List.getD_eq_getElem?_getD, hs] at this
     have HBT := Lib.hid (Sx.best_take (ok := Sx.ok F T) hs)
     have HSP := Lib.hid (span_is s (by omega) wr (HMA.out.below hB))
     have hssz := Tx.mk_size s
     generalize Sx.best (Sx.ok F T) (P.take j) = b at *
     have hbsz := Tx.mk_size b
     obtain ⟨x0, x1⟩ := (hXA.keep hB).two
     clear hs
     by_cases hok : Sp.span s = (F, T, 0)
     ·rw [hok] at HSP
      by_cases hb0 : b = []
      ·subst hb0
       have HST := Lib.hid (Sx.step_nil hok)
       clear hok
       go_wp2_with (go_at_call 103; refine HSP.out.mono ?_; rintro e w8 ⟨rfl, hB8⟩; have hB8' := below_up hB hB8; obtain ⟨y0, y1⟩ := ((hXA.keep hB).keep hB8).two; have hx8 := ((hXA.keep hB).keep hB8).lt)
       go_roundg (12 - (j + 1))
       case rel => exact ⟨j + 1, by omega, rfl, by go_num, by rw [HBT.out, HST.out], below_allocs hB8' _⟩
       case measure => omega
      ·have hbe : b.isEmpty = false := by cases b with | nil => exact absurd rfl hb0 | cons => rfl
       have hbq : (b == []) = false := by simpa using hb0
       by_cases hl1 : s.length < b.length
       ·have HST := Lib.hid (Sx.step_lt (b := b) hok ((Sx.lt_iff s b).2 (.inl hl1)))
        clear hok
        go_wp2_with (go_at_call 103; refine HSP.out.mono ?_; rintro e w8 ⟨rfl, hB8⟩; have hB8' := below_up hB hB8; obtain ⟨y0, y1⟩ := ((hXA.keep hB).keep hB8).two; have hx8 := ((hXA.keep hB).keep hB8).lt)
        go_roundg (12 - (j + 1))
        case rel => exact ⟨j + 1, by omega, rfl, by go_num, by rw [HBT.out, HST.out], below_allocs hB8' _⟩
        case measure => omega
       ·by_cases hl2 : s.length = b.length
        ·have hle : ((s.length : Int) == (b.length : Int)) = true := by simp; omega
         cases hbl : Op.bytesLess s b
         ·have HST := Lib.hid (Sx.step_ge (F := F) (T := T) hb0 (show Sx.lt s b = false by rw [← Bool.not_eq_true, Sx.lt_iff, hbl]; simp; omega))
          clear hok
          have HL2 := Lib.hid hl2
          clear hl2
          go_wp2_with (go_at_call 103; refine HSP.out.mono ?_; rintro e w8 ⟨rfl, hB8⟩; have hB8' := below_up hB hB8; obtain ⟨y0, y1⟩ := ((hXA.keep hB).keep hB8).two; have hx8 := ((hXA.keep hB).keep hB8).lt)
          go_roundg (12 - (j + 1))
          case rel => exact ⟨j + 1, by omega, rfl, by go_num, by rw [HBT.out, HST.out], below_allocs hB8' _⟩
          case measure => omega
         ·have HST := Lib.hid (Sx.step_lt (b := b) hok ((Sx.lt_iff s b).2 (.inr ⟨hl2, hbl⟩)))
          clear hok
          have HL2 := Lib.hid hl2
          clear hl2
          go_wp2_with (go_at_call 103; refine HSP.out.mono ?_; rintro e w8 ⟨rfl, hB8⟩; have hB8' := below_up hB hB8; obtain ⟨y0, y1⟩ := ((hXA.keep hB).keep hB8).two; have hx8 := ((hXA.keep hB).keep hB8).lt)
          go_roundg (12 - (j + 1))
          case rel => exact ⟨j + 1, by omega, rfl, by go_num, by rw [HBT.out, HST.out], below_allocs hB8' _⟩
          case measure => omega
        ·have hle : ((s.length : Int) == (b.length : Int)) = false := by simp; omega
         have HST := Lib.hid (Sx.step_ge (F := F) (T := T) hb0 (show Sx.lt s b = false by rw [← Bool.not_eq_true, Sx.lt_iff]; intro h; rcases h with h | h; exact hl1 h; exact hl2 h.1))
         clear hok
         go_wp2_with (go_at_call 103; refine HSP.out.mono ?_; rintro e w8 ⟨rfl, hB8⟩; have hB8' := below_up hB hB8; obtain ⟨y0, y1⟩ := ((hXA.keep hB).keep hB8).two; have hx8 := ((hXA.keep hB).keep hB8).lt)
         go_roundg (12 - (j + 1))
         case rel => exact ⟨j + 1, by omega, rfl, by go_num, by rw [HBT.out, HST.out], below_allocs hB8' _⟩
         case measure => omega
     ·have HST := Lib.hid (Sx.step_no (b := b) hok)
      obtain ⟨f, t, e, hr⟩ : ∃ f t e, Sp.span s = (f, t, e) := ⟨_, _, _, rfl⟩
      rw [hr] at HSP hok
      clear hr
      by_cases he : e = 0
      ·subst he
       by_cases hf' : f = F
       ·subst hf'
        have htn : ¬ t = T := fun e => hok (by rw [e])
        clear hok
        go_wp2_with (go_at_call 103; refine HSP.out.mono ?_; rintro e w8 ⟨rfl, hB8⟩; have hB8' := below_up hB hB8; obtain ⟨y0, y1⟩ := ((hXA.keep hB).keep hB8).two; have hx8 := ((hXA.keep hB).keep hB8).lt)
        go_roundg (12 - (j + 1))
        case rel => exact ⟨j + 1, by omega, rfl, by go_num, by rw [HBT.out, HST.out], below_allocs hB8' _⟩
        case measure => omega
       ·clear hok
        go_wp2_with (go_at_call 103; refine HSP.out.mono ?_; rintro e w8 ⟨rfl, hB8⟩; have hB8' := below_up hB hB8; obtain ⟨y0, y1⟩ := ((hXA.keep hB).keep hB8).two; have hx8 := ((hXA.keep hB).keep hB8).lt)
        go_roundg (12 - (j + 1))
        case rel => exact ⟨j + 1, by omega, rfl, by go_num, by rw [HBT.out, HST.out], below_allocs hB8' _⟩
        case measure => omega
      ·clear hok
       go_wp2_with (go_at_call 103; refine HSP.out.mono ?_; rintro e w8 ⟨rfl, hB8⟩; have hB8' := below_up hB hB8; obtain ⟨y0, y1⟩ := ((hXA.keep hB).keep hB8).two; have hx8 := ((hXA.keep hB).keep hB8).lt)
       go_roundg (12 - (j + 1))
       case rel => exact ⟨j + 1, by omega, rfl, by go_num, by rw [HBT.out, HST.out], below_allocs hB8' _⟩
       case measure => omega
    ·obtain rfl : j = 12 := by omega
     rw [List.take_of_length_le (by rw [HP12.out]; exact Nat.le_refl _)]
     obtain ⟨b, hbb⟩ : ∃ b, Sx.best (Sx.ok F T) P = b := ⟨_, rfl⟩
     rw [hbb]
     have HBB := Lib.hid hbb
     clear hbb
     go_wp2_with fail
     go_ret2
     exact ⟨by rw [HBB.out]; rfl, below_up hBA hB⟩
theorem clone_strs (b : Nat) (xs : List (List UInt8)) (ca : Nat) (w : World) (hx : StrRow w b xs) (hn : 1 ≤ xs.length) (hn2 : xs.length ≤ 1000000) :
  Calls Tryz.prog 105 #[.slice (some ⟨b, 0, none⟩) xs.length ca] w fun e w' => ∃ g cap, e = .returned (.slice (some ⟨g, 0, none⟩) xs.length cap) ∧ w'.ownsRow w.heap.size 9 1 (.slice (some ⟨g, 0, none⟩) xs.length cap) xs.length (xs.map strV) ∧ Below w.heap.size w w' := by
 obtain ⟨hb, hc⟩ := hx
 obtain ⟨i0, hi0, hz0, hz1, hz2⟩ := info_parts infoStr
 have HI0 := Lib.hid hi0; have HI1 := Lib.hid hz0; have HI2 := Lib.hid hz1; have HI3 := Lib.hid hz2
 clear hi0 hz0 hz1 hz2
 have HC := Lib.hid hc; clear hc
 obtain ⟨n, hnn⟩ : ∃ n, xs.length = n := ⟨_, rfl⟩
 rw [hnn] at hn hn2 ⊢
 have HN := Lib.hid hnn; clear hnn
 go_enter Tryz.func105, Tryz.ntmps105
 have hmx : 0 + n ≤ maxLen := by unfold maxLen; omega
 have hbz : (0 + n) * 16 ≤ 140737488355328 := by omega
 have hnw : ∀ j u, (xs.map strV)[j]? = some u → (w.alloc (.cells #[] 9)).cell? ((⟨b, 0, none⟩ : Addr).add j) = some u := by
  intro j u hj
  have hjn : j < xs.length := by
   have := (List.getElem?_eq_some_iff.1 hj).1
   simpa using this
  have hu : u = strV (xs.getD j []) := by rw [List.getElem?_map, List.getElem?_eq_getElem hjn] at hj; rw [List.getD_eq_getElem?_getD, List.getElem?_eq_getElem hjn]; simpa using hj.symm
  rw [hu, show (⟨b, 0, none⟩ : Addr).add j = ⟨b, j, none⟩ from by unfold Addr.add; split <;> simp_all]
  exact ((below_allocs (Below.refl w.heap.size w) (.cells #[] 9)).cell (p := ⟨b, j, none⟩) hb).trans (HC.out j hjn)
 have h1c : ∀ u ∈ xs.map strV, u.oneCell' = true := by
  intro u hu
  obtain ⟨i, _, rfl⟩ := List.mem_map.1 hu
  rfl
 have hnl : (xs.map strV).length = n * 1 := by simp [HN.out]
 have hnil := fun (W : World) => Lib.run_eql_slice_nil (P := Tryz.prog) W 83 9 (some ⟨b, 0, none⟩) n ca 0 0 Tryz.underlying83
 have HNW := Lib.hid hnw; have H1C := Lib.hid h1c; have HNL := Lib.hid hnl; clear hnw h1c hnl
 go_wp2_with (at_builtin; refine wpList_append_grows _ rfl _ _ 83 rfl 9 i0 (.string ByteArray.empty) 1 16 Tryz.underlying83 HI0.out HI1.out HI2.out HI3.out rfl (by decide) (some ⟨w.heap.size, 0, none⟩) 0 0 [] rfl (fun h => by cases h) rfl (fun b hb j u hj => by simp at hj) ⟨b, 0, none⟩ n ca (xs.map strV) rfl HNL.out HNW.out H1C.out (by omega) hmx hbz ?_; intro v' w1 hown hgrow)
 rw [Nat.zero_add, List.nil_append] at hown
 rcases hown.2 with ⟨_, h0⟩ | ⟨g, cap, cur, rfl, hg, hcell, hk, hm, _⟩
 ·omega
 have HOW := Lib.hid (ownsRow_down hown (show w.heap.size ≤ (w.alloc (.cells #[] 9)).heap.size by simp))
 have hB1 := (below_allocs (Below.refl w.heap.size w) (.cells #[] 9)).grown hgrow (by simp) (fun k e => by cases e)
 clear hown hgrow hcell
 go_wp2_with fail
 go_ret
 exact ⟨g, cap, rfl, HOW.out, hB1⟩
theorem spanFor_mom (F T : Int) (h : ¬ (Ev.mom F = true ∧ Ev.mom T = true)) (w : World) :
  Calls Tryz.prog 63 #[.agg #[.int .i64 F, .int .i64 T]] w fun e w' => e = .returned (.tuple #[.string ⟨#[]⟩, .int .i64 2]) ∧ Below w.heap.size w w' := by
 cases hF : Ev.mom F
 ·have HMF := Lib.hid hF
  have HMT := Lib.hid hF
  clear hF h
  go_enter Tryz.func63, Tryz.ntmps63
  go_wp2_with (go_at_call 71; first | (with_reducible refine (moment_is _ _ HMF.out _).mono ?_; rintro e w2 ⟨rfl, rfl⟩) | (with_reducible refine (moment_is _ _ HMT.out _).mono ?_; rintro e w2 ⟨rfl, rfl⟩))
  go_ret2
  exact ⟨rfl, below_allocs (Below.refl _ _) _⟩
 ·have hT : Ev.mom T = false := by rw [← Bool.not_eq_true]; exact fun e => h ⟨hF, e⟩
  have HMF := Lib.hid hF
  have HMT := Lib.hid hT
  clear hF hT h
  go_enter Tryz.func63, Tryz.ntmps63
  go_wp2_with (go_at_call 71; first | (with_reducible refine (moment_is _ _ HMF.out _).mono ?_; rintro e w2 ⟨rfl, rfl⟩) | (with_reducible refine (moment_is _ _ HMT.out _).mono ?_; rintro e w2 ⟨rfl, rfl⟩))
  go_ret2
  exact ⟨rfl, below_allocs (Below.refl _ _) _⟩
theorem spanFor_order (F T : Int) (hF : Ev.mom F = true) (hT : Ev.mom T = true) (h : T < F) (w : World) :
  Calls Tryz.prog 63 #[.agg #[.int .i64 F, .int .i64 T]] w fun e w' => e = .returned (.tuple #[.string ⟨#[]⟩, .int .i64 5]) ∧ Below w.heap.size w w' := by
 have HMF := Lib.hid hF
 have HMT := Lib.hid hT
 clear hF hT
 go_enter Tryz.func63, Tryz.ntmps63
 go_wp2_with (go_at_call 71; first | (with_reducible refine (moment_is _ _ HMF.out _).mono ?_; rintro e w2 ⟨rfl, rfl⟩) | (with_reducible refine (moment_is _ _ HMT.out _).mono ?_; rintro e w2 ⟨rfl, rfl⟩))
 go_ret2
 exact ⟨rfl, below_allocs (Below.refl _ _) _⟩
theorem toldU_is (d : Sp.D3) (hv : Sp.vld d = true) (W : World) : Calls Tryz.prog 36 #[.int .i64 d.1] W fun e w' => e = .returned (.string (Tx.mk (Sx.u1 d))) ∧ Below W.heap.size W w' := by
 have := (Sx.vld_bd hv).1
 exact toldY_is d.1 (by omega) (by omega) W
namespace Sx
theorem candR_two (u1 u2 u3 v1 v2 v3 : List UInt8) (k j : Nat) (hk : k < 3) (hj : j < 3) : (candR u1 u2 u3 v1 v2 v3)[3 + 3 * k + j]? = some (U u1 u2 u3 k ++ dots ++ U v1 v2 v3 j) := by
 match k, hk, j, hj with
 | 0, _, 0, _ => rfl
 | 0, _, 1, _ => rfl
 | 0, _, 2, _ => rfl
 | 1, _, 0, _ => rfl
 | 1, _, 1, _ => rfl
 | 1, _, 2, _ => rfl
 | 2, _, 0, _ => rfl
 | 2, _, 1, _ => rfl
 | 2, _, 2, _ => rfl
theorem candR_len {u1 u2 u3 v1 v2 v3 : List UInt8} (h1 : u1.length ≤ 10) (h2 : u2.length ≤ 10) (h3 : u3.length ≤ 10) (g1 : v1.length ≤ 10) (g2 : v2.length ≤ 10) (g3 : v3.length ≤ 10) : ∀ t ∈ candR u1 u2 u3 v1 v2 v3, t.length ≤ 22 :=
 fun t ht => candP_len h1 h2 h3 g1 g2 g3 t ((cand_mem _ _ _ _ _ _ _).2 ht)
end Sx
theorem StrRow.newSet (w : World) (p : Addr) (v : Value) (a b c : List UInt8) (t : TypeId) : StrRow ((w.setCell p v).alloc (.cells #[.string (Tx.mk a), .string (Tx.mk b), .string (Tx.mk c)] t)) w.heap.size [a, b, c] := by
 have := StrRow.new3 (w.setCell p v) a b c t
 have e : (w.setCell p v).heap.size = w.heap.size := by simp
 rw [e] at this
 exact this
structure SfD (y m d : Int) (u1 u2 u3 c1 c2 : List UInt8) (pm pd : ByteArray) : Prop where
 date : ∀ W, Calls Tryz.prog 96 #[.int .i64 (Cal.num y m d)] W fun e w' => e = .returned (.agg #[.int .i64 y, .int .i64 m, .int .i64 d]) ∧ Below W.heap.size W w'
 told : ∀ W, Calls Tryz.prog 36 #[.int .i64 y] W fun e w' => e = .returned (.string (Tx.mk u1)) ∧ Below W.heap.size W w'
 cm : ∀ W, Calls Tryz.prog 104 #[.int .i64 m, .int .i64 2] W fun e w' => e = .returned (.string pm) ∧ Below W.heap.size W w'
 cd : ∀ W, Calls Tryz.prog 104 #[.int .i64 d, .int .i64 2] W fun e w' => e = .returned (.string pd) ∧ Below W.heap.size W w'
 e1 : Tx.mk u1 ++ ByteArray.mk #[45] = Tx.mk c1
 e2 : Tx.mk c1 ++ pm = Tx.mk u2
 e3 : Tx.mk u2 ++ ByteArray.mk #[45] = Tx.mk c2
 e4 : Tx.mk c2 ++ pd = Tx.mk u3
 z1 : (Tx.mk u1).size = 4
 z2 : (Tx.mk u2).size = 7
 z3 : (Tx.mk u3).size = 10
 y1 : (Tx.mk c1).size = 5
 y2 : (Tx.mk c2).size = 8
 x1 : pm.size = 2
 x2 : pd.size = 2
theorem sf_of (y m d : Int) (hv : Sp.vld (y, m, d) = true) : ∃ (c1 c2 : List UInt8) (pm pd : ByteArray), SfD y m d (Sx.u1 (y, m, d)) (Sx.u2 (y, m, d)) (Sx.u3 (y, m, d)) c1 c2 pm pd := by
 obtain ⟨hy, hm, hd⟩ := Sx.vld_bd hv
 obtain ⟨l1, l2, l3⟩ := Sx.lens hv
 have hm' : 1 ≤ m ∧ m ≤ 12 := hm
 have hd' : 1 ≤ d ∧ d ≤ 31 := hd
 have hnb := Sp.num_bd hv
 refine ⟨Sx.u1 (y, m, d) ++ [45], Sx.u2 (y, m, d) ++ [45], Tx.P2 m, Tx.P2 d, ?_, toldU_is (y, m, d) hv, fun W => toldPad_is m (by omega) (by omega) W, fun W => toldPad_is d (by omega) (by omega) W, Tx.mk_append _ [45], ?_, Tx.mk_append _ [45], ?_, by rw [Tx.mk_size, l1], by rw [Tx.mk_size, l2], by rw [Tx.mk_size, l3], by rw [Tx.mk_size, List.length_append, l1]; rfl, by rw [Tx.mk_size, List.length_append, l2]; rfl, Tx.P2_size (by omega) (by omega), Tx.P2_size (by omega) (by omega)⟩
 ·intro W
  refine (dateFor_any (Cal.num y m d) W hnb.1 hnb.2).mono ?_
  rintro e w' ⟨y', m', d', hv', hn, rfl, hB⟩
  obtain ⟨rfl, rfl, rfl⟩ := Cal.num_inj _ _ _ _ _ _ hv' hv hn
  exact ⟨rfl, hB⟩
 ·exact Tx.mk_append _ _
 ·exact Tx.mk_append _ _
namespace Sx
def errOf (s : List UInt8) : Int := if s = [] then 1 else 0
theorem errOf_no {s : List UInt8} (h : ¬ s = []) : errOf s = 0 := by unfold errOf; rw [if_neg h]
end Sx
def SfRel (w : World) (F T : Int) (Ua Ub : List (List UInt8)) (i : Nat) (wr : World) : Prop :=
 Below w.heap.size w wr ∧ Blk wr w.heap.size #[.int .i64 F, .int .i64 T] 108 ∧ Blk wr (w.heap.size + 1 + 1) #[.int .i64 F, .int .i64 T] 3 ∧ w.heap.size + 2 < wr.heap.size ∧
 ((i = 0 ∧ Blk wr (w.heap.size + 1) #[.slice none 0 0, .slice none 0 0] 149) ∨
  (i = 1 ∧ ∃ g, w.heap.size + 2 < g ∧ StrRow wr g Ua ∧ Blk wr (w.heap.size + 1) #[.slice (some ⟨g, 0, none⟩) 3 3, .slice none 0 0] 149) ∨
  (i = 2 ∧ ∃ g h, (w.heap.size + 2 < g ∧ w.heap.size + 2 < h) ∧ StrRow wr g Ua ∧ StrRow wr h Ub ∧ Blk wr (w.heap.size + 1) #[.slice (some ⟨g, 0, none⟩) 3 3, .slice (some ⟨h, 0, none⟩) 3 3] 149))
theorem spanFor_ok (F T ya ma da yb mb db : Int) (a1 a2 a3 b1 b2 b3 ca1 ca2 cb1 cb2 : List UInt8) (pma pda pmb pdb : ByteArray) (P : List (List UInt8)) (hF : Ev.mom F = true) (hT : Ev.mom T = true) (h : F ≤ T)
  (hna : Cal.num ya ma da = F / 86400) (hnb : Cal.num yb mb db = T / 86400) (hA : SfD ya ma da a1 a2 a3 ca1 ca2 pma pda) (hBd : SfD yb mb db b1 b2 b3 cb1 cb2 pmb pdb)
  (hP0 : P.take 3 = [a1, a2, a3]) (hP2 : ∀ k j, k < 3 → j < 3 → P[3 + 3 * k + j]? = some (Sx.U a1 a2 a3 k ++ Sx.dots ++ Sx.U b1 b2 b3 j)) (hP12 : P.length = 12) (hPL : ∀ s ∈ P, s.length ≤ 22) (w : World) (hmx : Mx w) :
  Calls Tryz.prog 63 #[.agg #[.int .i64 F, .int .i64 T]] w fun e w' => e = .returned (.tuple #[.string (Tx.mk (Sx.best (Sx.ok F T) P)), .int .i64 (Sx.errOf (Sx.best (Sx.ok F T) P))]) ∧ Below w.heap.size w w' := by
 have hf := (Ev.mom_iff _).1 hF
 have htt := (Ev.mom_iff _).1 hT
 have HMF := Lib.hid hF
 have HMT := Lib.hid hT
 have hlt : ¬ T < F := by omega
 have HPA := Lib.hid hA.date
 have HPB := Lib.hid hBd.date
 rw [hna] at HPA
 rw [hnb] at HPB
 have HAA := Lib.hid hA
 have HBB := Lib.hid hBd
 have HP0 := Lib.hid hP0
 have HP2 := Lib.hid hP2
 have HP12 := Lib.hid hP12
 have HPL := Lib.hid hPL
 have HM := Lib.hid hmx
 obtain ⟨i0, hi, hz0, hz1', hz2⟩ := info_parts infoStr
 have HI0 := Lib.hid hi; have HI1 := Lib.hid hz0; have HI2 := Lib.hid hz1'; have HI3 := Lib.hid hz2
 clear hF hT hna hnb hA hBd hP0 hP2 hP12 hPL hmx hi hz0 hz1' hz2
 obtain ⟨W1, hW1, hX1, hz1, hB1⟩ := box w #[.int .i64 F, .int .i64 T] 108
 obtain ⟨W2, hW2, hE2, hz2, hB2⟩ := box W1 #[.slice none 0 0, .slice none 0 0] 149
 obtain ⟨W3, hW3, hN3, hz3, hB3⟩ := box W2 #[.int .i64 F, .int .i64 T] 3
 have HW1 := Lib.hid hW1
 have HW2 := Lib.hid hW2
 have HW3 := Lib.hid hW3
 obtain ⟨c0, c1⟩ := hX1.two
 have hX3 := (hX1.keep hB2).keep hB3
 have hE3 := hE2.keep hB3
 have hBr := below_up (below_up hB1 hB2) hB3
 rw [hz1] at hE3
 rw [hz2, hz1] at hN3
 have hz4 : W3.heap.size = w.heap.size + 3 := by omega
 clear hW1 hW2 hW3 hX1 hE2
 go_enter Tryz.func63, Tryz.ntmps63
 go_wp2_with fail
 rw [HW1.out]
 go_wp2_with (go_at_call 71; first | (with_reducible refine (moment_is _ _ HMF.out _).mono ?_; rintro e w2 ⟨rfl, rfl⟩) | (with_reducible refine (moment_is _ _ HMT.out _).mono ?_; rintro e w2 ⟨rfl, rfl⟩))
 rw [HW2.out, HW3.out]
 go_loopg [41] 2 (fun gk i wr => ∃ k : Nat, k ≤ 2 ∧ gk = 2 - k ∧ i = .int .i64 k ∧ SfRel w F T [a1, a2, a3] [b1, b2, b3] k wr)
 case atStart => exact ⟨0, by omega, rfl, rfl, hBr, hX3, hN3, by omega, .inl ⟨rfl, hE3⟩⟩
 case round =>
  obtain ⟨k, hk, rfl, rfl, hB, hX, hN, hsz, hcase⟩ := hrel
  rcases hcase with ⟨rfl, hE⟩ | ⟨rfl, g, hg, hUA, hE⟩ | ⟨rfl, g, hh, ⟨hg, hgh⟩, hUA, hUB, hE⟩
  ·obtain ⟨n0, n1⟩ := hN.two
   have hk0 : ((0 : Nat) : Int) = 0 := rfl
   go_wp2_with fail
   go_at_call 96
   refine (HPA.out _).mono ?_
   rintro e w3 ⟨rfl, hB8⟩
   have hE := hE.keep hB8
   have hX := hX.keep hB8
   have hN := hN.keep hB8
   have hB := below_up hB hB8
   have hsz := Nat.lt_of_lt_of_le hsz hB8.size
   (try have hUA := hUA.keep hB8)
   clear hB8
   obtain ⟨W4, hW4, hD, hz4, hB4⟩ := box w3 #[.int .i64 ya, .int .i64 ma, .int .i64 da] 138
   have HW4 := Lib.hid hW4
   have hE := hE.keep hB4
   have hX := hX.keep hB4
   have hN := hN.keep hB4
   have hB := below_up hB hB4
   have hsz := Nat.lt_of_lt_of_le hsz hB4.size
   (try have hUA := hUA.keep hB4)
   clear hB4 hW4 n0 n1
   obtain ⟨d0, d1, d2⟩ := hD.three
   obtain ⟨q0, q1⟩ := hE.two
   have qf := hE.free
   have e1 := HAA.out.e1
   have e2 := HAA.out.e2
   have e3 := HAA.out.e3
   have e4 := HAA.out.e4
   have zz1 := HAA.out.z1
   have zz2 := HAA.out.z2
   have zz3 := HAA.out.z3
   have yy1 := HAA.out.y1
   have yy2 := HAA.out.y2
   have xx1 := HAA.out.x1
   have xx2 := HAA.out.x2
   go_wp2_with fail
   rw [HW4.out]
   go_wp2_with (first
    | (go_at_call 36; (with_reducible refine (HAA.out.told _).mono ?_); rintro e w5 ⟨rfl, hB8⟩; have hE := hE.keep hB8; have hD := hD.keep hB8; have hX := hX.keep hB8; have hN := hN.keep hB8; have hB := below_up hB hB8; obtain ⟨d0, d1, d2⟩ := hD.three; obtain ⟨q0, q1⟩ := hE.two; have qf := hE.free; have hsz := Nat.lt_of_lt_of_le hsz hB8.size; have hs1 := Nat.lt_of_succ_lt hsz; (try have hUA := hUA.keep hB8))
    | (go_at_call 104; (with_reducible first | (refine (HAA.out.cm _).mono ?_) | (refine (HAA.out.cd _).mono ?_)); rintro e w5 ⟨rfl, hB8⟩; have hE := hE.keep hB8; have hD := hD.keep hB8; have hX := hX.keep hB8; have hN := hN.keep hB8; have hB := below_up hB hB8; obtain ⟨d0, d1, d2⟩ := hD.three; obtain ⟨q0, q1⟩ := hE.two; have qf := hE.free; have hsz := Nat.lt_of_lt_of_le hsz hB8.size; have hs1 := Nat.lt_of_succ_lt hsz; (try have hUA := hUA.keep hB8)))
   clear e1 e2 e3 e4 zz1 zz2 zz3 yy1 yy2 xx1 xx2
   go_roundg (2 - 1)
   case rel => exact ⟨1, by omega, rfl, rfl, (hB.setCell (by simp) _).alloc (by simp; omega) _, (hX.setOther (by simp) _).alloc _, (hN.setOther (by simp) _).alloc _, by simp; omega, .inr (.inl ⟨rfl, w5.heap.size, by omega, StrRow.newSet _ _ _ _ _ _ _, by have := (hE.set 0 (.slice (some ⟨w5.heap.size, 0, none⟩) 3 3)).alloc (.cells #[.string (Tx.mk a1), .string (Tx.mk a2), .string (Tx.mk a3)] 9); simpa using this⟩)⟩
   case measure => omega
  ·obtain ⟨n0, n1⟩ := hN.two
   have hk0 : ((1 : Nat) : Int) = 1 := rfl
   go_wp2_with fail
   go_at_call 96
   refine (HPB.out _).mono ?_
   rintro e w3 ⟨rfl, hB8⟩
   have hE := hE.keep hB8
   have hX := hX.keep hB8
   have hN := hN.keep hB8
   have hB := below_up hB hB8
   have hsz := Nat.lt_of_lt_of_le hsz hB8.size
   (try have hUA := hUA.keep hB8)
   clear hB8
   obtain ⟨W4, hW4, hD, hz4, hB4⟩ := box w3 #[.int .i64 yb, .int .i64 mb, .int .i64 db] 138
   have HW4 := Lib.hid hW4
   have hE := hE.keep hB4
   have hX := hX.keep hB4
   have hN := hN.keep hB4
   have hB := below_up hB hB4
   have hsz := Nat.lt_of_lt_of_le hsz hB4.size
   (try have hUA := hUA.keep hB4)
   clear hB4 hW4 n0 n1
   obtain ⟨d0, d1, d2⟩ := hD.three
   obtain ⟨q0, q1⟩ := hE.two
   have qf := hE.free
   have e1 := HBB.out.e1
   have e2 := HBB.out.e2
   have e3 := HBB.out.e3
   have e4 := HBB.out.e4
   have zz1 := HBB.out.z1
   have zz2 := HBB.out.z2
   have zz3 := HBB.out.z3
   have yy1 := HBB.out.y1
   have yy2 := HBB.out.y2
   have xx1 := HBB.out.x1
   have xx2 := HBB.out.x2
   go_wp2_with fail
   rw [HW4.out]
   go_wp2_with (first
    | (go_at_call 36; (with_reducible refine (HBB.out.told _).mono ?_); rintro e w5 ⟨rfl, hB8⟩; have hE := hE.keep hB8; have hD := hD.keep hB8; have hX := hX.keep hB8; have hN := hN.keep hB8; have hB := below_up hB hB8; obtain ⟨d0, d1, d2⟩ := hD.three; obtain ⟨q0, q1⟩ := hE.two; have qf := hE.free; have hsz := Nat.lt_of_lt_of_le hsz hB8.size; have hs1 := Nat.lt_of_succ_lt hsz; (try have hUA := hUA.keep hB8))
    | (go_at_call 104; (with_reducible first | (refine (HBB.out.cm _).mono ?_) | (refine (HBB.out.cd _).mono ?_)); rintro e w5 ⟨rfl, hB8⟩; have hE := hE.keep hB8; have hD := hD.keep hB8; have hX := hX.keep hB8; have hN := hN.keep hB8; have hB := below_up hB hB8; obtain ⟨d0, d1, d2⟩ := hD.three; obtain ⟨q0, q1⟩ := hE.two; have qf := hE.free; have hsz := Nat.lt_of_lt_of_le hsz hB8.size; have hs1 := Nat.lt_of_succ_lt hsz; (try have hUA := hUA.keep hB8)))
   clear e1 e2 e3 e4 zz1 zz2 zz3 yy1 yy2 xx1 xx2
   go_roundg (2 - 2)
   case rel => exact ⟨2, by omega, rfl, rfl, (hB.setCell (by simp) _).alloc (by simp; omega) _, (hX.setOther (by simp) _).alloc _, (hN.setOther (by simp) _).alloc _, by simp; omega, .inr (.inr ⟨rfl, g, w5.heap.size, ⟨hg, by omega⟩, (hUA.setOther (by omega)).alloc _, StrRow.newSet _ _ _ _ _ _ _, by have := (hE.set 1 (.slice (some ⟨w5.heap.size, 0, none⟩) 3 3)).alloc (.cells #[.string (Tx.mk b1), .string (Tx.mk b2), .string (Tx.mk b3)] 9); simpa using this⟩)⟩
   case measure => omega
  ·obtain ⟨q0, q1⟩ := hE.two
   have hk0 : ((2 : Nat) : Int) = 2 := rfl
   clear hN
   generalize wr = w6 at *
   have HCL := Lib.hid (clone_strs g [a1, a2, a3] 3 w6 hUA (by simp) (by simp))
   have HM6 := Lib.hid (HM.out.below hB)
   go_wp2_with fail
   go_at_call 105
   refine HCL.out.mono ?_
   rintro e w7 ⟨gC, capC, rfl, hown7, hB7⟩
   obtain ⟨q0, q1⟩ := (hE.keep hB7).two
   go_wp2_with fail
   go_loopg [10, 76] 3 (fun gk v i wr => ∃ k : Nat, k ≤ 3 ∧ gk = 3 - k ∧ i = .int .i64 k ∧ Sx.Row w6.heap.size w6 P (3 + 3 * k) v wr)
   case atStart => exact ⟨0, by omega, rfl, rfl, by rw [show 3 + 3 * 0 = 3 from rfl, HP0.out]; exact hown7, hB7⟩
   case round =>
    obtain ⟨k, hk, rfl, rfl, hrow⟩ := hrel
    obtain ⟨hown, hBq⟩ := hrow
    by_cases hk3 : k < 3
    ·have hkI : (k : Int) < 3 := by omega
     have hcellA : wr.cell? ⟨g, k, none⟩ = some (.string (Tx.mk (Sx.U a1 a2 a3 k))) := (hUA.keep hBq).2 k (by simpa using hk3)
     have hUl : (Sx.U a1 a2 a3 k).length ≤ 10 := Sx.U_len (by have := HAA.out.z1; rw [Tx.mk_size] at this; omega) (by have := HAA.out.z2; rw [Tx.mk_size] at this; omega) (by have := HAA.out.z3; rw [Tx.mk_size] at this; omega) k
     obtain ⟨uk, huk⟩ : ∃ uk, Sx.U a1 a2 a3 k = uk := ⟨_, rfl⟩
     rw [huk] at hcellA hUl
     have HUK := Lib.hid huk
     clear huk
     obtain ⟨r0, r1⟩ := (hE.keep hBq).two
     go_wp2_with fail
     go_loopg [10, 83] 3 (fun gk v i wq => ∃ j : Nat, j ≤ 3 ∧ gk = 3 - j ∧ i = .int .i64 j ∧ Sx.Row w6.heap.size w6 P (3 + 3 * k + j) v wq)
     case atStart => exact ⟨0, by omega, rfl, rfl, hown, hBq⟩
     case round =>
      obtain ⟨j, hj, rfl, rfl, hrow⟩ := hrel
      obtain ⟨hown, hBq⟩ := hrow
      by_cases hj3 : j < 3
      ·have hjI : (j : Int) < 3 := by omega
       have HO2 := Lib.hid (HP2.out k j hk3 hj3)
       rw [HUK.out] at HO2
       have hcellB : wr.cell? ⟨hh, j, none⟩ = some (.string (Tx.mk (Sx.U b1 b2 b3 j))) := (hUB.keep hBq).2 j (by simpa using hj3)
       have hVl : (Sx.U b1 b2 b3 j).length ≤ 10 := Sx.U_len (by have := HBB.out.z1; rw [Tx.mk_size] at this; omega) (by have := HBB.out.z2; rw [Tx.mk_size] at this; omega) (by have := HBB.out.z3; rw [Tx.mk_size] at this; omega) j
       generalize Sx.U b1 b2 b3 j = vj at *
       have hukz := Tx.mk_size uk
       have hvjz := Tx.mk_size vj
       have hcat1 : Tx.mk uk ++ ByteArray.mk #[46, 46] = Tx.mk (uk ++ Sx.dots) := Tx.mk_append uk Sx.dots
       have hcat2 : Tx.mk (uk ++ Sx.dots) ++ Tx.mk vj = Tx.mk (uk ++ Sx.dots ++ vj) := Tx.mk_append _ vj
       have hcz := Tx.mk_size (uk ++ Sx.dots)
       rw [List.length_append, show Sx.dots.length = 2 from rfl] at hcz
       have hBsz' := hBq.size
       generalize uk ++ Sx.dots ++ vj = cc at *
       generalize uk ++ Sx.dots = cd at *
       go_wp2_with (first
        | (at_builtin; refine wpList_append_own2 _ rfl _ _ 83 rfl w6.heap.size 9 i0 (.string ByteArray.empty) 1 16 Tryz.underlying83 HI0.out HI1.out HI2.out HI3.out rfl (by decide) _ _ _ rfl (hown.alloc _) ⟨wr.heap.size, 0, none⟩ 1 1 [strV cc] rfl (by decide) rfl (cell_one_new _ _ _) (by simp [strV, Value.oneCell']) (by unfold maxLen; omega) (by omega) (by simp; have := hBq.size; omega) ?_; intro g9 cap9 w9 hown9 hgrow9 hnew9))
       have hB9 := (below_allocs hBq (.cells #[.string (Tx.mk cc)] 9)).grown hgrow9 (by simp; omega) (fun q e => (hown.lt q e).1)
       have hown9' : w9.ownsRow w6.heap.size 9 1 (.slice (some ⟨g9, 0, none⟩) (3 + 3 * k + (j + 1)) cap9) (3 + 3 * k + (j + 1)) ((P.take (3 + 3 * k + (j + 1))).map strV) := by
        rw [show 3 + 3 * k + (j + 1) = (3 + 3 * k + j) + 1 by omega, Sx.take_snoc HO2.out]; exact hown9
       clear hown9 hgrow9 hnew9 hown hcellB hcat1 hcat2 hcz
       go_roundg (3 - (j + 1))
       case rel => exact ⟨j + 1, by omega, rfl, by go_num, hown9', hB9⟩
       case measure => omega
      ·obtain rfl : j = 3 := by omega
       clear hcellA r0 r1
       go_wp2_with fail
       go_roundg (3 - (k + 1))
       case rel => exact ⟨k + 1, by omega, rfl, by go_num, hown, hBq⟩
       case measure => omega
    ·obtain rfl : k = 3 := by omega
     rw [show 3 + 3 * 3 = 12 from rfl, List.take_of_length_le (by rw [HP12.out]; exact Nat.le_refl _)] at hown
     rcases hown.2 with ⟨_, h0⟩ | ⟨gA, capA, cur, rfl, hbg, hrest⟩
     ·omega
     have hAR := StrRow.of_own hown
     have hXA := hX.keep hBq
     have HMA := Lib.hid (HM6.out.below hBq)
     have hBA := below_up hB hBq
     clear hown hrest hbg hBq hB hown7 hB7 q0 q1 hUA hUB hE hX
     generalize wr = wA at *
     go_wp2_with fail
     go_loopg [15, 98] 12 (fun gk v i wr => ∃ j : Nat, j ≤ 12 ∧ gk = 12 - j ∧ i = .int .i64 j ∧ v = .string (Tx.mk (Sx.best (Sx.ok F T) (P.take j))) ∧ Below wA.heap.size wA wr)
     case atStart => exact ⟨0, by omega, rfl, rfl, rfl, Below.refl _ _⟩
     case round =>
      obtain ⟨j, hj, rfl, rfl, rfl, hB⟩ := hrel
      by_cases hj3 : j < 12
      ·have hjI : (j : Int) < 12 := by omega
       obtain ⟨s, hs⟩ : ∃ s, P[j]? = some s := ⟨_, List.getElem?_eq_getElem (by rw [HP12.out]; exact hj3)⟩
       have hsl : s.length ≤ 22 := HPL.out s (List.mem_of_getElem? hs)
       have hcell' : wr.cell? ⟨gA, j, none⟩ = some (.string (Tx.mk s)) := by
        have := (hAR.keep hB).2 j (by rw [HP12.out]; exact hj3)
        rwa [List.getD_eq_getElem?_getD, hs] at this
       have HBT := Lib.hid (Sx.best_take (ok := Sx.ok F T) hs)
       have HSP := Lib.hid (spanOf_is s (by omega) wr (HMA.out.below hB))
       have hssz := Tx.mk_size s
       generalize Sx.best (Sx.ok F T) (P.take j) = b at *
       have hbsz := Tx.mk_size b
       obtain ⟨x0, x1⟩ := (hXA.keep hB).two
       clear hs
       by_cases hok : Sp.span s = (F, T, 0)
       ·rw [hok] at HSP
        by_cases hb0 : b = []
        ·subst hb0
         have HST := Lib.hid (Sx.step_nil hok)
         clear hok
         go_wp2_with (go_at_call 106; refine HSP.out.mono ?_; rintro e w8 ⟨rfl, hB8⟩; have hB8' := below_up hB hB8; obtain ⟨y0, y1⟩ := ((hXA.keep hB).keep hB8).two; have hx8 := ((hXA.keep hB).keep hB8).lt)
         go_roundg (12 - (j + 1))
         case rel => exact ⟨j + 1, by omega, rfl, by go_num, by rw [HBT.out, HST.out], below_allocs hB8' _⟩
         case measure => omega
        ·have hbe : b.isEmpty = false := by cases b with | nil => exact absurd rfl hb0 | cons => rfl
         have hbq : (b == []) = false := by simpa using hb0
         by_cases hl1 : s.length < b.length
         ·have HST := Lib.hid (Sx.step_lt (b := b) hok ((Sx.lt_iff s b).2 (.inl hl1)))
          clear hok
          go_wp2_with (go_at_call 106; refine HSP.out.mono ?_; rintro e w8 ⟨rfl, hB8⟩; have hB8' := below_up hB hB8; obtain ⟨y0, y1⟩ := ((hXA.keep hB).keep hB8).two; have hx8 := ((hXA.keep hB).keep hB8).lt)
          go_roundg (12 - (j + 1))
          case rel => exact ⟨j + 1, by omega, rfl, by go_num, by rw [HBT.out, HST.out], below_allocs hB8' _⟩
          case measure => omega
         ·by_cases hl2 : s.length = b.length
          ·have hle : ((s.length : Int) == (b.length : Int)) = true := by simp; omega
           cases hbl : Op.bytesLess s b
           ·have HST := Lib.hid (Sx.step_ge (F := F) (T := T) hb0 (show Sx.lt s b = false by rw [← Bool.not_eq_true, Sx.lt_iff, hbl]; simp; omega))
            clear hok
            have HL2 := Lib.hid hl2
            clear hl2
            go_wp2_with (go_at_call 106; refine HSP.out.mono ?_; rintro e w8 ⟨rfl, hB8⟩; have hB8' := below_up hB hB8; obtain ⟨y0, y1⟩ := ((hXA.keep hB).keep hB8).two; have hx8 := ((hXA.keep hB).keep hB8).lt)
            go_roundg (12 - (j + 1))
            case rel => exact ⟨j + 1, by omega, rfl, by go_num, by rw [HBT.out, HST.out], below_allocs hB8' _⟩
            case measure => omega
           ·have HST := Lib.hid (Sx.step_lt (b := b) hok ((Sx.lt_iff s b).2 (.inr ⟨hl2, hbl⟩)))
            clear hok
            have HL2 := Lib.hid hl2
            clear hl2
            go_wp2_with (go_at_call 106; refine HSP.out.mono ?_; rintro e w8 ⟨rfl, hB8⟩; have hB8' := below_up hB hB8; obtain ⟨y0, y1⟩ := ((hXA.keep hB).keep hB8).two; have hx8 := ((hXA.keep hB).keep hB8).lt)
            go_roundg (12 - (j + 1))
            case rel => exact ⟨j + 1, by omega, rfl, by go_num, by rw [HBT.out, HST.out], below_allocs hB8' _⟩
            case measure => omega
          ·have hle : ((s.length : Int) == (b.length : Int)) = false := by simp; omega
           have HST := Lib.hid (Sx.step_ge (F := F) (T := T) hb0 (show Sx.lt s b = false by rw [← Bool.not_eq_true, Sx.lt_iff]; intro h; rcases h with h | h; exact hl1 h; exact hl2 h.1))
           clear hok
           go_wp2_with (go_at_call 106; refine HSP.out.mono ?_; rintro e w8 ⟨rfl, hB8⟩; have hB8' := below_up hB hB8; obtain ⟨y0, y1⟩ := ((hXA.keep hB).keep hB8).two; have hx8 := ((hXA.keep hB).keep hB8).lt)
           go_roundg (12 - (j + 1))
           case rel => exact ⟨j + 1, by omega, rfl, by go_num, by rw [HBT.out, HST.out], below_allocs hB8' _⟩
           case measure => omega
       ·have HST := Lib.hid (Sx.step_no (b := b) hok)
        obtain ⟨f, t, e, hr⟩ : ∃ f t e, Sp.span s = (f, t, e) := ⟨_, _, _, rfl⟩
        rw [hr] at HSP hok
        clear hr
        by_cases he : e = 0
        ·subst he
         by_cases hf' : f = F
         ·subst hf'
          have htn : ¬ t = T := fun e => hok (by rw [e])
          clear hok
          go_wp2_with (go_at_call 106; refine HSP.out.mono ?_; rintro e w8 ⟨rfl, hB8⟩; have hB8' := below_up hB hB8; obtain ⟨y0, y1⟩ := ((hXA.keep hB).keep hB8).two; have hx8 := ((hXA.keep hB).keep hB8).lt)
          go_roundg (12 - (j + 1))
          case rel => exact ⟨j + 1, by omega, rfl, by go_num, by rw [HBT.out, HST.out], below_allocs hB8' _⟩
          case measure => omega
         ·clear hok
          go_wp2_with (go_at_call 106; refine HSP.out.mono ?_; rintro e w8 ⟨rfl, hB8⟩; have hB8' := below_up hB hB8; obtain ⟨y0, y1⟩ := ((hXA.keep hB).keep hB8).two; have hx8 := ((hXA.keep hB).keep hB8).lt)
          go_roundg (12 - (j + 1))
          case rel => exact ⟨j + 1, by omega, rfl, by go_num, by rw [HBT.out, HST.out], below_allocs hB8' _⟩
          case measure => omega
        ·clear hok
         go_wp2_with (go_at_call 106; refine HSP.out.mono ?_; rintro e w8 ⟨rfl, hB8⟩; have hB8' := below_up hB hB8; obtain ⟨y0, y1⟩ := ((hXA.keep hB).keep hB8).two; have hx8 := ((hXA.keep hB).keep hB8).lt)
         go_roundg (12 - (j + 1))
         case rel => exact ⟨j + 1, by omega, rfl, by go_num, by rw [HBT.out, HST.out], below_allocs hB8' _⟩
         case measure => omega
      ·obtain rfl : j = 12 := by omega
       rw [List.take_of_length_le (by rw [HP12.out]; exact Nat.le_refl _)]
       obtain ⟨b, hbb⟩ : ∃ b, Sx.best (Sx.ok F T) P = b := ⟨_, rfl⟩
       rw [hbb]
       have HBB2 := Lib.hid hbb
       clear hbb
       by_cases hb0 : b = []
       ·subst hb0
        go_wp2_with fail
        go_ret2
        exact ⟨by rw [HBB2.out]; rfl, below_up hBA hB⟩
       ·have hbe : b.isEmpty = false := by cases b with | nil => exact absurd rfl hb0 | cons => rfl
        have hbq : (b == []) = false := by simpa using hb0
        have HBN := Lib.hid hb0
        go_wp2_with fail
        go_ret2
        exact ⟨by rw [HBB2.out, Sx.errOf_no HBN.out]; rfl, below_up hBA hB⟩
namespace Cal
theorem year_ex (n : Int) (h0 : 0 ≤ n) : ∀ k : Nat, n < bef (1900 + k) → ∃ y : Int, 1900 ≤ y ∧ y < 1900 + k ∧ bef y ≤ n ∧ n < bef (y + 1) := by
 intro k
 induction k with
 | zero => intro h; rw [show (1900 : Int) + (0 : Nat) = 1900 by omega, bef_1900] at h; omega
 | succ k ih =>
   intro h
   by_cases c : n < bef (1900 + k)
   ·obtain ⟨y, h1, h2, h3, h4⟩ := ih c
    exact ⟨y, h1, by omega, h3, h4⟩
   ·exact ⟨1900 + k, by omega, by omega, by omega, by rw [show (1900 : Int) + k + 1 = 1900 + ((k + 1 : Nat) : Int) by omega]; exact h⟩
theorem month_ex (y r : Int) (h0 : 0 ≤ r) : ∀ k : Nat, r < cum y (1 + k) → ∃ m : Int, 1 ≤ m ∧ m < 1 + k ∧ cum y m ≤ r ∧ r < cum y (m + 1) := by
 intro k
 induction k with
 | zero => intro h; rw [show (1 : Int) + (0 : Nat) = 1 by omega, cum_1] at h; omega
 | succ k ih =>
   intro h
   by_cases c : r < cum y (1 + k)
   ·obtain ⟨m, h1, h2, h3, h4⟩ := ih c
    exact ⟨m, h1, by omega, h3, h4⟩
   ·exact ⟨1 + k, by omega, by omega, by omega, by rw [show (1 : Int) + k + 1 = 1 + ((k + 1 : Nat) : Int) by omega]; exact h⟩
theorem date_ex (n : Int) (h0 : 0 ≤ n) (h1 : n ≤ 73048) : ∃ y m d : Int, vld y m d = true ∧ num y m d = n := by
 obtain ⟨y, hy1, hy2, hy3, hy4⟩ := year_ex n h0 200 (by rw [show (1900 : Int) + (200 : Nat) = 2100 by omega, bef_2100]; omega)
 have hs := bef_succ y
 obtain ⟨m, hm1, hm2, hm3, hm4⟩ := month_ex y (n - bef y) (by omega) 12 (by rw [show (1 : Int) + (12 : Nat) = 13 by omega, cum_13]; omega)
 have hc := cum_succ y m hm1 (by omega)
 exact ⟨y, m, n - bef y - cum y m + 1, (vld_iff _ _ _).2 ⟨hy1, by omega, hm1, by omega, by omega, by omega⟩, by unfold num; omega⟩
end Cal
theorem spans_both2 (F T : Int) : ∃ (s : List UInt8) (e : Int), (∀ w, Tx.Tab w → Mx w → Calls Tryz.prog 59 #[.agg #[.int .i64 F, .int .i64 T]] w fun r w' => r = .returned (.tuple #[.string (Tx.mk s), .int .i64 e]) ∧ Below w.heap.size w w') ∧
  (∀ w, Mx w → Calls Tryz.prog 63 #[.agg #[.int .i64 F, .int .i64 T]] w fun r w' => r = .returned (.tuple #[.string (Tx.mk s), .int .i64 e]) ∧ Below w.heap.size w w') ∧ (e = 0 → Sp.span s = (F, T, 0)) ∧ s.length ≤ 22 ∧ (Ev.mom F = true → Ev.mom T = true → F ≤ T → e = 0 ∨ e = 1) := by
 by_cases hm : Ev.mom F = true ∧ Ev.mom T = true
 ·obtain ⟨hF, hT⟩ := hm
  have hf := (Ev.mom_iff _).1 hF
  have ht := (Ev.mom_iff _).1 hT
  by_cases ho : T < F
  ·exact ⟨[], 5, fun w _ _ => spanText_order F T hF hT ho w, fun w _ => spanFor_order F T hF hT ho w, fun h => absurd h (by decide), by simp, fun _ _ h => absurd h (by omega)⟩
  ·have hle : F ≤ T := by omega
   obtain ⟨ya, ma, da, hva, hna⟩ := Cal.date_ex (F / 86400) (by omega) (by omega)
   obtain ⟨yb, mb, db, hvb, hnb⟩ := Cal.date_ex (T / 86400) (by omega) (by omega)
   have hva' : Sp.vld (ya, ma, da) = true := hva
   have hvb' : Sp.vld (yb, mb, db) = true := hvb
   obtain ⟨ca1, ca2, pma, pda, hA⟩ := sf_of ya ma da hva'
   obtain ⟨cb1, cb2, pmb, pdb, hB⟩ := sf_of yb mb db hvb'
   obtain ⟨al1, al2, al3⟩ := Sx.lens hva'
   obtain ⟨bl1, bl2, bl3⟩ := Sx.lens hvb'
   have hfor := fun w hmx => spanFor_ok F T ya ma da yb mb db _ _ _ _ _ _ ca1 ca2 cb1 cb2 pma pda pmb pdb (Sx.candR (Sx.u1 (ya, ma, da)) (Sx.u2 (ya, ma, da)) (Sx.u3 (ya, ma, da)) (Sx.u1 (yb, mb, db)) (Sx.u2 (yb, mb, db)) (Sx.u3 (yb, mb, db))) hF hT hle hna hnb hA hB rfl
    (fun k j hk hj => Sx.candR_two _ _ _ _ _ _ k j hk hj) rfl (Sx.candR_len (by omega) (by omega) (by omega) (by omega) (by omega) (by omega)) w hmx
   rw [Sx.text_ref hva'] at hfor
   by_cases hal : F % 86400 = 0 ∧ (T + 1) % 86400 = 0
   ·have hok := Sx.text_ok (F := F) (T := T) hva' hvb' (show Sp.num (ya, ma, da) * 86400 = F by show Cal.num ya ma da * 86400 = F; rw [hna]; omega) (show Sp.num (yb, mb, db) * 86400 + 86399 = T by show Cal.num yb mb db * 86400 + 86399 = T; rw [hnb]; omega) hle
    refine ⟨Sx.text F T (ya, ma, da) (yb, mb, db), 0, fun w ht hmx => spanText_ok F T _ _ hva' hvb' hF hT hle hal.1 hal.2 hna hnb w ht hmx, fun w hmx => ?_, fun _ => hok.1, ?_, fun _ _ _ => .inl rfl⟩
    ·have := hfor w hmx
     rwa [Sx.errOf_no hok.2] at this
    ·have h1 := Sx.best_some (ok := Sx.ok F T) (Sx.cand_ne (v1 := Sx.u1 (yb, mb, db)) (v2 := Sx.u2 (yb, mb, db)) (v3 := Sx.u3 (yb, mb, db)) (Sx.u_ne hva').1 (Sx.u_ne hva').2.1 (Sx.u_ne hva').2.2) (s := Sx.u3 (ya, ma, da) ++ Sx.dots ++ Sx.u3 (yb, mb, db)) (by simp [Sx.candP]) ((Sx.ok_iff _ _ _).2 (by
      rw [Sx.span_days hva' hvb' (by show Cal.num ya ma da ≤ Cal.num yb mb db; omega)]
      show (Cal.num ya ma da * 86400, Cal.num yb mb db * 86400 + 86399, (0 : Int)) = _
      rw [hna, hnb, show F / 86400 * 86400 = F by omega, show T / 86400 * 86400 + 86399 = T by omega]))
     exact Sx.candP_len (by omega) (by omega) (by omega) (by omega) (by omega) (by omega) _ h1.1
   ·have hno := Sx.text_no (a := (ya, ma, da)) (b := (yb, mb, db)) hal
    refine ⟨[], 1, fun w _ _ => spanText_form F T hF hT hle hal w, fun w hmx => ?_, fun h => absurd h (by decide), by simp, fun _ _ _ => .inr rfl⟩
    have := hfor w hmx
    rw [hno] at this
    exact this
 ·exact ⟨[], 2, fun w _ _ => spanText_mom F T hm w, fun w _ => spanFor_mom F T hm w, fun h => absurd h (by decide), by simp, fun a b _ => absurd ⟨a, b⟩ hm⟩
end Go.Proofs.YtimjmjmpaicdbaaGreatDoor
namespace Go.Proofs.YtimjmjmpaicdbaaGreatDoor
open Go.RowKit Go.Sort
namespace Onc
theorem disable (w : World) : (callFunc 255 #[]).run Tryz.prog w = .ok (.value (.tuple #[])) w := run_call_mark0 Tryz.func255 (by kernel_rfl) (by kernel_rfl) (by kernel_rfl) .disable (by kernel_rfl) w
theorem enable (w : World) : (callFunc 257 #[]).run Tryz.prog w = .ok (.value (.tuple #[])) w := run_call_mark0 Tryz.func257 (by kernel_rfl) (by kernel_rfl) (by kernel_rfl) .enable (by kernel_rfl) w
theorem acquire (a : Addr) (w : World) : (callFunc 258 #[.pointer (some a)]).run Tryz.prog w = .ok (.value (.tuple #[])) w := run_call_marked Tryz.func258 (by kernel_rfl) (by kernel_rfl) (by kernel_rfl) .acquire (by kernel_rfl) a w
theorem releaseMerge (a : Addr) (w : World) : (callFunc 260 #[.pointer (some a)]).run Tryz.prog w = .ok (.value (.tuple #[])) w := run_call_marked Tryz.func260 (by kernel_rfl) (by kernel_rfl) (by kernel_rfl) .releaseMerge (by kernel_rfl) a w
theorem store_deferred (a : Addr) (x : Value) (u : FrameMode) (w : World) (hc : w.cell? a = some x) (hz : w.frozen? a = false) :
  CallsD Tryz.prog 221 #[.pointer (some a), .bool true] u w fun e u' w' => u' = u ∧ (e = .returned (.tuple #[]) ∧ w' = w.drew.setCell a (.int .u32 1)) := by
 have hc' : w.drew.cell? a = some x := by go_simp
 have hz' : w.drew.frozen? a = false := by go_simp
 have hst := run_call_store (P := Tryz.prog) Tryz.func242 (by kernel_rfl) (by kernel_rfl) (by kernel_rfl) (by kernel_rfl) (k := .u32) (y := 1) hc' hz'
 go_enter_d Tryz.func221, Tryz.ntmps221
 go_wp2
 go_region_calls
 all_goals (go_end0; exact ⟨rfl, rfl⟩)
theorem unlock_deferred (a : Addr) (u : FrameMode) (w : World) (hc : w.cell? a = some (.int .i32 1)) (hz : w.frozen? a = false) :
  CallsD Tryz.prog 220 #[.pointer (some a)] u w fun e u' w' => u' = u ∧ (e = .returned (.tuple #[]) ∧ w' = w.setCell a (.int .i32 0)) := by
 have hd := disable
 have he := enable
 have hr := releaseMerge
 have hadd := run_call_add (P := Tryz.prog) Tryz.func261 (by kernel_rfl) (by kernel_rfl) (by kernel_rfl) .i32 (by kernel_rfl) (y := -1) (s := 0) hc hz (by simp [go_sem]; rfl)
 have hcv := run_convert_to_unsafe (P := Tryz.prog) (src := 288) (dst := 156) Tryz.underlying288 Tryz.underlying156 (by kernel_rfl) hc
 go_enter_d Tryz.func220, Tryz.ntmps220
 go_wp2
 go_end0
 go_wp2
 go_end0
 exact ⟨rfl, rfl⟩
theorem lock_free (a : Addr) (w : World) (hc : w.cell? a = some (.int .i32 0)) (hz : w.frozen? a = false) :
  Calls Tryz.prog 219 #[.pointer (some a)] w fun e w' => e = .returned (.tuple #[]) ∧ w' = w.setCell a (.int .i32 1) := by
 have hd := disable
 have he := enable
 have ha := acquire
 have hcas := run_call_cas_hit (P := Tryz.prog) Tryz.func256 (by kernel_rfl) (by kernel_rfl) (by kernel_rfl) .i32 (by kernel_rfl) (y := 1) hc hz
 have hc' : (w.setCell a (.int .i32 1)).cell? a = some (.int .i32 1) := World.cell?_setCell_same w a _ hc
 have hcv := run_convert_to_unsafe (P := Tryz.prog) (src := 288) (dst := 156) Tryz.underlying288 Tryz.underlying156 (by kernel_rfl) hc'
 go_enter Tryz.func219, Tryz.ntmps219
 go_wp2
 first | go_end0 | (simp only [Exit.inBlock, Exit.then]; refine bodyPost_ret (results_none rfl _ _ _) rfl ?_) | refine bodyPost_ret (results_none rfl _ _ _) rfl ?_
 go_wp2
 go_end0
 exact ⟨rfl, rfl⟩
end Onc
end Go.Proofs.YtimjmjmpaicdbaaGreatDoor
namespace Go.Proofs.YtimjmjmpaicdbaaGreatDoor
open Go.ChangeShapes Go.WideShapes Go.ChangeAt Go.RowKit Go.Joins Go.Deep
theorem row2_of {w : World} {x : Addr} {len m : Nat} {V0 V1 : Nat → Value} (hlm : len ≤ m) (h : ∀ i, i < m → w.cell? (x.add (i * 2)) = some (V0 i) ∧ w.cell? (x.add (i * 2 + 1)) = some (V1 i) ∧ (∃ n, V0 i = .int .i64 n ∧ (Lit.int .i64 n).wf = true) ∧ (∃ n, V1 i = .int .i64 n ∧ (Lit.int .i64 n).wf = true)) :
  ∃ S T : Nat → Int, Row2 w (some x) len (fun i => .int .i64 (S i)) (fun i => .int .i64 (T i)) ∧ (∀ i, i < len → (Lit.int .i64 (S i)).wf = true ∧ (Lit.int .i64 (T i)).wf = true) := by
 refine ⟨fun i => intOf (V0 i), fun i => intOf (V1 i), fun h0 => ?_, fun i hi => ?_⟩
 ·obtain ⟨b, off, spot⟩ := x
  have hc := (h 0 (by omega)).1
  have hspot : spot = none := by simpa [Addr.add] using World.cell?_spot hc
  subst hspot
  refine ⟨b, off, rfl, by simpa [Addr.add] using World.block_lt_of_cell? w _ hc, fun i hi => ?_⟩
  obtain ⟨e0, e1, ⟨n0, q0, _⟩, ⟨n1, q1, _⟩⟩ := h i (by omega)
  rw [show (⟨b, off, none⟩ : Addr).add (i * 2) = ⟨b, off + i * 2, none⟩ from by unfold Addr.add; split <;> simp_all, q0] at e0
  rw [show (⟨b, off, none⟩ : Addr).add (i * 2 + 1) = ⟨b, off + i * 2 + 1, none⟩ from by unfold Addr.add; split <;> simp_all; omega, q1] at e1
  show _ = some (Value.int .i64 (intOf (V0 i))) ∧ _ = some (Value.int .i64 (intOf (V1 i)))
  rw [q0, q1]; exact ⟨e0, e1⟩
 ·obtain ⟨e0, e1, ⟨n0, q0, w0⟩, ⟨n1, q1, w1⟩⟩ := h i (by omega)
  show (Lit.int .i64 (intOf (V0 i))).wf = true ∧ (Lit.int .i64 (intOf (V1 i))).wf = true
  rw [q0, q1]; exact ⟨w0, w1⟩
end Go.Proofs.YtimjmjmpaicdbaaGreatDoor

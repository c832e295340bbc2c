/- readRun: a line of a run, by the program. -/
import Derived.Test.YtpgjpnnjlilokaaDoorPrNum
import Derived.Test.YtpgjpnnjlilokaaDoorCutIs
import Derived.Test.YtpgjpnnjlilokaaDoorSplLays
import Derived.Test.YtpgjpnnjlilokaaDoorSplMath
import Derived.Test.YtpgjpnnjlilokaaDoorPixImg
namespace Go.Proofs.YtpgjpnnjlilokaaDoor
open Go.RowKit Go.Sort Go.Shelf
set_option linter.unusedVariables false
theorem idxByte_is (l : List UInt8) (c : UInt8) (w : World) : Calls Tryd.prog 37 #[.string (Tx.mk l), .int .u8 c.toNat] w fun e w' => e = .returned (.int .i64 (Lib.indexByte l c)) ∧ w' = w := by
  have h := Any.strings_IndexByte { Lay.indexByteS with } (Tx.mk l) (c.toNat : Int) w
  have e1 : ((c.toNat : Int)).toNat.toUInt8 = c := by simp
  rw [e1] at h
  exact h
theorem shl4 (d : Nat) (h : d < 16) (V : World) : Sem.run Tryd.prog (binOp .shl 5 (.int .u8 (d : Int)) (.int .u64 4)) V = .ok (.int .u8 (16 * (d : Int))) V := by
  go_simp
  rw [IntKind.wrap_u8]; omega
theorem or4 (d k : Nat) (h : d < 16) (hk : k < 16) : bits .or .u8 ((d : Int) * 16 % 256) (k : Int) = 16 * (d : Int) + (k : Int) := by
  have key : ∀ u v : Fin 16, bits .or .u8 ((u.val : Int) * 16 % 256) (v.val : Int) = 16 * (u.val : Int) + (v.val : Int) := by decide +kernel
  exact key ⟨d, h⟩ ⟨k, hk⟩
theorem or4z (k : Nat) (hk : k < 16) : bits .or .u8 0 (k : Int) = (k : Int) := by
  have key : ∀ v : Fin 16, bits .or .u8 0 (v.val : Int) = (v.val : Int) := by decide +kernel
  exact key ⟨k, hk⟩
namespace Pr
/-- Byte j of the pixel behind k digits. -/
def pv (D : Nat → Nat) (k j : Nat) : Nat := if k ≤ 2 * j then 0 else if k = 2 * j + 1 then D (2 * j) else 16 * D (2 * j) + D (2 * j + 1)
/-- How many of six digits are good. -/
def good (h : List UInt8) : Nat → Nat
  | 0 => 0
  | k + 1 => if good h k = k ∧ (hv (h.getD k 0)).isSome then k + 1 else good h k
theorem good_le (h : List UInt8) : ∀ k, good h k ≤ k
  | 0 => Nat.le_refl _
  | k + 1 => by unfold good; split; omega; have := good_le h k; omega
theorem good_lt (h : List UInt8) : ∀ k j, j < good h k → (hv (h.getD j 0)).isSome
  | 0, j, hj => by simp [good] at hj
  | k + 1, j, hj => by
    unfold good at hj
    split at hj
    · rename_i hc
      by_cases hjk : j = k
      · subst hjk; exact hc.2
      · exact good_lt h k j (by omega)
    · exact good_lt h k j hj
theorem good_stop (h : List UInt8) : ∀ k, good h k < k → hv (h.getD (good h k) 0) = none
  | 0, hk => by omega
  | k + 1, hk => by
    unfold good at hk ⊢
    split
    · rename_i hc; rw [if_pos hc] at hk; omega
    · rename_i hc
      rw [if_neg hc] at hk
      have hl := good_le h k
      by_cases he : good h k = k
      · rw [he]
        have : ¬ (hv (h.getD k 0)).isSome = true := fun hs => hc ⟨he, hs⟩
        simpa using this
      · exact good_stop h k (by omega)
theorem six {h : List UInt8} (hl : h.length = 6) : ∃ a b c d e f, h = [a, b, c, d, e, f] := by
  match h, hl with
  | [a, b, c, d, e, f], _ => exact ⟨a, b, c, d, e, f, rfl⟩
theorem px6_none {h : List UInt8} (hl : h.length = 6) (hg : good h 6 < 6) : px6 h = none := by
  have hs := good_stop h 6 hg
  obtain ⟨a, b, c, d, e, f, rfl⟩ := six hl
  generalize good [a, b, c, d, e, f] 6 = k at *
  have hk : k = 0 ∨ k = 1 ∨ k = 2 ∨ k = 3 ∨ k = 4 ∨ k = 5 := by omega
  unfold px6 two
  rcases hk with rfl | rfl | rfl | rfl | rfl | rfl <;> simp at hs <;> simp [hs]
theorem px6_some {h : List UInt8} (hl : h.length = 6) (hg : good h 6 = 6) : px6 h = some (pv (fun i => (hv (h.getD i 0)).getD 0) 6 0, pv (fun i => (hv (h.getD i 0)).getD 0) 6 1, pv (fun i => (hv (h.getD i 0)).getD 0) 6 2) := by
  have hs := good_lt h 6
  rw [hg] at hs
  obtain ⟨a, b, c, d, e, f, rfl⟩ := six hl
  have h0 := hs 0 (by omega); have h1 := hs 1 (by omega); have h2 := hs 2 (by omega); have h3 := hs 3 (by omega); have h4 := hs 4 (by omega); have h5 := hs 5 (by omega)
  simp at h0 h1 h2 h3 h4 h5
  obtain ⟨x0, h0⟩ := Option.isSome_iff_exists.1 h0
  obtain ⟨x1, h1⟩ := Option.isSome_iff_exists.1 h1
  obtain ⟨x2, h2⟩ := Option.isSome_iff_exists.1 h2
  obtain ⟨x3, h3⟩ := Option.isSome_iff_exists.1 h3
  obtain ⟨x4, h4⟩ := Option.isSome_iff_exists.1 h4
  obtain ⟨x5, h5⟩ := Option.isSome_iff_exists.1 h5
  simp [px6, two, pv, h0, h1, h2, h3, h4, h5]
end Pr
/-- A run as cells. -/
def runCells : Option (Nat × Nat × Nat × Nat) → Array Value
  | none => #[.int .i64 0, .int .u8 0, .int .u8 0, .int .u8 0]
  | some (n, a, b, c) => #[.int .i64 n, .int .u8 a, .int .u8 b, .int .u8 c]
def RunPost (w : World) (r : Option (Nat × Nat × Nat × Nat)) (e : Ending) (w' : World) : Prop := e = .returned (.tuple #[.agg (runCells r), .bool r.isSome]) ∧ Below w.heap.size w w'
theorem Blk.four {w : World} {b : Nat} {t : TypeId} {x y z u : Value} (h : Blk w b #[x, y, z, u] t) : w.cell? ⟨b, 0, none⟩ = some x ∧ w.cell? ⟨b, 1, none⟩ = some y ∧ w.cell? ⟨b, 2, none⟩ = some z ∧ w.cell? ⟨b, 3, none⟩ = some u :=
  ⟨by rw [h.cell]; rfl, by rw [h.cell]; rfl, by rw [h.cell]; rfl, by rw [h.cell]; rfl⟩
theorem below_set4 {B : Nat} {w w' : World} (h : Below B w w') (b : Nat) (hb : B ≤ b) (v0 v1 v2 v3 : Value) : Below B w ((((w'.setCell ⟨b, 0, none⟩ v0).setCell ⟨b, 1, none⟩ v1).setCell ⟨b, 2, none⟩ v2).setCell ⟨b, 3, none⟩ v3) :=
  (((h.setCell (p := ⟨b, 0, none⟩) hb v0).setCell (p := ⟨b, 1, none⟩) hb v1).setCell (p := ⟨b, 2, none⟩) hb v2).setCell (p := ⟨b, 3, none⟩) hb v3
set_option maxRecDepth 100000 in
set_option maxHeartbeats 2000000 in
theorem readRun_no (s : List UInt8) (hs : s.length ≤ 1000000) (w : World) (hm : Mx w) (h : Pr.num4 (Lib.cut s [32]).1 = none ∨ (Lib.cut s [32]).2.1.length ≠ 6) : Calls Tryd.prog 26 #[.string (Tx.mk s)] w (RunPost w none) := by
  obtain ⟨W1, hW1, hR1, hz1, hB1⟩ := box w #[.int .i64 0, .int .u8 0, .int .u8 0, .int .u8 0] 59
  have H1 := Lib.hid hW1
  have hlen := cut_len s [32]
  have HC := Lib.hid (cut_is s [32] (by omega) W1 (hm.below hB1))
  have HN := Lib.hid (fun W => number_is (Lib.cut s [32]).1 (by omega) W)
  clear hW1
  generalize (Lib.cut s [32]).1 = A at *
  generalize (Lib.cut s [32]).2.1 = X at *
  generalize (Lib.cut s [32]).2.2 = B at *
  have hsz := Tx.mk_size X
  cases hn : Pr.num4 A with
  | none =>
    unfold NumPost at HN
    rw [hn] at HN
    simp only [Option.getD_none, Option.isSome_none, Int.natCast_zero] at HN
    clear h hn
    go_enter Tryd.func26, Tryd.ntmps26
    go_wp2_with fail
    rw [H1.out]
    go_wp2_with (first
      | (go_at_call 35; (with_reducible refine HC.out.mono ?_); rintro e w2 ⟨rfl, hB2⟩)
      | (go_at_call 36; (with_reducible refine (HN.out _).mono ?_); rintro e w3 ⟨rfl, hB3⟩; have hB13 := below_up hB2 hB3; obtain ⟨r0, r1, r2, r3⟩ := (hR1.keep hB13).four; have rf := (hR1.keep hB13).free))
    exact bodyPost_ret (v := .tuple #[.agg #[.int .i64 0, .int .u8 0, .int .u8 0, .int .u8 0], .bool false]) (by simp [results, Tryd.results26, go_sem, r0, r1, r2, r3]) rfl ⟨rfl, below_set4 (below_up hB1 hB13) w.heap.size (Nat.le_refl _) _ _ _ _⟩
  | some n =>
    have h6 : ¬ X.length = 6 := by rcases h with h | h; rw [hn] at h; cases h; exact h
    have h6' : ¬ (X.length : Int) = 6 := by omega
    unfold NumPost at HN
    rw [hn] at HN
    simp only [Option.getD_some, Option.isSome_some] at HN
    clear h hn
    go_enter Tryd.func26, Tryd.ntmps26
    go_wp2_with fail
    rw [H1.out]
    go_wp2_with (first
      | (go_at_call 35; (with_reducible refine HC.out.mono ?_); rintro e w2 ⟨rfl, hB2⟩)
      | (go_at_call 36; (with_reducible refine (HN.out _).mono ?_); rintro e w3 ⟨rfl, hB3⟩; have hB13 := below_up hB2 hB3; obtain ⟨r0, r1, r2, r3⟩ := (hR1.keep hB13).four; have rf := (hR1.keep hB13).free))
    exact bodyPost_ret (v := .tuple #[.agg #[.int .i64 0, .int .u8 0, .int .u8 0, .int .u8 0], .bool false]) (by simp [results, Tryd.results26, go_sem, r0, r1, r2, r3]) rfl ⟨rfl, below_set4 (below_up hB1 hB13) w.heap.size (Nat.le_refl _) _ _ _ _⟩
/-- The box of the run behind k digits. -/
def runAt (n : Nat) (D : Nat → Nat) : Nat → Array Value
  | 0 => #[.int .i64 n, .int .u8 0, .int .u8 0, .int .u8 0]
  | 1 => #[.int .i64 n, .int .u8 (D 0), .int .u8 0, .int .u8 0]
  | 2 => #[.int .i64 n, .int .u8 (16 * (D 0 : Int) + (D 1 : Int)), .int .u8 0, .int .u8 0]
  | 3 => #[.int .i64 n, .int .u8 (16 * (D 0 : Int) + (D 1 : Int)), .int .u8 (D 2), .int .u8 0]
  | 4 => #[.int .i64 n, .int .u8 (16 * (D 0 : Int) + (D 1 : Int)), .int .u8 (16 * (D 2 : Int) + (D 3 : Int)), .int .u8 0]
  | 5 => #[.int .i64 n, .int .u8 (16 * (D 0 : Int) + (D 1 : Int)), .int .u8 (16 * (D 2 : Int) + (D 3 : Int)), .int .u8 (D 4)]
  | _ => #[.int .i64 n, .int .u8 (16 * (D 0 : Int) + (D 1 : Int)), .int .u8 (16 * (D 2 : Int) + (D 3 : Int)), .int .u8 (16 * (D 4 : Int) + (D 5 : Int))]
set_option maxRecDepth 100000 in
set_option maxHeartbeats 4000000 in
theorem readRun_six (s : List UInt8) (hs : s.length ≤ 1000000) (w : World) (hm : Mx w) (n : Nat) (h : Pr.num4 (Lib.cut s [32]).1 = some n) (h6 : (Lib.cut s [32]).2.1.length = 6) :
    Calls Tryd.prog 26 #[.string (Tx.mk s)] w (RunPost w ((Pr.px6 (Lib.cut s [32]).2.1).map fun p => (n, p))) := by
  obtain ⟨W1, hW1, hR1, hz1, hB1⟩ := box w #[.int .i64 0, .int .u8 0, .int .u8 0, .int .u8 0] 59
  have H1 := Lib.hid hW1
  have hlen := cut_len s [32]
  have HC := Lib.hid (cut_is s [32] (by omega) W1 (hm.below hB1))
  have HN := Lib.hid (fun W => number_is (Lib.cut s [32]).1 (by omega) W)
  have hn4 := Pr.num4_lt h
  clear hW1
  generalize (Lib.cut s [32]).1 = A at *
  generalize (Lib.cut s [32]).2.1 = X at *
  generalize (Lib.cut s [32]).2.2 = B at *
  have hsz := Tx.mk_size X
  have h6' : (X.length : Int) = 6 := by omega
  unfold NumPost at HN
  rw [h] at HN
  simp only [Option.getD_some, Option.isSome_some] at HN
  obtain ⟨D, hD⟩ : ∃ D : Nat → Nat, (fun i => (Pr.hv (X.getD i 0)).getD 0) = D := ⟨_, rfl⟩
  obtain ⟨G, hG⟩ : ∃ G, Pr.good X 6 = G := ⟨_, rfl⟩
  have hG6 : G ≤ 6 := by rw [← hG]; exact Pr.good_le X 6
  have HD : Hid (∀ k, k < G → D k < 16) := by
    intro k hk
    have := Pr.good_lt X 6 k (by omega)
    obtain ⟨d, hd⟩ := Option.isSome_iff_exists.1 this
    rw [← hD]; simp only [hd, Option.getD_some]; exact Pr.hv_lt hd
  have HIX : Hid (∀ k : Nat, k < 6 → ∀ V : World, (Instr.index 9 (.string (Tx.mk X)) (.int .i64 (k : Int))).run Tryd.prog V = .ok (.int .u8 ((X.getD k 0).toNat : Int)) V) := by
    intro k hk V
    exact strIdx X k _ (by rw [List.getD_eq_getElem?_getD, List.getElem?_eq_getElem (by omega)]; rfl) V
  have HIB : Hid (∀ k : Nat, k < 6 → k ≤ G → ∀ V : World, Calls Tryd.prog 37 #[.string ⟨#[48, 49, 50, 51, 52, 53, 54, 55, 56, 57, 97, 98, 99, 100, 101, 102]⟩, .int .u8 (X.getD k 0).toNat] V fun e w' => e = .returned (.int .i64 (if k < G then (D k : Int) else -1)) ∧ w' = V) := by
    intro k hk6 hk V
    refine (idxByte_is Pr.hexd (X.getD k 0) V).mono ?_
    rintro e w' ⟨rfl, rfl⟩
    refine ⟨?_, rfl⟩
    rw [Pr.index_hex]
    by_cases hk2 : k < G
    · obtain ⟨d, hd⟩ := Option.isSome_iff_exists.1 (Pr.good_lt X 6 k (by omega))
      rw [if_pos hk2, hd, ← hD]; simp only [hd, Option.getD_some]
    · obtain rfl : k = G := by omega
      have := Pr.good_stop X 6 (by omega)
      rw [hG] at this
      rw [if_neg hk2, this]
  have HP : Hid ((G = 6 → (Pr.px6 X).map (fun p => (n, p)) = some (n, 16 * D 0 + D 1, 16 * D 2 + D 3, 16 * D 4 + D 5)) ∧ (G < 6 → (Pr.px6 X).map (fun p => (n, p)) = none)) := by
    refine ⟨fun e => ?_, fun e => ?_⟩
    · rw [Pr.px6_some h6 (by omega), hD]; rfl
    · rw [Pr.px6_none h6 (by omega)]; rfl
  clear hG hD h h6
  go_enter Tryd.func26, Tryd.ntmps26
  go_wp2_with fail
  rw [H1.out]
  go_wp2_with (first
    | (go_at_call 35; (with_reducible refine HC.out.mono ?_); rintro e w2 ⟨rfl, hB2⟩)
    | (go_at_call 36; (with_reducible refine (HN.out _).mono ?_); rintro e w3 ⟨rfl, hB3⟩; have hB13 := below_up hB2 hB3; obtain ⟨r0, r1, r2, r3⟩ := (hR1.keep hB13).four; have rf := (hR1.keep hB13).free))
  have hlt : w.heap.size < w3.heap.size := by have := hB13.size; omega
  go_loopg [35] 6 (fun gk i wr => ∃ k : Nat, k ≤ 6 ∧ gk = 6 - k ∧ i = .int .i64 k ∧ k ≤ G ∧ Blk wr w.heap.size #[.int .i64 0, .int .u8 0, .int .u8 0, .int .u8 0] 59 ∧ Blk wr w3.heap.size (runAt n D k) 59 ∧ Below w.heap.size w wr)
  case atStart => exact ⟨0, by omega, rfl, rfl, by omega, (hR1.keep hB13).alloc _, Blk.new _ _ _, (below_up hB1 hB13).alloc (below_up hB1 hB13).size _⟩
  case round =>
    obtain ⟨k, hk6, rfl, rfl, hkG, hR, hX, hB⟩ := hrel
    have hks : k = 0 ∨ k = 1 ∨ k = 2 ∨ k = 3 ∨ k = 4 ∨ k = 5 ∨ k = 6 := by omega
    rcases hks with rfl | rfl | rfl | rfl | rfl | rfl | rfl
    · -- the round of digit 0; 1: the byte's place in the box; have ho := or4z (D 0) hd: the facts of the bits
      simp only [Int.natCast_zero]
      obtain ⟨x0, x1, x2, x3⟩ := (show Blk wr w3.heap.size _ 59 from hX).four
      have xf := hX.free
      have hix : ∀ V : World, (Instr.index 9 (.string (Tx.mk X)) (.int .i64 0)).run Tryd.prog V = .ok (.int .u8 ((X.getD 0 0).toNat : Int)) V := HIX.out 0 (by omega)
      have HI := Lib.hid (HIB.out 0 (by omega) (by omega))
      obtain ⟨r0, r1, r2, r3⟩ := hR.four
      have rf := hR.free
      by_cases hg : 0 < G
      · rw [if_pos hg] at HI
        have hd := HD.out 0 hg
        have ho := or4z (D 0) hd
        generalize (X.getD 0 0).toNat = cn at *
        go_wp2_with (go_at_call 37; (with_reducible refine (HI.out _).mono ?_); rintro e w4 ⟨rfl, rfl⟩)
        go_roundg (6 - (0 + 1))
        case rel => exact ⟨0 + 1, by omega, rfl, by go_num, by omega, hR.setOther (by simp; omega) _, (hX.set 1 _), hB.setCell (p := ⟨w3.heap.size, 1, none⟩) (by simp; omega) _⟩
        case measure => omega
      · rw [if_neg hg] at HI
        generalize (X.getD 0 0).toNat = cn at *
        go_wp2_with (go_at_call 37; (with_reducible refine (HI.out _).mono ?_); rintro e w4 ⟨rfl, rfl⟩)
        rw [HP.out.2 (by omega)]
        exact bodyPost_ret (v := .tuple #[.agg #[.int .i64 0, .int .u8 0, .int .u8 0, .int .u8 0], .bool false]) (by simp [results, Tryd.results26, go_sem, r0, r1, r2, r3]) rfl ⟨rfl, below_set4 (hB) w.heap.size (Nat.le_refl _) _ _ _ _⟩
    · -- the round of digit 1; 1: the byte's place in the box; have ho := or4 (D 0) (D 1) (HD.out 0 (by omega)) hd; have hs4 := shl4 (D 0) (HD.out 0 (by omega)): the facts of the bits
      simp only [Int.natCast_one]
      obtain ⟨x0, x1, x2, x3⟩ := (show Blk wr w3.heap.size _ 59 from hX).four
      have xf := hX.free
      have hix : ∀ V : World, (Instr.index 9 (.string (Tx.mk X)) (.int .i64 1)).run Tryd.prog V = .ok (.int .u8 ((X.getD 1 0).toNat : Int)) V := HIX.out 1 (by omega)
      have HI := Lib.hid (HIB.out 1 (by omega) (by omega))
      obtain ⟨r0, r1, r2, r3⟩ := hR.four
      have rf := hR.free
      by_cases hg : 1 < G
      · rw [if_pos hg] at HI
        have hd := HD.out 1 hg
        have ho := or4 (D 0) (D 1) (HD.out 0 (by omega)) hd; have hs4 := shl4 (D 0) (HD.out 0 (by omega))
        generalize (X.getD 1 0).toNat = cn at *
        go_wp2_with (go_at_call 37; (with_reducible refine (HI.out _).mono ?_); rintro e w4 ⟨rfl, rfl⟩)
        go_roundg (6 - (1 + 1))
        case rel => exact ⟨1 + 1, by omega, rfl, by go_num, by omega, hR.setOther (by simp; omega) _, (hX.set 1 _), hB.setCell (p := ⟨w3.heap.size, 1, none⟩) (by simp; omega) _⟩
        case measure => omega
      · rw [if_neg hg] at HI
        generalize (X.getD 1 0).toNat = cn at *
        go_wp2_with (go_at_call 37; (with_reducible refine (HI.out _).mono ?_); rintro e w4 ⟨rfl, rfl⟩)
        rw [HP.out.2 (by omega)]
        exact bodyPost_ret (v := .tuple #[.agg #[.int .i64 0, .int .u8 0, .int .u8 0, .int .u8 0], .bool false]) (by simp [results, Tryd.results26, go_sem, r0, r1, r2, r3]) rfl ⟨rfl, below_set4 (hB) w.heap.size (Nat.le_refl _) _ _ _ _⟩
    · -- the round of digit 2; 2: the byte's place in the box; have ho := or4z (D 2) hd: the facts of the bits
      simp only [Int.cast_ofNat_Int]
      obtain ⟨x0, x1, x2, x3⟩ := (show Blk wr w3.heap.size _ 59 from hX).four
      have xf := hX.free
      have hix : ∀ V : World, (Instr.index 9 (.string (Tx.mk X)) (.int .i64 2)).run Tryd.prog V = .ok (.int .u8 ((X.getD 2 0).toNat : Int)) V := HIX.out 2 (by omega)
      have HI := Lib.hid (HIB.out 2 (by omega) (by omega))
      obtain ⟨r0, r1, r2, r3⟩ := hR.four
      have rf := hR.free
      by_cases hg : 2 < G
      · rw [if_pos hg] at HI
        have hd := HD.out 2 hg
        have ho := or4z (D 2) hd
        generalize (X.getD 2 0).toNat = cn at *
        go_wp2_with (go_at_call 37; (with_reducible refine (HI.out _).mono ?_); rintro e w4 ⟨rfl, rfl⟩)
        go_roundg (6 - (2 + 1))
        case rel => exact ⟨2 + 1, by omega, rfl, by go_num, by omega, hR.setOther (by simp; omega) _, (hX.set 2 _), hB.setCell (p := ⟨w3.heap.size, 2, none⟩) (by simp; omega) _⟩
        case measure => omega
      · rw [if_neg hg] at HI
        generalize (X.getD 2 0).toNat = cn at *
        go_wp2_with (go_at_call 37; (with_reducible refine (HI.out _).mono ?_); rintro e w4 ⟨rfl, rfl⟩)
        rw [HP.out.2 (by omega)]
        exact bodyPost_ret (v := .tuple #[.agg #[.int .i64 0, .int .u8 0, .int .u8 0, .int .u8 0], .bool false]) (by simp [results, Tryd.results26, go_sem, r0, r1, r2, r3]) rfl ⟨rfl, below_set4 (hB) w.heap.size (Nat.le_refl _) _ _ _ _⟩
    · -- the round of digit 3; 2: the byte's place in the box; have ho := or4 (D 2) (D 3) (HD.out 2 (by omega)) hd; have hs4 := shl4 (D 2) (HD.out 2 (by omega)): the facts of the bits
      simp only [Int.cast_ofNat_Int]
      obtain ⟨x0, x1, x2, x3⟩ := (show Blk wr w3.heap.size _ 59 from hX).four
      have xf := hX.free
      have hix : ∀ V : World, (Instr.index 9 (.string (Tx.mk X)) (.int .i64 3)).run Tryd.prog V = .ok (.int .u8 ((X.getD 3 0).toNat : Int)) V := HIX.out 3 (by omega)
      have HI := Lib.hid (HIB.out 3 (by omega) (by omega))
      obtain ⟨r0, r1, r2, r3⟩ := hR.four
      have rf := hR.free
      by_cases hg : 3 < G
      · rw [if_pos hg] at HI
        have hd := HD.out 3 hg
        have ho := or4 (D 2) (D 3) (HD.out 2 (by omega)) hd; have hs4 := shl4 (D 2) (HD.out 2 (by omega))
        generalize (X.getD 3 0).toNat = cn at *
        go_wp2_with (go_at_call 37; (with_reducible refine (HI.out _).mono ?_); rintro e w4 ⟨rfl, rfl⟩)
        go_roundg (6 - (3 + 1))
        case rel => exact ⟨3 + 1, by omega, rfl, by go_num, by omega, hR.setOther (by simp; omega) _, (hX.set 2 _), hB.setCell (p := ⟨w3.heap.size, 2, none⟩) (by simp; omega) _⟩
        case measure => omega
      · rw [if_neg hg] at HI
        generalize (X.getD 3 0).toNat = cn at *
        go_wp2_with (go_at_call 37; (with_reducible refine (HI.out _).mono ?_); rintro e w4 ⟨rfl, rfl⟩)
        rw [HP.out.2 (by omega)]
        exact bodyPost_ret (v := .tuple #[.agg #[.int .i64 0, .int .u8 0, .int .u8 0, .int .u8 0], .bool false]) (by simp [results, Tryd.results26, go_sem, r0, r1, r2, r3]) rfl ⟨rfl, below_set4 (hB) w.heap.size (Nat.le_refl _) _ _ _ _⟩
    · -- the round of digit 4; 3: the byte's place in the box; have ho := or4z (D 4) hd: the facts of the bits
      simp only [Int.cast_ofNat_Int]
      obtain ⟨x0, x1, x2, x3⟩ := (show Blk wr w3.heap.size _ 59 from hX).four
      have xf := hX.free
      have hix : ∀ V : World, (Instr.index 9 (.string (Tx.mk X)) (.int .i64 4)).run Tryd.prog V = .ok (.int .u8 ((X.getD 4 0).toNat : Int)) V := HIX.out 4 (by omega)
      have HI := Lib.hid (HIB.out 4 (by omega) (by omega))
      obtain ⟨r0, r1, r2, r3⟩ := hR.four
      have rf := hR.free
      by_cases hg : 4 < G
      · rw [if_pos hg] at HI
        have hd := HD.out 4 hg
        have ho := or4z (D 4) hd
        generalize (X.getD 4 0).toNat = cn at *
        go_wp2_with (go_at_call 37; (with_reducible refine (HI.out _).mono ?_); rintro e w4 ⟨rfl, rfl⟩)
        go_roundg (6 - (4 + 1))
        case rel => exact ⟨4 + 1, by omega, rfl, by go_num, by omega, hR.setOther (by simp; omega) _, (hX.set 3 _), hB.setCell (p := ⟨w3.heap.size, 3, none⟩) (by simp; omega) _⟩
        case measure => omega
      · rw [if_neg hg] at HI
        generalize (X.getD 4 0).toNat = cn at *
        go_wp2_with (go_at_call 37; (with_reducible refine (HI.out _).mono ?_); rintro e w4 ⟨rfl, rfl⟩)
        rw [HP.out.2 (by omega)]
        exact bodyPost_ret (v := .tuple #[.agg #[.int .i64 0, .int .u8 0, .int .u8 0, .int .u8 0], .bool false]) (by simp [results, Tryd.results26, go_sem, r0, r1, r2, r3]) rfl ⟨rfl, below_set4 (hB) w.heap.size (Nat.le_refl _) _ _ _ _⟩
    · -- the round of digit 5; 3: the byte's place in the box; have ho := or4 (D 4) (D 5) (HD.out 4 (by omega)) hd; have hs4 := shl4 (D 4) (HD.out 4 (by omega)): the facts of the bits
      simp only [Int.cast_ofNat_Int]
      obtain ⟨x0, x1, x2, x3⟩ := (show Blk wr w3.heap.size _ 59 from hX).four
      have xf := hX.free
      have hix : ∀ V : World, (Instr.index 9 (.string (Tx.mk X)) (.int .i64 5)).run Tryd.prog V = .ok (.int .u8 ((X.getD 5 0).toNat : Int)) V := HIX.out 5 (by omega)
      have HI := Lib.hid (HIB.out 5 (by omega) (by omega))
      obtain ⟨r0, r1, r2, r3⟩ := hR.four
      have rf := hR.free
      by_cases hg : 5 < G
      · rw [if_pos hg] at HI
        have hd := HD.out 5 hg
        have ho := or4 (D 4) (D 5) (HD.out 4 (by omega)) hd; have hs4 := shl4 (D 4) (HD.out 4 (by omega))
        generalize (X.getD 5 0).toNat = cn at *
        go_wp2_with (go_at_call 37; (with_reducible refine (HI.out _).mono ?_); rintro e w4 ⟨rfl, rfl⟩)
        go_roundg (6 - (5 + 1))
        case rel => exact ⟨5 + 1, by omega, rfl, by go_num, by omega, hR.setOther (by simp; omega) _, (hX.set 3 _), hB.setCell (p := ⟨w3.heap.size, 3, none⟩) (by simp; omega) _⟩
        case measure => omega
      · rw [if_neg hg] at HI
        generalize (X.getD 5 0).toNat = cn at *
        go_wp2_with (go_at_call 37; (with_reducible refine (HI.out _).mono ?_); rintro e w4 ⟨rfl, rfl⟩)
        rw [HP.out.2 (by omega)]
        exact bodyPost_ret (v := .tuple #[.agg #[.int .i64 0, .int .u8 0, .int .u8 0, .int .u8 0], .bool false]) (by simp [results, Tryd.results26, go_sem, r0, r1, r2, r3]) rfl ⟨rfl, below_set4 (hB) w.heap.size (Nat.le_refl _) _ _ _ _⟩
    · simp only [Int.cast_ofNat_Int]
      obtain ⟨x0, x1, x2, x3⟩ := (show Blk wr w3.heap.size _ 59 from hX).four
      obtain ⟨r0, r1, r2, r3⟩ := hR.four
      have rf := hR.free
      go_wp2_with fail
      rw [HP.out.1 (by omega)]
      exact bodyPost_ret (v := .tuple #[.agg (runCells (some (n, 16 * D 0 + D 1, 16 * D 2 + D 3, 16 * D 4 + D 5))), .bool true]) (by simp [results, Tryd.results26, go_sem, runCells, r0, r1, r2, r3]) rfl ⟨rfl, below_set4 hB w.heap.size (Nat.le_refl _) _ _ _ _⟩
/-- readRun reads a line of a run. -/
theorem readRun_is (s : List UInt8) (hs : s.length ≤ 1000000) (w : World) (hm : Mx w) : Calls Tryd.prog 26 #[.string (Tx.mk s)] w (RunPost w (Pr.run s)) := by
  unfold Pr.run
  cases hn : Pr.num4 (Lib.cut s [32]).1 with
  | none => exact readRun_no s hs w hm (.inl hn)
  | some n =>
    by_cases h6 : (Lib.cut s [32]).2.1.length = 6
    · exact readRun_six s hs w hm n hn h6
    · have : Pr.px6 (Lib.cut s [32]).2.1 = none := by
        unfold Pr.px6
        split
        · rename_i h; rw [h] at h6; exact absurd rfl h6
        · rfl
      rw [this]
      exact readRun_no s hs w hm (.inr h6)
end Go.Proofs.YtpgjpnnjlilokaaDoor

/- Parts of the proof, no condition: RepR, RepQ, CxWord, CxMath, RepN, ToldN, CxSmall. -/
import Derived.Test.YtimjmjmpaicdbaaGreatDoorPc13
import Derived.Test.YtimjmjmpaicdbaaGreatDoorPc7
import Derived.Lib.Join
import Derived.Lib.ItoaLen
import Derived.Test.YtimjmjmpaicdbaaGreatDoorPc6
import Derived.Test.YtimjmjmpaicdbaaGreatDoorPc12
import Derived.Deep.AppendSrc
import Derived.Test.YtimjmjmpaicdbaaGreatDoorPc8
import Derived.Lib.QuietBelow
set_option maxRecDepth 100000
set_option maxHeartbeats 4000000
set_option linter.unusedSimpArgs false
set_option linter.unusedVariables false
namespace Go.Proofs.YtimjmjmpaicdbaaGreatDoor
open Go.RowKit Go.Sort
def Rep.sp (b : UInt8) : Bool := b == 34 || b == 92
def Rep.esc (l : List UInt8) : List UInt8 := l.flatMap fun b => if Rep.sp b then [92, b] else [b]
def Rep.cnt (l : List UInt8) : Nat := l.countP Rep.sp
theorem Rep.esc_snoc (l : List UInt8) (b : UInt8) : Rep.esc (l ++ [b]) = Rep.esc l ++ (if Rep.sp b then [92, b] else [b]) := by simp [Rep.esc]
theorem Rep.cnt_snoc (l : List UInt8) (b : UInt8) : Rep.cnt (l ++ [b]) = Rep.cnt l + (if Rep.sp b then 1 else 0) := by
 unfold Rep.cnt; rw [List.countP_append]; by_cases h : Rep.sp b <;> simp [h]
theorem Rep.esc_len (l : List UInt8) : (Rep.esc l).length = l.length + Rep.cnt l := by
 induction l with
 | nil => rfl
 | cons b l ih =>
   have h1 : Rep.esc (b :: l) = (if Rep.sp b then [92, b] else [b]) ++ Rep.esc l := by simp [Rep.esc]
   have h2 : Rep.cnt (b :: l) = Rep.cnt l + (if Rep.sp b then 1 else 0) := by unfold Rep.cnt; rw [List.countP_cons]
   rw [h1, h2, List.length_append, ih, List.length_cons]
   by_cases h : Rep.sp b = true
   ·rw [if_pos h, if_pos h]; simp; omega
   ·rw [if_neg h, if_neg h]; simp; omega
theorem Rep.esc_same {l : List UInt8} (h : Rep.cnt l = 0) : Rep.esc l = l := by
 induction l with
 | nil => rfl
 | cons b l ih =>
   have h2 : Rep.cnt (b :: l) = Rep.cnt l + (if Rep.sp b then 1 else 0) := by unfold Rep.cnt; rw [List.countP_cons]
   have hb : ¬ Rep.sp b = true := fun e => by rw [h2, if_pos e] at h; omega
   rw [h2, if_neg hb] at h
   have h1 : Rep.esc (b :: l) = (if Rep.sp b then [92, b] else [b]) ++ Rep.esc l := by simp [Rep.esc]
   rw [h1, if_neg hb, ih h]; rfl
theorem Rep.Fin.hit {W : World} {bs h : Nat} (k : Rep.Fin W bs h) (x : UInt8) (hx : Rep.sp x = true) :
  ∃ p c, W.cell? ⟨bs, x.toNat, none⟩ = some (.slice (some ⟨p, 0, none⟩) 2 c) ∧ W.cell? ⟨p, 0, none⟩ = some (.int .u8 92) ∧ W.cell? ⟨p, 1, none⟩ = some (.int .u8 (x.toNat : Int)) ∧ p < W.heap.size := by
 obtain ⟨f, h1, h2, ⟨p3, c3, e3, _, g3, _, _, a3, b3⟩, ⟨p9, c9, e9, _, g9, _, _, a9, b9⟩, _⟩ := k
 unfold Rep.sp at hx
 rw [Bool.or_eq_true, beq_iff_eq, beq_iff_eq] at hx
 rcases hx with rfl | rfl
 ·exact ⟨p3, c3, (h1.cell 34 (by omega)).trans (by rw [e3]), a3, b3, g3⟩
 ·exact ⟨p9, c9, (h1.cell 92 (by omega)).trans (by rw [e9]), a9, b9, g9⟩
theorem Rep.Fin.miss {W : World} {bs h : Nat} (k : Rep.Fin W bs h) (x : UInt8) (hx : Rep.sp x = false) : W.cell? ⟨bs, x.toNat, none⟩ = some (.slice none 0 0) := by
 obtain ⟨f, h1, h2, _⟩ := k
 unfold Rep.sp at hx
 rw [Bool.or_eq_false_iff] at hx
 have e1 : x.toNat ≠ 34 := fun e => by
  have : x = 34 := UInt8.toNat_inj.1 e
  rw [this] at hx; simp at hx
 have e2 : x.toNat ≠ 92 := fun e => by
  have : x = 92 := UInt8.toNat_inj.1 e
  rw [this] at hx; simp at hx
 rw [h1.cell _ x.toNat_lt, h2 _ e1 e2]
theorem Rep.Fin.lt {W : World} {bs h : Nat} (k : Rep.Fin W bs h) : bs < W.heap.size := by
 obtain ⟨f, h1, _⟩ := k; exact h1.lt
theorem Rep.cnt_two (l : List UInt8) : Rep.cnt l = Lib.countByte l 92 + Lib.countByte l 34 := by
 unfold Rep.cnt Lib.countByte
 induction l with
 | nil => rfl
 | cons b l ih =>
   rw [List.countP_cons, List.count_cons, List.count_cons, ih]
   unfold Rep.sp
   by_cases h1 : b = 92
   ·subst h1; simp; omega
   ·by_cases h2 : b = 34
    ·subst h2; simp; omega
    ·simp [h1, h2]
theorem count_one (s : ByteArray) (c : UInt8) (w : World) : Calls Tryz.prog 322 #[.string s, .string ⟨#[c]⟩] w fun e w' => e = .returned (.int .i64 (Lib.countByte s.data.toList c)) ∧ w' = w :=
 show Calls Tryz.prog 322 #[.string s, .string ⟨#[c]⟩] w fun e w' => e = .returned (.int .i64 (Lib.countByte s.data.toList c)) ∧ w' = w from Any.strings_Count_one Lay.countS s c w
theorem Rep.count_le (l : List UInt8) (c : UInt8) : Lib.countByte l c ≤ l.length := List.count_le_length
theorem Rep.idx (s : ByteArray) (j : Nat) (b : UInt8) (hb : s.data.toList[j]? = some b) (V : World) : (Instr.index 9 (.string s) (.int .i64 (j : Int))).run Tryz.prog V = .ok (.int .u8 (b.toNat : Int)) V := by
 have h := strIdx s.data.toList j b hb V
 rwa [show Tx.mk s.data.toList = s by simp [Tx.mk]] at h
theorem Rep.nenil (w : World) : (binOp .neq 62 (.slice none 0 0) (.slice none 0 0)).run Tryz.prog w = .ok (.bool false) w := by kernel_rfl
theorem Rep.nesome (a : Addr) (n c : Nat) (w : World) : (binOp .neq 62 (.slice (some a) n c) (.slice none 0 0)).run Tryz.prog w = .ok (.bool true) w := by kernel_rfl
theorem Rep.cnt_take (l : List UInt8) (j : Nat) : Rep.cnt (l.take j) ≤ j := by
 have h1 : Rep.cnt (l.take j) ≤ (l.take j).length := List.countP_le_length
 rw [List.length_take] at h1; omega
def Rep.u8s (l : List UInt8) : List Value := l.map fun b => .int .u8 (b.toNat : Int)
theorem Rep.Fin.keep {W W' : World} {bs h : Nat} (k : Rep.Fin W bs h) (hb : Below W.heap.size W W') : Rep.Fin W' bs h := by
 have hs := hb.size
 obtain ⟨f, h1, h2, ⟨p3, c3, e3, q3, g3, u3, v3, a3, b3⟩, ⟨p9, c9, e9, q9, g9, u9, v9, a9, b9⟩, h5, h6, h7⟩ := k
 exact ⟨f, h1.of_block (hb.block _ h1.lt), h2, ⟨p3, c3, e3, q3, by omega, u3, v3, (hb.cell (p := ⟨p3, 0, none⟩) g3).trans a3, (hb.cell (p := ⟨p3, 1, none⟩) g3).trans b3⟩,
  ⟨p9, c9, e9, q9, by omega, u9, v9, (hb.cell (p := ⟨p9, 0, none⟩) g9).trans a9, (hb.cell (p := ⟨p9, 1, none⟩) g9).trans b9⟩, (hb.cell (p := ⟨h, 0, none⟩) h7).trans h5, (hb.cell (p := ⟨h, 1, none⟩) h7).trans h6, by omega⟩
theorem Rep.make (n : Nat) (hn : n ≤ 10000000000) (V : World) : (Instr.makeSlice 62 (.int .i64 (n : Int)) (.int .i64 (n : Int))).run Tryz.prog V = .ok (.slice (some ⟨V.heap.size, 0, none⟩) n n) (V.alloc (.cells (madeCells #[.int .u8 0] n) 5)) :=
 run_make_row' 62 5 (.int .u8 0) 1 Tryz.underlying62 (by kernel_rfl) rfl .i64 .i64 n (by omega) (by omega) V
theorem own_put {w : World} {B g n cap i : Nat} {e : TypeId} {A tl : List Value} {x : Value} (h : OwnC w B e 1 g n cap (A ++ x :: tl)) (hi : A.length = i) (v : Value) : OwnC (w.setCell ⟨g, i, none⟩ v) B e 1 g n cap (A ++ v :: tl) := by
 obtain ⟨cur, hB, hc, hn, hx, hs, ht, hl⟩ := h
 refine own_make hB (Joins.block_setCell hc v) hn hx (by simpa using hs) ?_
 rw [Array.toList_setIfInBounds, List.take_set, ht, ← hi, List.set_append_right _ _ (Nat.le_refl _), Nat.sub_self]
 rfl
theorem Rep.u8s_append (a b : List UInt8) : Rep.u8s (a ++ b) = Rep.u8s a ++ Rep.u8s b := by simp [Rep.u8s]
theorem Rep.u8s_len (a : List UInt8) : (Rep.u8s a).length = a.length := by simp [Rep.u8s]
theorem Rep.add0 (g k : Nat) : (⟨g, 0, none⟩ : Addr).add k = ⟨g, k, none⟩ := by unfold Addr.add; split <;> simp_all
def Rep.Sm (w wr : World) : Prop := wr.heap = w.heap ∧ Below w.heap.size w wr
theorem Rep.Sm.refl (w : World) : Rep.Sm w w := ⟨rfl, Below.refl _ _⟩
theorem Rep.Sm.drew {w wr : World} (h : Rep.Sm w wr) : Rep.Sm w wr.drew := ⟨h.1, h.2.drew⟩
theorem Rep.Sm.cell {w wr : World} (h : Rep.Sm w wr) (a : Addr) : wr.cell? a = w.cell? a := World.cell?_of_block (by rw [h.1])
theorem Rep.Sm.fin {w wr : World} {bs hh : Nat} (h : Rep.Sm w wr) (k : Rep.Fin w bs hh) : Rep.Fin wr bs hh := by
 obtain ⟨f, h1, h2, ⟨p3, c3, e3, q3, g3, u3, v3, a3, b3⟩, ⟨p9, c9, e9, q9, g9, u9, v9, a9, b9⟩, h5, h6, h7⟩ := k
 exact ⟨f, h1.of_block (by rw [h.1]), h2, ⟨p3, c3, e3, q3, by rw [h.1]; exact g3, u3, v3, by rw [h.cell]; exact a3, by rw [h.cell]; exact b3⟩, ⟨p9, c9, e9, q9, by rw [h.1]; exact g9, u9, v9, by rw [h.cell]; exact a9, by rw [h.cell]; exact b9⟩, by rw [h.cell]; exact h5, by rw [h.cell]; exact h6, by rw [h.1]; exact h7⟩
theorem replaceB_is (bs h : Nat) (s : ByteArray) (w : World) (hs : s.size ≤ 1000000000) (hF : Rep.Fin w bs h) :
  Calls Tryz.prog 320 #[.pointer (some ⟨bs, 0, none⟩), .string s] w fun e w' => e = .returned (.string ⟨(Rep.esc s.data.toList).toArray⟩) ∧ Below w.heap.size w w' := by
 have cl : w.cell? ⟨bs, 256, none⟩ = some (.slice (some ⟨h, 0, none⟩) 2 2) := by obtain ⟨f, h1, _⟩ := hF; exact h1.list
 obtain ⟨t0, t1⟩ : w.cell? ⟨h, 0, none⟩ = some (.string ⟨#[92]⟩) ∧ w.cell? ⟨h, 1, none⟩ = some (.string ⟨#[34]⟩) := by obtain ⟨f, _, _, _, _, h5, h6, _⟩ := hF; exact ⟨h5, h6⟩
 have HF := Lib.hid hF
 obtain ⟨c9, hc9⟩ : ∃ c, c = Lib.countByte s.data.toList 92 := ⟨_, rfl⟩
 obtain ⟨c3, hc3⟩ : ∃ c, c = Lib.countByte s.data.toList 34 := ⟨_, rfl⟩
 have HC9 : Hid (∀ V, Calls Tryz.prog 322 #[.string s, .string ⟨#[92]⟩] V fun e w' => e = .returned (.int .i64 c9) ∧ V = w') := Lib.hid fun V => (count_one s 92 V).mono fun e w' h => ⟨by rw [h.1, hc9], h.2.symm⟩
 have HC3 : Hid (∀ V, Calls Tryz.prog 322 #[.string s, .string ⟨#[34]⟩] V fun e w' => e = .returned (.int .i64 c3) ∧ V = w') := Lib.hid fun V => (count_one s 34 V).mono fun e w' h => ⟨by rw [h.1, hc3], h.2.symm⟩
 have k9 : c9 ≤ s.size := by rw [hc9]; exact Rep.count_le _ _
 have k3 : c3 ≤ s.size := by rw [hc3]; exact Rep.count_le _ _
 have HK := Lib.hid (show Rep.cnt s.data.toList = c9 + c3 by rw [hc9, hc3]; exact Rep.cnt_two _)
 obtain ⟨p9, g9, d9, _, _, _⟩ := hF.hit 92 (by decide)
 obtain ⟨p3, g3, d3, _, _, _⟩ := hF.hit 34 (by decide)
 simp only [show (92 : UInt8).toNat = 92 from rfl, show (34 : UInt8).toNat = 34 from rfl] at d9 d3
 have CL := Lib.hid (And.intro cl (And.intro t0 (And.intro t1 (And.intro d9 d3))))
 clear hF hc9 hc3 t0 t1 d9 d3
 have x9 : (((⟨#[92]⟩ : ByteArray)[0]'(by decide)).toNat : Int) = 92 := rfl
 have x3 : (((⟨#[34]⟩ : ByteArray)[0]'(by decide)).toNat : Int) = 34 := rfl
 have e1 : IntKind.i64.wrap ((s.size : Int) + (c9 : Int)) = (s.size : Int) + (c9 : Int) := by rw [IntKind.wrap_i64]; omega
 have e2 : IntKind.i64.wrap ((s.size : Int) + (c9 : Int) + (c3 : Int)) = (s.size : Int) + (c9 : Int) + (c3 : Int) := by rw [IntKind.wrap_i64]; omega
 have e3 : IntKind.i64.wrap (c9 : Int) = (c9 : Int) := by rw [IntKind.wrap_i64]; omega
 have e4 : IntKind.i64.wrap (c3 : Int) = (c3 : Int) := by rw [IntKind.wrap_i64]; omega
 go_enter Tryz.func320, Tryz.ntmps320
 go_upto_if 26 with fail
 generalize decide ((16 : Int) ≤ (s.size : Int)) = qq
 clear cl
 go_cut [5, 6, 26] from 27 (fun s5 s6 s26 wx => s5 = .int .i64 ((s.size : Int) + (c9 : Int) + (c3 : Int)) ∧ s6 = .bool (decide (0 < c9 + c3)) ∧ s26 = .bool qq ∧ Rep.Sm w wx)
 case first =>
  cases qq
  case true =>
   have cl := CL.out.1
   go_wp2_with fail
   go_loopg [5, 6, 32] 2 (fun gk s5 s6 i wr => ∃ j : Nat, gk = 2 - j ∧ (j = 0 ∧ i = .int .i64 0 ∧ s5 = .int .i64 s.size ∧ s6 = .bool false ∨ j = 1 ∧ i = .int .i64 1 ∧ s5 = .int .i64 ((s.size : Int) + (c9 : Int)) ∧ s6 = .bool (decide (0 < c9)) ∨ j = 2 ∧ i = .int .i64 2 ∧ s5 = .int .i64 ((s.size : Int) + (c9 : Int) + (c3 : Int)) ∧ s6 = .bool (decide (0 < c9 + c3))) ∧ Rep.Sm w wr)
   case atStart => exact ⟨0, rfl, .inl ⟨rfl, rfl, rfl, rfl⟩, Rep.Sm.refl w⟩
   case round =>
    clear cl
    obtain ⟨j, rfl, ⟨rfl, rfl, rfl, rfl⟩ | ⟨rfl, rfl, rfl, rfl⟩ | ⟨rfl, rfl, rfl, rfl⟩, hSM⟩ := hrel
    ·have HSM := Lib.hid hSM; clear hSM
     have cl := (HSM.out.cell _).trans CL.out.1
     have t0 := (HSM.out.cell _).trans CL.out.2.1
     have t1 := (HSM.out.cell _).trans CL.out.2.2.1
     have d9 := (HSM.out.cell _).trans CL.out.2.2.2.1
     have d3 := (HSM.out.cell _).trans CL.out.2.2.2.2
     by_cases hc : c9 = 0
     ·subst hc
      go_wp2_with (go_at_call 322; refine (HC9.out _).mono ?_; rintro e w5 ⟨rfl, rfl⟩)
      go_roundg (2 - (0 + 1))
      case rel => exact ⟨1, rfl, .inr (.inl ⟨rfl, rfl, by simp, by simp⟩), HSM.out⟩
      case measure => omega
     ·have hne : ((c9 : Int) != 0) = true := by simpa using hc
      go_upto_region 9 with (go_at_call 322; refine (HC9.out _).mono ?_; rintro e w5 ⟨rfl, rfl⟩)
      go_region
      go_wp2_with fail
      go_roundg (2 - (0 + 1))
      case rel => exact ⟨1, rfl, .inr (.inl ⟨rfl, rfl, rfl, by simp; omega⟩), HSM.out.drew⟩
      case measure => omega
    ·have HSM := Lib.hid hSM; clear hSM
     have cl := (HSM.out.cell _).trans CL.out.1
     have t0 := (HSM.out.cell _).trans CL.out.2.1
     have t1 := (HSM.out.cell _).trans CL.out.2.2.1
     have d9 := (HSM.out.cell _).trans CL.out.2.2.2.1
     have d3 := (HSM.out.cell _).trans CL.out.2.2.2.2
     by_cases hc : c3 = 0
     ·subst hc
      go_wp2_with (go_at_call 322; refine (HC3.out _).mono ?_; rintro e w5 ⟨rfl, rfl⟩)
      go_roundg (2 - (1 + 1))
      case rel => exact ⟨2, rfl, .inr (.inr ⟨rfl, rfl, by simp, by simp⟩), HSM.out⟩
      case measure => omega
     ·have hne : ((c3 : Int) != 0) = true := by simpa using hc
      go_upto_region 9 with (go_at_call 322; refine (HC3.out _).mono ?_; rintro e w5 ⟨rfl, rfl⟩)
      go_region
      go_wp2_with fail
      go_roundg (2 - (1 + 1))
      case rel => exact ⟨2, rfl, .inr (.inr ⟨rfl, rfl, rfl, by simp; omega⟩), HSM.out.drew⟩
      case measure => omega
    ·go_wp2_with fail
     go_meet
     case rel => exact ⟨rfl, rfl, rfl, hSM⟩
  case false =>
   go_wp2_with fail
   go_loopg [5, 6, 10] s.size (fun gk s5 s6 i wr => ∃ j : Nat, j ≤ s.size ∧ gk = s.size - j ∧ i = .int .i64 j ∧ s5 = .int .i64 ((s.size : Int) + (Rep.cnt (s.data.toList.take j) : Int)) ∧ s6 = .bool (decide (0 < Rep.cnt (s.data.toList.take j))) ∧ Rep.Sm w wr)
   case atStart => exact ⟨0, by omega, rfl, rfl, by simp [Rep.cnt], by simp [Rep.cnt], Rep.Sm.refl w⟩
   case round =>
    obtain ⟨j, hj, rfl, rfl, rfl, rfl, hSM⟩ := hrel
    by_cases hlt : j < s.size
    ·obtain ⟨b, hb⟩ : ∃ b, s.data.toList[j]? = some b := ⟨_, List.getElem?_eq_getElem (by simpa using hlt)⟩
     have hix := Rep.idx s j b hb
     have hbd := Rep.cnt_take s.data.toList j
     have hsn : Rep.cnt (s.data.toList.take (j + 1)) = Rep.cnt (s.data.toList.take j) + (if Rep.sp b then 1 else 0) := by rw [List.take_add_one, hb]; exact Rep.cnt_snoc _ _
     have HSN := Lib.hid hsn; clear hsn
     have HSM := Lib.hid hSM
     have hFj := hSM.fin HF.out
     clear hSM
     have hl1 : (j : Int) < (s.size : Int) := by omega
     have hw1 : IntKind.i64.wrap ((j : Int) + 1) = (j : Int) + 1 := by rw [IntKind.wrap_i64]; omega
     have HB := Lib.hid hb; clear hb
     generalize Rep.cnt (s.data.toList.take j) = cn at hbd HSN ⊢
     have hb6 : (b.toNat : Int) < 256 := by have := b.toNat_lt; omega
     by_cases hsp : Rep.sp b = true
     ·obtain ⟨p, c, dp, _, _, _⟩ := hFj.hit b hsp
      rw [if_pos hsp] at HSN
      have hne := Rep.nesome ⟨p, 0, none⟩ 2 c
      have hw2 : IntKind.i64.wrap ((s.size : Int) + (cn : Int) + 1) = (s.size : Int) + (cn : Int) + 1 := by rw [IntKind.wrap_i64]; omega
      clear hsp hFj
      go_wp2_with fail
      go_roundg (s.size - (j + 1))
      case rel => exact ⟨j + 1, by omega, rfl, by go_num, by rw [HSN.out]; first | rfl | (congr 1; first | omega | (rw [hw2]; omega)), by rw [HSN.out]; simp, HSM.out⟩
      case measure => omega
     ·have hsp' : Rep.sp b = false := by simpa using hsp
      have dp := hFj.miss b hsp'
      rw [if_neg hsp] at HSN
      have hne := Rep.nenil
      clear hsp hsp' hFj
      go_wp2_with fail
      go_roundg (s.size - (j + 1))
      case rel => exact ⟨j + 1, by omega, rfl, by go_num, by rw [HSN.out]; rfl, by rw [HSN.out]; rfl, HSM.out⟩
      case measure => omega
    ·have e : j = s.size := by omega
     subst e
     have hl : s.data.toList.take s.size = s.data.toList := List.take_of_length_le (by simp)
     rw [hl, HK.out]
     go_wp2_with fail
     go_meet
     case rel => exact ⟨by congr 1; omega, rfl, rfl, hSM⟩
 case rest =>
  obtain ⟨rfl, rfl, rfl, hSM⟩ := hcut
  have hF := hSM.fin HF.out
  by_cases hz : c9 + c3 = 0
  ·have e9 : c9 = 0 := by omega
   have e3' : c3 = 0 := by omega
   subst e9; subst e3'
   have HE := Lib.hid (Rep.esc_same (l := s.data.toList) (by rw [HK.out]))
   clear hz hF
   go_wp2_with fail
   go_ret
   refine ⟨?_, hSM.2⟩
   rw [HE.out]
   show Ending.returned (.string s) = _
   simp
  ·have hpos : decide (0 < c9 + c3) = true := by simp; omega
   rw [hpos]
   clear hpos hz
   have hmk := Rep.make (s.size + c9 + c3) (by omega) wc
   simp only [Int.natCast_add] at hmk
   go_upto_region 24 with fail
   all_goals
    have hlen : (Rep.esc s.data.toList).length = s.size + c9 + c3 := by rw [Rep.esc_len, HK.out]; simp; omega
    have hB0 : Below w.heap.size w (wc.alloc (.cells (madeCells #[.int .u8 0] (s.size + c9 + c3)) 5)) := hSM.2.alloc (by rw [hSM.1]; exact Nat.le_refl _) _
    have hgw : w.heap.size ≤ wc.heap.size := hSM.2.size
    have hO0 : OwnC (wc.alloc (.cells (madeCells #[.int .u8 0] (s.size + c9 + c3)) 5)) wc.heap.size 5 1 wc.heap.size (s.size + c9 + c3) (s.size + c9 + c3) (madeCells #[.int .u8 0] (s.size + c9 + c3)).toList := by
     have hsz : (madeCells #[.int .u8 0] (s.size + c9 + c3)).size = s.size + c9 + c3 := by simp [madeCells]
     exact own_make (Nat.le_refl _) (heap_alloc_last wc _) (Nat.le_refl _) (by simp [maxLen]; omega) (by rw [hsz]; omega) (List.take_of_length_le (by simp only [Array.length_toList, hsz]; omega))
    generalize wc.alloc (.cells (madeCells #[.int .u8 0] (s.size + c9 + c3)) 5) = Wb at hB0 hO0 ⊢
    clear hmk hF
    generalize wc.heap.size = g at hgw hO0 ⊢
    clear hSM
    have HLEN := Lib.hid hlen; clear hlen
    have hNb : s.size + c9 + c3 ≤ 10000000000 := by omega
    generalize s.size + c9 + c3 = N at hO0 HLEN hNb ⊢
    clear e1 e2 e3 e4 k9 k3 HC9 HC3 x9 x3
    go_loopg [13, 14] s.size (fun gk s13 s14 wr => ∃ (j : Nat) (tl : List Value), j ≤ s.size ∧ gk = s.size - j ∧ s14 = .int .i64 j ∧ s13 = .int .i64 ((Rep.esc (s.data.toList.take j)).length : Int) ∧ OwnC wr g 5 1 g N N (Rep.u8s (Rep.esc (s.data.toList.take j)) ++ tl) ∧ Below w.heap.size w wr)
    case atStart => exact ⟨0, _, by omega, rfl, rfl, rfl, hO0, hB0⟩
    case round =>
     obtain ⟨j, tl, hj, rfl, rfl, rfl, hO, hB⟩ := hrel
     have HO := Lib.hid hO; have HB := Lib.hid hB
     by_cases hlt : j < s.size
     ·obtain ⟨b, hb⟩ : ∃ b, s.data.toList[j]? = some b := ⟨_, List.getElem?_eq_getElem (by simpa using hlt)⟩
      have hix := Rep.idx s j b hb
      have hsn : Rep.esc (s.data.toList.take (j + 1)) = Rep.esc (s.data.toList.take j) ++ (if Rep.sp b then [92, b] else [b]) := by rw [List.take_add_one, hb]; exact Rep.esc_snoc _ _
      have hpre : (Rep.esc (s.data.toList.take (j + 1))).length ≤ N := by
       have h1 : Rep.esc (s.data.toList.take (j + 1)) ++ Rep.esc (s.data.toList.drop (j + 1)) = Rep.esc s.data.toList := by unfold Rep.esc; rw [← List.flatMap_append, List.take_append_drop]
       have h2 := congrArg List.length h1
       rw [List.length_append, HLEN.out] at h2; omega
      have hF := HF.out.keep hB
      have hlo : (Rep.u8s (Rep.esc (s.data.toList.take j)) ++ tl).length = N := by obtain ⟨_, _, _, _, _, _, _, hl⟩ := hO; rw [hl]; omega
      have hl1 : (j : Int) < (s.size : Int) := by omega
      have hw1 : IntKind.i64.wrap ((j : Int) + 1) = (j : Int) + 1 := by rw [IntKind.wrap_i64]; omega
      have hb6 : (b.toNat : Int) < 256 := by have := b.toNat_lt; omega
      rw [List.length_append, Rep.u8s_len] at hlo
      have HSN := Lib.hid hsn
      generalize hE : Rep.esc (s.data.toList.take j) = E at hO hlo hsn HO HSN ⊢
      clear hB
      by_cases hsp : Rep.sp b = true
      ·obtain ⟨p, c, dp, d0, d1, hpl⟩ := hF.hit b hsp
       rw [if_pos hsp] at HSN hsn
       rw [hsn, List.length_append] at hpre
       simp only [List.length_cons, List.length_nil] at hpre
       have hne := Rep.nesome ⟨p, 0, none⟩ 2 c
       have hOd : OwnC wr.drew g 5 1 g N N (Rep.u8s E ++ tl) := hO.of_block rfl
       obtain ⟨w5, hcp, hO5, hG5⟩ := own_copy (P := Tryz.prog) hOd 62 62 Tryz.underlying62 (by kernel_rfl) E.length (N - E.length) (N - E.length) ⟨p, 0, none⟩ 2 c [.int .u8 92, .int .u8 (b.toNat : Int)] (by
         have : Nat.min 2 (N - E.length) = 2 := Nat.min_eq_left (by omega)
         rw [this]; rfl) (fun k v hv => by
         match k, hv with
         | 0, hv => simp only [List.getElem?_cons_zero, Option.some.injEq] at hv; subst hv; exact d0
         | 1, hv => simp only [List.getElem?_cons_succ, List.getElem?_cons_zero, Option.some.injEq] at hv; subst hv; exact d1
         | k + 2, hv => simp at hv) (by simp; omega) (by simp [Value.oneCell'])
       have hm2 : Nat.min 2 (N - E.length) = 2 := Nat.min_eq_left (by omega)
       rw [hm2] at hcp
       have hk1 : (E.length : Int) ≤ (N : Int) := by omega
       have hk2 : ((N : Int) - (E.length : Int)).toNat = N - E.length := by omega
       have hw2 : IntKind.i64.wrap ((E.length : Int) + 2) = (E.length : Int) + 2 := by rw [IntKind.wrap_i64]; omega
       have hnE : (N = E.length) = False := eq_false (by omega)
       have HO5 := Lib.hid hO5
       clear hsp hF hsn hE hO hO5 hOd
       go_wp2_with fail
       go_region_law (first | (refine step_copy_run rfl _ _ _ _ rfl _ _ rfl rfl (hcp _) ?_))
       all_goals
        go_wp2_with fail
        go_roundg (s.size - (j + 1))
        case rel => exact ⟨j + 1, tl.drop 2, by omega, rfl, by go_num, by rw [HSN.out, List.length_append]; rfl, by
         rw [HSN.out, Rep.u8s_append, List.append_assoc]
         have h5 := HO5.out
         rw [List.take_append_of_le_length (by rw [Rep.u8s_len]; exact Nat.le_refl _), List.take_of_length_le (by rw [Rep.u8s_len]; exact Nat.le_refl _), List.append_assoc, List.drop_append, List.drop_eq_nil_of_le (by rw [Rep.u8s_len]; simp), List.nil_append, Rep.u8s_len] at h5
         rw [show E.length + [Value.int .u8 92, Value.int .u8 (b.toNat : Int)].length - E.length = 2 by simp] at h5
         exact h5, HB.out.drew.grown hG5 (HB.out.size) (fun k e => by cases e; exact hgw)⟩
        case measure => omega
      ·have hsp' : Rep.sp b = false := by simpa using hsp
       have dp := hF.miss b hsp'
       rw [if_neg hsp] at HSN hsn
       rw [hsn, List.length_append] at hpre
       simp only [List.length_singleton] at hpre
       have hne := Rep.nenil
       obtain ⟨x, tl', rfl⟩ : ∃ x tl', tl = x :: tl' := by
        cases tl with
        | nil => simp at hlo; omega
        | cons x tl' => exact ⟨x, tl', rfl⟩
       have hcx := hO.cellAt E.length (by omega)
       rw [List.getElem?_append_right (by rw [Rep.u8s_len]; exact Nat.le_refl _), Rep.u8s_len, Nat.sub_self] at hcx
       simp only [List.getElem?_cons_zero] at hcx
       have hzx : wr.frozen? ⟨g, E.length, none⟩ = false := by obtain ⟨cur, _, hc, _⟩ := hO; exact frozen_of hc _
       have hi0 : (E.length : Int) < (N : Int) := by omega
       have hw2 : IntKind.i64.wrap ((E.length : Int) + 1) = (E.length : Int) + 1 := by rw [IntKind.wrap_i64]; omega
       clear hsp hsp' hF hsn hE
       clear hO
       go_wp2_with fail
       go_roundg (s.size - (j + 1))
       case rel => exact ⟨j + 1, tl', by omega, rfl, by go_num, by rw [HSN.out, List.length_append]; rfl, by rw [HSN.out, Rep.u8s_append, List.append_assoc]; exact own_put HO.out (Rep.u8s_len _) _, HB.out.setCell (p := ⟨g, E.length, none⟩) hgw _⟩
       case measure => omega
     ·have e : j = s.size := by omega
      subst e
      have hl : s.data.toList.take s.size = s.data.toList := List.take_of_length_le (by simp)
      rw [hl] at hO ⊢
      have hlo : (Rep.u8s (Rep.esc s.data.toList) ++ tl).length = N := by obtain ⟨_, _, _, _, _, _, _, h⟩ := hO; rw [h]; omega
      rw [List.length_append, Rep.u8s_len, HLEN.out] at hlo
      have htl : tl = [] := List.eq_nil_of_length_eq_zero (by omega)
      subst htl
      rw [List.append_nil] at hO
      have hcv : (convert 62 9 (.slice (some ⟨g, 0, none⟩) N N)).run Tryz.prog wr = .ok (.string ⟨(Rep.esc s.data.toList).toArray⟩) wr := by
       have := run_convert_bytes_back (P := Tryz.prog) wr 62 9 5 ⟨g, 0, none⟩ N (Rep.esc s.data.toList) Tryz.underlying62 Tryz.underlying5 Tryz.underlying9 (fun k hk => by
        have h1 := hO.cellAt k (by rw [HLEN.out] at hk; omega)
        rw [show (⟨g, 0, none⟩ : Addr).add k = ⟨g, k, none⟩ from Rep.add0 g k]
        rw [h1]; simp [Rep.u8s, List.getElem?_eq_getElem hk])
       rwa [HLEN.out] at this
      clear hO
      go_wp2_with fail
      go_ret
      exact ⟨rfl, HB.out⟩
theorem Rep.meth (a : Addr) (n : Nat) (W : World) : (method (n + 1) 251 (.pointer (some a)) "Replace").run Tryz.prog W = .ok (320, .pointer (some a)) W := by kernel_rfl
theorem replace_is {cp : Nat} (b o : Nat) (s : ByteArray) (w : World) (hs : s.size ≤ 1000000000) (hB : Blk w b #[.int .u32 0, .int .i32 0, .int .u32 0, .nilIface, .slice (some ⟨o, 0, none⟩) 4 cp] 191)
  (s0 : w.cell? ⟨o, 0, none⟩ = some (.string ⟨#[34]⟩)) (s1 : w.cell? ⟨o, 1, none⟩ = some (.string ⟨#[92, 34]⟩)) (s2 : w.cell? ⟨o, 2, none⟩ = some (.string ⟨#[92]⟩)) (s3 : w.cell? ⟨o, 3, none⟩ = some (.string ⟨#[92, 92]⟩)) (ho : o < w.heap.size) (hob : o ≠ b) :
  Calls Tryz.prog 99 #[.pointer (some ⟨b, 0, none⟩), .string s] w fun e w' => e = .returned (.string ⟨(Rep.esc s.data.toList).toArray⟩) ∧ Below b w w' := by
 have hb := hB.lt
 obtain ⟨c0, c1, c2, c3, c4⟩ : w.cell? ⟨b, 0, none⟩ = some (.int .u32 0) ∧ w.cell? ⟨b, 1, none⟩ = some (.int .i32 0) ∧ w.cell? ⟨b, 2, none⟩ = some (.int .u32 0) ∧ w.cell? ⟨b, 3, none⟩ = some .nilIface ∧ w.cell? ⟨b, 4, none⟩ = some (.slice (some ⟨o, 0, none⟩) 4 cp) :=
  ⟨(hB.cell 0).trans rfl, (hB.cell 1).trans rfl, (hB.cell 2).trans rfl, (hB.cell 3).trans rfl, (hB.cell 4).trans rfl⟩
 have HD := Lib.hid (do_is b o w .nilIface c0 c1 c3 c4 s0 s1 s2 s3 ho hb (fun k => hB.frozen k) hob)
 have hmf : ∀ (fn : Fn) (first cap : Array Value) (w : World), (Instr.makeFunc fn first cap).run Tryz.prog w = .ok (.func fn first cap) w := fun _ _ _ _ => rfl
 have hme := Rep.meth
 go_enter Tryz.func99, Tryz.ntmps99
 go_wp2_with (first | (go_at_call 154; refine HD.out.mono ?_; rintro e w2 ⟨rfl, q3, hF, hBl⟩) | (go_at_call 320; refine (replaceB_is _ _ s _ hs hF).mono ?_; rintro e w3 ⟨rfl, hB3⟩))
 all_goals
  go_ret
  exact ⟨rfl, hBl.trans (hB3.mono (by have := hBl.size; omega))⟩
end Go.Proofs.YtimjmjmpaicdbaaGreatDoor
namespace Go.Proofs.YtimjmjmpaicdbaaGreatDoor
open Go.RowKit Go.Sort Go.Shelf
namespace Cx
def word (op : Int) : List UInt8 :=
 if op = 1 then [97, 108, 108, 40] else
 if op = 2 then [97, 110, 121, 40] else
 if op = 3 then [110, 111, 116, 40] else
 if op = 4 then [116, 97, 103, 32] else
 if op = 5 then [115, 97, 121, 115, 32] else
 if op = 6 then [112, 101, 114, 115, 111, 110, 32] else
 if op = 7 then [115, 116, 97, 114, 115, 32] else
 if op = 8 then [116, 97, 107, 101, 110, 32] else
 if op = 9 then [116, 97, 108, 108] else
 if op = 10 then [119, 105, 100, 101] else
 if op = 11 then [115, 113, 117, 97, 114, 101] else
 if op = 12 then [116, 117, 114, 110, 101, 100] else
 if op = 13 then [112, 108, 97, 99, 101, 100] else
 if op = 14 then [119, 105, 116, 104, 105, 110, 32] else
 if op = 15 then [98, 111, 120, 32] else
 if op = 16 then [104, 105, 100, 100, 101, 110] else []
def qt (l : List UInt8) : List UInt8 := [34] ++ Rep.esc l ++ [34]
def pl (a o : Int) : List UInt8 := Lib.itoa a ++ [32] ++ Lib.itoa o
def jn (f : Nat → List UInt8) (n : Nat) : List UInt8 := Lib.join ((List.range n).map f) [44, 32]
theorem joinTail_snoc (sep : List UInt8) (r : List (List UInt8)) (y : List UInt8) : Lib.joinTail sep (r ++ [y]) = Lib.joinTail sep r ++ sep ++ y := by simp [Lib.joinTail]
theorem join_snoc (l : List (List UInt8)) (sep y : List UInt8) (h : l ≠ []) : Lib.join (l ++ [y]) sep = Lib.join l sep ++ sep ++ y := by
 cases l with
 | nil => exact absurd rfl h
 | cons x r => rw [List.cons_append, Lib.join_cons, Lib.join_cons, joinTail_snoc]; simp
theorem jn_zero (f : Nat → List UInt8) : jn f 0 = [] := rfl
theorem jn_one (f : Nat → List UInt8) : jn f 1 = f 0 := by unfold jn; exact Lib.join_one _ _
theorem jn_succ (f : Nat → List UInt8) {n : Nat} (h : 0 < n) : jn f (n + 1) = jn f n ++ [44, 32] ++ f n := by
 unfold jn
 rw [List.range_succ, List.map_append, List.map_cons, List.map_nil, join_snoc]
 intro e
 have := congrArg List.length e
 simp at this; omega
def cntK (f : Nat → Nat) : Nat → Nat
 | 0 => 0
 | n + 1 => cntK f n + f n
theorem jn_len (f : Nat → List UInt8) : ∀ n, (jn f n).length ≤ 2 * n + cntK (fun i => (f i).length) n
 | 0 => by simp [jn_zero, cntK]
 | n + 1 => by
   have ih := jn_len f n
   rw [cntK]
   by_cases h : 0 < n
   ·rw [jn_succ f h, List.length_append, List.length_append]; simp; omega
   ·obtain rfl : n = 0 := by omega
    rw [jn_one]; omega
theorem cntK_le {f g : Nat → Nat} (k : Nat) : ∀ n, (∀ i, i < n → f i ≤ k * g i) → cntK f n ≤ k * cntK g n
 | 0, _ => by simp [cntK]
 | n + 1, h => by
   have h1 := cntK_le k n fun i hi => h i (by omega)
   have h2 := h n (by omega)
   rw [cntK, cntK, Nat.mul_add]; omega
theorem cntK_each {f : Nat → Nat} : ∀ n i, i < n → f i ≤ cntK f n
 | 0, _, h => by omega
 | n + 1, i, h => by
   rw [cntK]
   by_cases e : i = n
   ·subst e; omega
   ·have := cntK_each (f := f) n i (by omega); omega
theorem esc_le (l : List UInt8) : (Rep.esc l).length ≤ 2 * l.length := by
 have h1 := Rep.esc_len l
 have h2 : Rep.cnt l ≤ l.length := List.countP_le_length
 omega
theorem word_len (op : Int) : (word op).length ≤ 7 := by
 by_cases h1 : op = 1
 ·subst h1; decide
 by_cases h2 : op = 2
 ·subst h2; decide
 by_cases h3 : op = 3
 ·subst h3; decide
 by_cases h4 : op = 4
 ·subst h4; decide
 by_cases h5 : op = 5
 ·subst h5; decide
 by_cases h6 : op = 6
 ·subst h6; decide
 by_cases h7 : op = 7
 ·subst h7; decide
 by_cases h8 : op = 8
 ·subst h8; decide
 by_cases h9 : op = 9
 ·subst h9; decide
 by_cases h10 : op = 10
 ·subst h10; decide
 by_cases h11 : op = 11
 ·subst h11; decide
 by_cases h12 : op = 12
 ·subst h12; decide
 by_cases h13 : op = 13
 ·subst h13; decide
 by_cases h14 : op = 14
 ·subst h14; decide
 by_cases h15 : op = 15
 ·subst h15; decide
 by_cases h16 : op = 16
 ·subst h16; decide
 unfold word
 rw [if_neg h1, if_neg h2, if_neg h3, if_neg h4, if_neg h5, if_neg h6, if_neg h7, if_neg h8, if_neg h9, if_neg h10, if_neg h11, if_neg h12, if_neg h13, if_neg h14, if_neg h15, if_neg h16]; decide
theorem itoa_len {n : Int} (h : -180000000 ≤ n ∧ n ≤ 6311433599) : (Lib.itoa n).length ≤ 21 := Lib.itoa_length_le n (by omega) (by omega)
end Cx
namespace Cx
noncomputable def spT (F T : Int) : List UInt8 := Classical.choose (spans_both2 F T)
noncomputable def spE (F T : Int) : Int := Classical.choose (Classical.choose_spec (spans_both2 F T))
theorem sp_is (F T : Int) : (∀ w, Tx.Tab w → Mx w → Calls Tryz.prog 59 #[.agg #[.int .i64 F, .int .i64 T]] w fun r w' => r = .returned (.tuple #[.string (Tx.mk (spT F T)), .int .i64 (spE F T)]) ∧ Below w.heap.size w w') ∧
  (∀ w, Mx w → Calls Tryz.prog 63 #[.agg #[.int .i64 F, .int .i64 T]] w fun r w' => r = .returned (.tuple #[.string (Tx.mk (spT F T)), .int .i64 (spE F T)]) ∧ Below w.heap.size w w') ∧ (spE F T = 0 → Sp.span (spT F T) = (F, T, 0)) ∧ (spT F T).length ≤ 22 ∧ (Ev.mom F = true → Ev.mom T = true → F ≤ T → spE F T = 0 ∨ spE F T = 1) :=
 Classical.choose_spec (Classical.choose_spec (spans_both2 F T))
noncomputable def leafT (op : Int) (text : ByteArray) (low high : Int) (lat lon : Nat → Int) : List UInt8 :=
 if op = 4 then text.data.toList else if op = 5 then qt text.data.toList else if op = 6 then Lib.itoa low
 else if op = 7 then Lib.itoa low ++ [46, 46] ++ Lib.itoa high else if op = 8 then spT low high
 else if op = 14 then Lib.itoa low ++ [32, 111, 102, 32] ++ pl (lat 0) (lon 0)
 else if op = 15 then pl (lat 0) (lon 0) ++ [32] ++ pl (lat 1) (lon 1) else []
noncomputable def leafE (op low high : Int) : Int := if op = 8 then spE low high else 0
noncomputable def node (op : Int) (kn : Nat) (f : Nat → List UInt8 × Int) (text : ByteArray) (low high : Int) (lat lon : Nat → Int) : List UInt8 × Int :=
 if op ≤ 3 then (if ∀ i, i < kn → (f i).2 = 0 then (word op ++ jn (fun i => (f i).1) kn ++ [41], 0) else ([], 1))
 else (word op ++ leafT op text low high lat lon, leafE op low high)
noncomputable def txt : Cnd → List UInt8 × Int
 | .zero => ([], 0)
 | .mk op ka kn kc kids text low high aa an ac lat lon => node op kn (fun i => txt (kids i)) text low high lat lon
theorem txt_eq {c : Cnd} (h : c ≠ .zero) : txt c = node c.op c.kn (fun i => txt (c.kids i)) c.text c.low c.high c.lat c.lon := by
 cases c with
 | zero => exact absurd rfl h
 | mk => rfl
def cnt : Cnd → Nat
 | .zero => 0
 | .mk op ka kn kc kids text low high aa an ac lat lon => 1 + cntK (fun i => cnt (kids i)) kn
theorem cnt_eq {c : Cnd} (h : c ≠ .zero) : cnt c = 1 + cntK (fun i => cnt (c.kids i)) c.kn := by
 cases c with
 | zero => exact absurd rfl h
 | mk => rfl
theorem cnt_kid {c : Cnd} (h : c ≠ .zero) {i : Nat} (hi : i < c.kn) : cnt (c.kids i) ≤ cnt c := by
 have := cntK_each (f := fun i => cnt (c.kids i)) c.kn i hi
 rw [cnt_eq h]
 have h2 : cnt (c.kids i) ≤ cntK (fun i => cnt (c.kids i)) c.kn := this
 omega
theorem cnt_ahead (w : World) : ∀ (c : Cnd) (d : Nat) (l : List (Cnd × Nat)), c.In w → Cnd.errL 0 (Cnd.ahead c d l) = 0 → (Cnd.ahead c d l).length = l.length + cnt c := by
 refine Cnd.ind (fun d l h => absurd rfl h.ne) fun c hne ih d l hI he => ?_
 have hl : Cnd.errL 0 l = 0 := by
  by_cases g : Cnd.errL 0 l = 0
  ·exact g
  ·obtain ⟨m, hm⟩ := Cnd.ahead_pre c d l
   rw [hm, Cnd.errL_pre g] at he
   exact absurd he g
 have hle := Cnd.errL_le hl
 have hlt : l.length < 100 ∧ d ≤ 12 := by
  by_cases g : l.length = 100 ∨ 12 < d
  ·rw [Cnd.ahead_large hne hl g] at he; cases he
  ·omega
 rw [Cnd.ahead_eq hne (by omega) hlt.2] at he ⊢
 have hn : ∀ j, j ≤ c.kn → (Cnd.aheadK (fun i => Cnd.ahead (c.kids i) (d + 1)) j (l ++ [(c, d)])).length = l.length + 1 + cntK (fun i => cnt (c.kids i)) j := by
  intro j
  induction j with
  | zero => intro _; simp [Cnd.aheadK, cntK]
  | succ j ihj =>
    intro hj
    have h1 := ihj (by omega)
    have h0 : Cnd.errL 0 (Cnd.aheadK (fun i => Cnd.ahead (c.kids i) (d + 1)) (j + 1) (l ++ [(c, d)])) = 0 := by
     by_cases g : Cnd.errL 0 (Cnd.aheadK (fun i => Cnd.ahead (c.kids i) (d + 1)) (j + 1) (l ++ [(c, d)])) = 0
     ·exact g
     ·rw [Cnd.aheadK_more (fun i l => Cnd.ahead_pre _ _ _) _ (j + 1) c.kn (by omega) g] at he; exact absurd he g
    rw [Cnd.aheadK] at h0 ⊢
    rw [ih j (d + 1) _ (hI.each j (by omega)) h0, h1, cntK]
    omega
 rw [hn c.kn (Nat.le_refl _), cnt_eq hne]
 omega
theorem cnt_le {w : World} {c : Cnd} (hI : c.In w) (h : c.err = 0) : cnt c ≤ 100 := by
 have h1 := cnt_ahead w c 0 [] hI h
 have h2 := Cnd.errL_le (l := Cnd.ahead c 0 []) h
 simp at h1; omega
end Cx
theorem Cnd.Good.numOk {c : Cnd} (h : c.Good) : Cnd.numE c.op c.low c.high c.an c.lat c.lon = 0 := by
 have := h.bare
 rwa [Cnd.bareE_num h.op h.form h.textOk rfl] at this
theorem Cnd.Good.nums {c : Cnd} (h : c.Good) : ((Cnd.fLow c.op = true → Cnd.inB c.op c.low = true) ∧ (Cnd.fHigh c.op = true → Cnd.inB c.op c.high = true) ∧ (∀ k, k < c.an → Fd.placeB (c.lat k) (c.lon k) = true)) ∧ ¬ ((Cnd.fHigh c.op = true ∧ c.high < c.low) ∨ (c.op = 15 ∧ c.lat 1 < c.lat 0)) := by
 have h1 := h.numOk
 unfold Cnd.numE at h1
 split at h1
 ·rename_i g
  split at h1
  ·cases h1
  ·rename_i g2; exact ⟨g, g2⟩
 ·cases h1
namespace Cx
theorem lowB {c : Cnd} (h : c.Good) (hop : c.op = 6 ∨ c.op = 7 ∨ c.op = 8 ∨ c.op = 14) : 0 ≤ c.low ∧ c.low ≤ 6311433599 := by
 have h1 := h.nums.1.1 (by unfold Cnd.fLow; exact decide_eq_true hop)
 unfold Cnd.inB Cnd.least Cnd.most at h1
 rw [decide_eq_true_eq] at h1
 rcases hop with e | e | e | e <;> rw [e] at h1 <;> simp at h1 <;> omega
theorem highB {c : Cnd} (h : c.Good) (hop : c.op = 7 ∨ c.op = 8) : 0 ≤ c.high ∧ c.high ≤ 6311433599 ∧ c.low ≤ c.high := by
 have hf : Cnd.fHigh c.op = true := by unfold Cnd.fHigh; exact decide_eq_true hop
 have h1 := h.nums.1.2.1 hf
 have h2 : ¬ c.high < c.low := fun g => h.nums.2 (.inl ⟨hf, g⟩)
 unfold Cnd.inB Cnd.least Cnd.most at h1
 rw [decide_eq_true_eq] at h1
 rcases hop with e | e <;> rw [e] at h1 <;> simp at h1 <;> omega
theorem textB {c : Cnd} (h : c.Good) (hop : c.op = 4 ∨ c.op = 5) : c.text.size ≤ 200 := by
 rcases hop with e | e
 ·have h1 := h.textOk
  unfold Cnd.textE at h1
  rw [if_pos e] at h1
  by_cases g : Fd.nameB c.text = true
  ·unfold Fd.nameB at g
   have := (of_decide_eq_true g).1
   omega
  ·rw [if_neg g] at h1; cases h1
 ·exact (h.says e).2
theorem placeAt {c : Cnd} (h : c.Good) {k : Nat} (hk : k < c.an) : (-90000000 ≤ c.lat k ∧ c.lat k ≤ 90000000) ∧ (-180000000 ≤ c.lon k ∧ c.lon k ≤ 180000000) := by
 have h1 := h.nums.1.2.2 k hk
 unfold Fd.placeB at h1
 simp only [decide_eq_true_eq, Bool.and_eq_true] at h1
 omega
theorem leafE_or {c : Cnd} (h : c.Good) : leafE c.op c.low c.high = 0 ∨ leafE c.op c.low c.high = 1 := by
 unfold leafE
 by_cases e : c.op = 8
 ·rw [if_pos e]
  have h1 := lowB h (.inr (.inr (.inl e)))
  have h2 := highB h (.inr e)
  exact (sp_is _ _).2.2.2.2 ((Ev.mom_iff _).2 (by omega)) ((Ev.mom_iff _).2 (by omega)) h2.2.2
 ·rw [if_neg e]; exact .inl rfl
theorem txt_err {c : Cnd} (h : c.Good) : (txt c).2 = 0 ∨ (txt c).2 = 1 := by
 rw [txt_eq h.ne]
 unfold node
 split
 ·split
  ·exact .inl rfl
  ·exact .inr rfl
 ·exact leafE_or h
theorem pl_len {c : Cnd} (h : c.Good) {k : Nat} (hk : k < c.an) : (pl (c.lat k) (c.lon k)).length ≤ 43 := by
 have h1 := placeAt h hk
 have h2 := itoa_len (n := c.lat k) (by omega)
 have h3 := itoa_len (n := c.lon k) (by omega)
 unfold pl; simp; omega
theorem leaf_len {c : Cnd} (h : c.Good) : (leafT c.op c.text c.low c.high c.lat c.lon).length ≤ 402 := by
 unfold leafT
 have hts : c.text.data.toList.length = c.text.size := rfl
 split
 ·rename_i e; have := textB h (.inl e); omega
 split
 ·rename_i e; have := textB h (.inr e); have h2 := esc_le c.text.data.toList; unfold qt; simp only [List.length_append, List.length_cons, List.length_nil]; omega
 split
 ·rename_i e; have := lowB h (.inl e); have := itoa_len (n := c.low) (by omega); omega
 split
 ·rename_i e
  have h1 := lowB h (.inr (.inl e)); have h2 := highB h (.inl e)
  have := itoa_len (n := c.low) (by omega); have := itoa_len (n := c.high) (by omega)
  simp only [List.length_append, List.length_cons, List.length_nil]; omega
 split
 ·have := (sp_is c.low c.high).2.2.2.1; omega
 split
 ·rename_i e
  have h1 := lowB h (.inr (.inr (.inr e)))
  have := itoa_len (n := c.low) (by omega); have := pl_len h (k := 0) (by rw [h.at1 e]; omega)
  simp only [List.length_append, List.length_cons, List.length_nil]; omega
 split
 ·rename_i e
  have := pl_len h (k := 0) (by rw [h.at2 e]; omega); have := pl_len h (k := 1) (by rw [h.at2 e]; omega)
  simp only [List.length_append, List.length_cons, List.length_nil]; omega
 ·simp
theorem txt_len : ∀ (c : Cnd), c.Good → (txt c).1.length ≤ 512 * cnt c := by
 refine Cnd.ind (fun h => absurd rfl h.ne) fun c hne ih h => ?_
 rw [txt_eq hne, cnt_eq hne]
 unfold node
 have hw := word_len c.op
 split
 ·split
  ·have h1 := jn_len (fun i => (txt (c.kids i)).1) c.kn
   have h2 := cntK_le (f := fun i => (txt (c.kids i)).1.length) (g := fun i => cnt (c.kids i)) 512 c.kn fun i hi => ih i (h.each i hi)
   have h3 := h.few
   simp only [List.length_append, List.length_cons, List.length_nil]
   omega
  ·simp
 ·have := leaf_len h
  simp only [List.length_append]
  omega
theorem jn_kids {c : Cnd} (h : c.Good) (hc : cnt c ≤ 100) {j : Nat} (hj : j ≤ c.kn) : (jn (fun i => (txt (c.kids i)).1) j).length ≤ 60000 := by
 have h1 := jn_len (fun i => (txt (c.kids i)).1) j
 have h2 := cntK_le (f := fun i => (txt (c.kids i)).1.length) (g := fun i => cnt (c.kids i)) 512 j fun i hi => txt_len _ (h.each i (by omega))
 have h4 : cntK (fun i => cnt (c.kids i)) j ≤ cntK (fun i => cnt (c.kids i)) c.kn := by
  have : ∀ n, j ≤ n → cntK (fun i => cnt (c.kids i)) j ≤ cntK (fun i => cnt (c.kids i)) n := by
   intro n
   induction n with
   | zero => intro hn; obtain rfl : j = 0 := by omega
             exact Nat.le_refl _
   | succ n ihn =>
     intro hn
     by_cases e : j = n + 1
     ·subst e; exact Nat.le_refl _
     ·have := ihn (by omega); rw [cntK.eq_2]; omega
  exact this _ hj
 have h3 := h.few
 rw [cnt_eq h.ne] at hc
 omega
end Cx
end Go.Proofs.YtimjmjmpaicdbaaGreatDoor
namespace Go.Proofs.YtimjmjmpaicdbaaGreatDoor
open Go.RowKit Go.Sort
theorem newReplacer_is (o : Nat) (w : World) (s0 : w.cell? ⟨o, 0, none⟩ = some (.string ⟨#[34]⟩)) (s1 : w.cell? ⟨o, 1, none⟩ = some (.string ⟨#[92, 34]⟩)) (s2 : w.cell? ⟨o, 2, none⟩ = some (.string ⟨#[92]⟩)) (s3 : w.cell? ⟨o, 3, none⟩ = some (.string ⟨#[92, 92]⟩)) (ho : o < w.heap.size) :
  Calls Tryz.prog 98 #[.slice (some ⟨o, 0, none⟩) 4 4] w fun e w' => e = .returned (.pointer (some ⟨w.heap.size + 1, 0, none⟩)) ∧ Below w.heap.size w w' ∧ w.heap.size < w'.heap.size ∧ ∃ cp, Blk w' (w.heap.size + 1) #[.int .u32 0, .int .i32 0, .int .u32 0, .nilIface, .slice (some ⟨w.heap.size, 0, none⟩) 4 cp] 191 ∧
   w'.cell? ⟨w.heap.size, 0, none⟩ = some (.string ⟨#[34]⟩) ∧ w'.cell? ⟨w.heap.size, 1, none⟩ = some (.string ⟨#[92, 34]⟩) ∧ w'.cell? ⟨w.heap.size, 2, none⟩ = some (.string ⟨#[92]⟩) ∧ w'.cell? ⟨w.heap.size, 3, none⟩ = some (.string ⟨#[92, 92]⟩) := by
 go_enter Tryz.func98, Tryz.ntmps98
 go_wp2_with fail
 all_goals
  go_ret
  have hc : ∀ (w0 : World) (xs : Array Value) (ys : Array Value) (o2 : Obj) (k : Nat) (v : Value), xs[k]? = some v → ((w0.alloc (.cells (xs ++ ys) 9)).alloc o2).cell? ⟨w0.heap.size, k, none⟩ = some v := by
   intro w0 xs ys o2 k v hk
   rw [World.cell?_of_block (Below.heap_alloc _ _ _ (by simp)), World.cell?_alloc_mark, Array.getElem?_append_left (Array.getElem?_eq_some_iff.1 hk).1]
   exact hk
  have hb := Blk.new (w.alloc (.cells (#[Value.string ⟨#[34]⟩, .string ⟨#[92, 34]⟩, .string ⟨#[92]⟩, .string ⟨#[92, 92]⟩] ++ Builtin.zeroCells #[Value.string ⟨#[]⟩] ((Question.appendCap 4 0 9).cut (w.tape w.drawn (Question.appendCap 4 0 9)) - 4)) 9))
    #[.int .u32 0, .int .i32 0, .int .u32 0, .nilIface, .slice (some ⟨w.heap.size, 0, none⟩) 4 ((Question.appendCap 4 0 9).cut (w.tape w.drawn (Question.appendCap 4 0 9)))] 191
  simp only [World.size_alloc] at hb
  refine ⟨rfl, (((Below.refl _ _).alloc (Nat.le_refl _) _).alloc (by simp) _).drew, by simp; omega, ?_⟩
  exact ⟨_, hb, hc w _ _ _ 0 _ rfl, hc w _ _ _ 1 _ rfl, hc w _ _ _ 2 _ rfl, hc w _ _ _ 3 _ rfl⟩
theorem told_neg (i : Nat) (h0 : 1 ≤ i) (h1 : i ≤ 1000000000000) (w : World) :
  Calls Tryz.prog 36 #[.int .i64 (-(i : Int))] w fun e w' => e = .returned (.string (Tx.mk (45 :: Lib.decDigits i))) ∧ Below w.heap.size w w' := by
 have hdl := Tx.dl_le i (by omega)
 have hi0 : -(i : Int) < 0 := by omega
 have hi1 : (0 : Int) < (i : Int) := by omega
 have hi2 : 0 < i := h0
 go_enter Tryz.func36, Tryz.ntmps36
 go_wp2_with fail
 go_loopg [0, 3] i (fun gk a s wr => ∃ (k : Nat) (l : List UInt8), gk = k ∧ a = .int .i64 (-(k : Int)) ∧ s = .string (Tx.mk l) ∧ k ≤ i ∧ Lib.decDigits i = Lib.decDigits k ++ l ∧ Below w.heap.size w wr)
 case atStart => exact ⟨i, [], rfl, rfl, rfl, by omega, by simp, Below.refl _ _⟩
 case round =>
  obtain ⟨_, l, rfl, rfl, rfl, hki, hl, hB⟩ := hrel
  have hll : l.length ≤ 19 := by have := congrArg List.length hl; rw [List.length_append] at this; unfold Tx.dl at hdl; omega
  have hd : (UInt8.ofNat (48 + gk % 10)).toNat = 48 + gk % 10 := by simp only [UInt8.toNat_ofNat']; omega
  have hconv : (convert 62 9 (.slice (some ⟨wr.heap.size, 0, none⟩) 1 1)).run Tryz.prog (wr.alloc (.cells #[.int .u8 (48 + (gk : Int) % 10)] 5)) = .ok (.string (Tx.mk [UInt8.ofNat (48 + gk % 10)])) (wr.alloc (.cells #[.int .u8 (48 + (gk : Int) % 10)] 5)) :=
   run_convert_bytes_back _ 62 9 5 ⟨wr.heap.size, 0, none⟩ 1 [UInt8.ofNat (48 + gk % 10)] Tryz.underlying62 Tryz.underlying5 Tryz.underlying9 (fun j hj => by
    obtain rfl : j = 0 := by simpa using hj
    refine ((Blk.new wr #[.int .u8 (48 + (gk : Int) % 10)] 5).one).trans ?_
    simp only [List.getElem_cons_zero, hd]; rfl)
  have hcat : ∀ W, (Op.stringOp .add (Tx.mk [UInt8.ofNat (48 + gk % 10)]) (Tx.mk l)).run Tryz.prog W = .ok (.string (Tx.mk (UInt8.ofNat (48 + gk % 10) :: l))) W := fun W => by
   rw [run_string_add_sum W _ _ (by rw [Tx.mk_size, Tx.mk_size]; simp; omega), Tx.mk_append]; rfl
  have hmin : ∀ W, (Op.stringOp .add (Tx.mk [45]) (Tx.mk (UInt8.ofNat (48 + gk % 10) :: l))).run Tryz.prog W = .ok (.string (Tx.mk (45 :: UInt8.ofNat (48 + gk % 10) :: l))) W := fun W => by
   rw [run_string_add_sum W _ _ (by rw [Tx.mk_size, Tx.mk_size]; simp; omega), Tx.mk_append]; rfl
  have HL := Lib.hid hl
  have hB2 := hB.alloc hB.size (.cells #[.int .u8 (48 + (gk : Int) % 10)] 5)
  generalize Tx.mk [UInt8.ofNat (48 + gk % 10)] = D at *
  generalize hm : Tx.mk l = M at *
  generalize hm2 : Tx.mk (UInt8.ofNat (48 + gk % 10) :: l) = M2 at *
  generalize hm3 : Tx.mk (45 :: UInt8.ofNat (48 + gk % 10) :: l) = M3 at *
  have HM2 := Lib.hid hm2
  have HM3 := Lib.hid hm3
  clear hm2 hm3 hl hd
  have q1 : Int.tmod (-(gk : Int)) 10 = -((gk : Int) % 10) := by rw [Int.neg_tmod, Int.tmod_eq_emod_of_nonneg (by omega)]
  have q2 : Int.tdiv (-(gk : Int)) 10 = -((gk : Int) / 10) := by rw [Int.neg_tdiv, Int.tdiv_eq_ediv_of_nonneg (by omega)]
  have q4 : -(-((gk : Int) % 10)) = (gk : Int) % 10 := Int.neg_neg _
  by_cases hz : gk % 10 = 0
  ·have q3 : (gk : Int) % 10 = 0 := by omega
   simp only [q3, Int.add_zero] at hconv hB2
   by_cases hk : gk < 10
   ·have hk0 : (gk : Int) / 10 = 0 := by omega
    have HE : Hid (Lib.decDigits i = UInt8.ofNat (48 + gk % 10) :: l) := by
     show _ = _
     rw [HL.out, Tx.dig1 hk, Nat.mod_eq_of_lt hk]; rfl
    go_wp2_with fail
    go_ret
    exact ⟨by rw [HE.out, HM3.out]; rfl, hB2⟩
   ·have HE : Hid (Lib.decDigits i = Lib.decDigits (gk / 10) ++ UInt8.ofNat (48 + gk % 10) :: l) := by
     show _ = _
     rw [HL.out, Tx.digs (by omega), List.append_assoc]; rfl
    go_wp2_with fail
    go_roundg (gk / 10)
    case rel => exact ⟨gk / 10, _, rfl, by go_num, by rw [← HM2.out], by omega, HE.out, hB2⟩
    case measure => omega
  ·have q3 : (0 : Int) < (gk : Int) % 10 := by omega
   by_cases hk : gk < 10
   ·have hk0 : (gk : Int) / 10 = 0 := by omega
    have HE : Hid (Lib.decDigits i = UInt8.ofNat (48 + gk % 10) :: l) := by
     show _ = _
     rw [HL.out, Tx.dig1 hk, Nat.mod_eq_of_lt hk]; rfl
    go_wp2_with fail
    go_ret
    exact ⟨by rw [HE.out, HM3.out]; rfl, hB2⟩
   ·have HE : Hid (Lib.decDigits i = Lib.decDigits (gk / 10) ++ UInt8.ofNat (48 + gk % 10) :: l) := by
     show _ = _
     rw [HL.out, Tx.digs (by omega), List.append_assoc]; rfl
    go_wp2_with fail
    go_roundg (gk / 10)
    case rel => exact ⟨gk / 10, _, rfl, by go_num, by rw [← HM2.out], by omega, HE.out, hB2⟩
    case measure => omega
theorem told_any (n : Int) (h : -1000000000000 ≤ n ∧ n ≤ 1000000000000) (w : World) :
  Calls Tryz.prog 36 #[.int .i64 n] w fun e w' => e = .returned (.string (Tx.mk (Lib.itoa n))) ∧ Below w.heap.size w w' := by
 unfold Lib.itoa
 by_cases hn : n < 0
 ·obtain ⟨i, rfl⟩ : ∃ i : Nat, n = -(i : Int) := ⟨n.natAbs, by omega⟩
  rw [if_pos hn, Int.natAbs_neg]
  exact told_neg i (by omega) (by omega) w
 ·obtain ⟨i, rfl⟩ : ∃ i : Nat, n = (i : Int) := ⟨n.toNat, by omega⟩
  rw [if_neg hn]
  exact told_is i (by omega) w
end Go.Proofs.YtimjmjmpaicdbaaGreatDoor
namespace Go.Proofs.YtimjmjmpaicdbaaGreatDoor
open Go.RowKit Go.Sort Go.Shelf
namespace Cx
def num (n : Int) : ByteArray := Tx.mk (Lib.itoa n)
theorem num_size {n : Int} (h : -180000000 ≤ n ∧ n ≤ 6311433599) : (num n).size ≤ 21 := by unfold num; rw [Tx.mk_size]; exact itoa_len h
def wrd (op : Int) : ByteArray := Tx.mk (word op)
theorem wrd_size (op : Int) : (wrd op).size ≤ 7 := by unfold wrd; rw [Tx.mk_size]; exact word_len op
def plc (a o : Int) : ByteArray := num a ++ ⟨#[32]⟩ ++ num o
theorem plc_mk (a o : Int) : Tx.mk (pl a o) = plc a o := by unfold pl plc num; rw [← Tx.mk_append, ← Tx.mk_append]
theorem plc_size {a o : Int} (h1 : -90000000 ≤ a ∧ a ≤ 90000000) (h2 : -180000000 ≤ o ∧ o ≤ 180000000) : (plc a o).size ≤ 43 := by
 have := num_size (n := a) (by omega)
 have := num_size (n := o) (by omega)
 unfold plc
 simp only [ByteArray.size_append]
 have e : (⟨#[32]⟩ : ByteArray).size = 1 := rfl
 omega
end Cx
theorem itoaC (n : Int) (h : -9223372036854775808 ≤ n ∧ n ≤ 9223372036854775807) (V : World) (ht : Tx.Tab V) : Calls Tryz.prog 28 #[.int .i64 n] V fun e w' => e = .returned (.string (Cx.num n)) ∧ Below V.heap.size V w' := by
 refine (itoa_any n h.1 h.2 V ht).mono ?_
 rintro e w' ⟨rfl, k, os, rfl⟩
 exact ⟨rfl, rfl, rfl, rfl, by simp [grow], fun j hj => by simp [grow, Array.getElem?_append, hj]⟩
theorem toldC (n : Int) (h : -1000000000000 ≤ n ∧ n ≤ 1000000000000) (V : World) : Calls Tryz.prog 36 #[.int .i64 n] V fun e w' => e = .returned (.string (Cx.num n)) ∧ Below V.heap.size V w' := told_any n h V
theorem at_is (a o : Int) (h1 : -90000000 ≤ a ∧ a ≤ 90000000) (h2 : -180000000 ≤ o ∧ o ≤ 180000000) (w : World) :
  Calls Tryz.prog 64 #[.agg #[.int .i64 a, .int .i64 o]] w fun e w' => e = .returned (.string (Cx.plc a o)) ∧ Below w.heap.size w w' := by
 obtain ⟨W1, hW1, hP, hz1, hB⟩ := box w #[.int .i64 a, .int .i64 o] 112
 have HW1 := Lib.hid hW1
 obtain ⟨c0, c1⟩ := hP.two
 have HA := Lib.hid (fun d os => Calls.regrown_of (toldC a (by omega) (grow (redrawn W1 d) os)))
 have HO := Lib.hid (fun d os => Calls.regrown_of (toldC o (by omega) (grow (redrawn W1 d) os)))
 have s1 := Cx.num_size (n := a) (by omega)
 have s2 := Cx.num_size (n := o) (by omega)
 have k0 := cell_regrown c0
 have k1 := cell_regrown c1
 unfold Cx.plc
 generalize Cx.num a = A at *
 generalize Cx.num o = O at *
 clear hW1 hP h1 h2 c0 c1
 go_enter Tryz.func64, Tryz.ntmps64
 go_wp2_with fail
 rw [HW1.out]
 refine wp_region_quiet_below (by kernel_rfl) (by kernel_rfl) ?_
 repeat (go_big_quiet_step ((go_at_call 36; first | with_reducible exact HA.out _ _ | with_reducible exact HO.out _ _)))
 refine wpQuiet_nil ?_
 intro _ hw'
 obtain ⟨⟨dq, osq⟩, hw''⟩ := hw'
 subst hw''
 have hBw2 := below_regrown W1 dq osq
 generalize grow (redrawn W1 dq) osq = w2 at *
 clear dq osq
 go_wp2_with fail
 go_ret
 exact ⟨rfl, below_up hB hBw2⟩
theorem nestWord_is (op : Int) (w : World) : Calls Tryz.prog 61 #[.int .i64 op] w fun e w' => e = .returned (.string (if op = 1 then ⟨#[97, 108, 108]⟩ else if op = 2 then ⟨#[97, 110, 121]⟩ else if op = 3 then ⟨#[110, 111, 116]⟩ else ⟨#[]⟩)) ∧ w' = w := by
 by_cases h1 : op = 1
 ·subst h1
  go_enter Tryz.func61, Tryz.ntmps61
  go_wp2_with fail
  go_ret
  exact ⟨rfl, rfl⟩
 by_cases h2 : op = 2
 ·subst h2
  go_enter Tryz.func61, Tryz.ntmps61
  go_wp2_with fail
  go_ret
  exact ⟨rfl, rfl⟩
 by_cases h3 : op = 3
 ·subst h3
  go_enter Tryz.func61, Tryz.ntmps61
  go_wp2_with fail
  go_ret
  exact ⟨rfl, rfl⟩
 rw [if_neg h1, if_neg h2, if_neg h3]
 go_enter Tryz.func61, Tryz.ntmps61
 go_wp2_with fail
 go_ret
 exact ⟨rfl, rfl⟩
theorem loneWord_is (op : Int) (h : op = 9 ∨ op = 10 ∨ op = 11 ∨ op = 12 ∨ op = 13 ∨ op = 16) (w : World) : Calls Tryz.prog 65 #[.int .i64 op] w fun e w' => e = .returned (.string (Cx.wrd op)) ∧ w' = w := by
 rcases h with rfl | rfl | rfl | rfl | rfl | rfl
 all_goals
  go_enter Tryz.func65, Tryz.ntmps65
  go_wp2_with fail
  go_ret
  exact ⟨rfl, rfl⟩
theorem Cx.words_idx (op : Int) (hop : op = 1 ∨ op = 2 ∨ op = 3 ∨ op = 4 ∨ op = 5 ∨ op = 6 ∨ op = 7 ∨ op = 8 ∨ op = 9 ∨ op = 10 ∨ op = 11 ∨ op = 12 ∨ op = 13 ∨ op = 14 ∨ op = 15 ∨ op = 16) (V : World) :
  (Instr.index 140 (.agg #[.string ⟨#[]⟩, .string ⟨#[97, 108, 108, 40]⟩, .string ⟨#[97, 110, 121, 40]⟩, .string ⟨#[110, 111, 116, 40]⟩, .string ⟨#[116, 97, 103, 32]⟩, .string ⟨#[115, 97, 121, 115, 32]⟩, .string ⟨#[112, 101, 114, 115, 111, 110, 32]⟩, .string ⟨#[115, 116, 97, 114, 115, 32]⟩, .string ⟨#[116, 97, 107, 101, 110, 32]⟩, .string ⟨#[116, 97, 108, 108]⟩, .string ⟨#[119, 105, 100, 101]⟩, .string ⟨#[115, 113, 117, 97, 114, 101]⟩, .string ⟨#[116, 117, 114, 110, 101, 100]⟩, .string ⟨#[112, 108, 97, 99, 101, 100]⟩, .string ⟨#[119, 105, 116, 104, 105, 110, 32]⟩, .string ⟨#[98, 111, 120, 32]⟩, .string ⟨#[104, 105, 100, 100, 101, 110]⟩]) (.int .i64 op)).run Tryz.prog V = .ok (.string (Cx.wrd op)) V := by
 rcases hop with rfl | rfl | rfl | rfl | rfl | rfl | rfl | rfl | rfl | rfl | rfl | rfl | rfl | rfl | rfl | rfl <;> kernel_rfl
theorem opWord_is (op : Int) (h : 1 ≤ op ∧ op ≤ 16) (w : World) : Calls Tryz.prog 56 #[.int .i64 op] w fun e w' => e = .returned (.string (Cx.wrd op)) ∧ w' = w := by
 have hop : op = 1 ∨ op = 2 ∨ op = 3 ∨ op = 4 ∨ op = 5 ∨ op = 6 ∨ op = 7 ∨ op = 8 ∨ op = 9 ∨ op = 10 ∨ op = 11 ∨ op = 12 ∨ op = 13 ∨ op = 14 ∨ op = 15 ∨ op = 16 := by omega
 clear h
 have hix := Cx.words_idx op hop
 generalize Cx.wrd op = X at *
 clear hop
 go_enter Tryz.func56, Tryz.ntmps56
 go_wp2_with fail
 go_ret
 exact ⟨rfl, rfl⟩
def Cx.escB (s : ByteArray) : ByteArray := Tx.mk (Rep.esc s.data.toList)
theorem Cx.escB_size {s : ByteArray} (hs : s.size ≤ 1000) : (Cx.escB s).size ≤ 2000 := by
 have h1 := Cx.esc_le s.data.toList
 have h2 : s.data.toList.length = s.size := rfl
 unfold Cx.escB
 rw [Tx.mk_size]; omega
theorem Cx.qt_escB (s : ByteArray) : Tx.mk (Cx.qt s.data.toList) = ⟨#[34]⟩ ++ Cx.escB s ++ ⟨#[34]⟩ := by
 unfold Cx.qt Cx.escB; rw [← Tx.mk_append, ← Tx.mk_append]
theorem replaceC_is (s : ByteArray) (hs : s.size ≤ 1000) (b o cp : Nat) (w : World) (hB : Blk w b #[.int .u32 0, .int .i32 0, .int .u32 0, .nilIface, .slice (some ⟨o, 0, none⟩) 4 cp] 191)
  (s0 : w.cell? ⟨o, 0, none⟩ = some (.string ⟨#[34]⟩)) (s1 : w.cell? ⟨o, 1, none⟩ = some (.string ⟨#[92, 34]⟩)) (s2 : w.cell? ⟨o, 2, none⟩ = some (.string ⟨#[92]⟩)) (s3 : w.cell? ⟨o, 3, none⟩ = some (.string ⟨#[92, 92]⟩)) (ho : o < w.heap.size) (hob : o ≠ b) :
  Calls Tryz.prog 99 #[.pointer (some ⟨b, 0, none⟩), .string s] w fun e w' => e = .returned (.string (Cx.escB s)) ∧ Below b w w' :=
 replace_is b o s w (by omega) hB s0 s1 s2 s3 ho hob
theorem quoted_is (s : ByteArray) (hs : s.size ≤ 1000) (w : World) : Calls Tryz.prog 58 #[.string s] w fun e w' => e = .returned (.string (Tx.mk (Cx.qt s.data.toList))) ∧ Below w.heap.size w w' := by
 rw [Cx.qt_escB]
 obtain ⟨W1, hW1, hX1, hz1, hB1⟩ := box w #[.string ⟨#[34]⟩, .string ⟨#[92, 34]⟩, .string ⟨#[92]⟩, .string ⟨#[92, 92]⟩] 9
 have HW1 := Lib.hid hW1
 have s0 : W1.cell? ⟨w.heap.size, 0, none⟩ = some (.string ⟨#[34]⟩) := (hX1.cell 0).trans rfl
 have s1 : W1.cell? ⟨w.heap.size, 1, none⟩ = some (.string ⟨#[92, 34]⟩) := (hX1.cell 1).trans rfl
 have s2 : W1.cell? ⟨w.heap.size, 2, none⟩ = some (.string ⟨#[92]⟩) := (hX1.cell 2).trans rfl
 have s3 : W1.cell? ⟨w.heap.size, 3, none⟩ = some (.string ⟨#[92, 92]⟩) := (hX1.cell 3).trans rfl
 have HN := Lib.hid (newReplacer_is w.heap.size W1 s0 s1 s2 s3 hX1.lt)
 have hE := Cx.escB_size hs
 have HR := Lib.hid (replaceC_is s hs)
 have HB1 := Lib.hid hB1
 have HZ1 := Lib.hid hz1
 generalize Cx.escB s = E at *
 clear hW1 hX1 s0 s1 s2 s3 hB1 hz1
 go_enter Tryz.func58, Tryz.ntmps58
 go_wp2_with fail
 rw [HW1.out]
 go_wp2_with (first
  | (go_at_call 98; (with_reducible refine HN.out.mono ?_); rintro e w2 ⟨rfl, hB2, hlt2, cp2, hBk2, d0, d1, d2, d3⟩; have HR2 := Lib.hid (HR.out _ _ _ w2 hBk2 d0 d1 d2 d3 (by omega) (by omega)); have HB2 := Lib.hid hB2; clear hB2 hBk2 d0 d1 d2 d3)
  | (go_at_call 99; (with_reducible refine HR2.out.mono ?_); rintro e w3 ⟨rfl, hB3⟩))
 go_ret
 have hz1 := HZ1.out
 exact ⟨rfl, HB1.out.trans ((HB2.out.mono (by omega)).trans (hB3.mono (by omega)))⟩
theorem quotedR_is (s : List UInt8) (hs : s.length ≤ 1000) (w : World) : Calls Tryz.prog 62 #[.string (Tx.mk s)] w fun e w' => e = .returned (.string (Tx.mk (Cx.qt s))) ∧ Below w.heap.size w w' := by
 have hsz : (Tx.mk s).size = s.length := Tx.mk_size s
 have HSZ := Lib.hid hsz
 obtain ⟨N, hN⟩ : ∃ N, s.length = N := ⟨_, rfl⟩
 have HN := Lib.hid hN
 rw [hN] at hsz hs
 have hidx : ∀ (j : Nat) (b : UInt8), s[j]? = some b → ∀ V, (Instr.index 9 (.string (Tx.mk s)) (.int .i64 (j : Int))).run Tryz.prog V = .ok (.int .u8 (b.toNat : Int)) V := fun j b hb V => strIdx s j b hb V
 have HIX := Lib.hid hidx
 have hext : ∀ (j : Nat) (b : UInt8), s[j]? = some b → (Tx.mk s).extract j (j + 1) = ⟨#[b]⟩ := by
  intro j b hb
  obtain ⟨hj, he⟩ := List.getElem?_eq_some_iff.1 hb
  apply ByteArray.ext
  rw [ByteArray.data_extract]
  apply Array.toList_inj.1
  rw [Array.toList_extract, List.extract_eq_take_drop]
  show List.take (j + 1 - j) (List.drop j s.toArray.toList) = [b]
  rw [List.toList_toArray, List.drop_eq_getElem_cons hj, he, show j + 1 - j = 1 by omega]; rfl
 have HEX := Lib.hid hext
 clear hidx hext hN
 generalize Tx.mk s = S at *
 go_enter Tryz.func62, Tryz.ntmps62
 go_wp2_with fail
 go_loopg [3, 7] N (fun gk x i wr => ∃ j : Nat, j ≤ N ∧ gk = N - j ∧ i = .int .i64 j ∧ x = .string (Tx.mk ([34] ++ Rep.esc (s.take j))) ∧ wr = w)
 case atStart => exact ⟨0, by omega, rfl, rfl, rfl, rfl⟩
 case round =>
  obtain ⟨j, hj, rfl, rfl, rfl, rfl⟩ := hrel
  have hel : (Rep.esc (s.take j)).length ≤ 2000 := by
   have h1 := Cx.esc_le (s.take j)
   rw [List.length_take] at h1; omega
  have hml : (Tx.mk ([34] ++ Rep.esc (s.take j))).size ≤ 2001 := by rw [Tx.mk_size]; simp; omega
  by_cases hlt : j < N
  ·obtain ⟨b, hb⟩ : ∃ b, s[j]? = some b := ⟨_, List.getElem?_eq_getElem (by rw [HN.out]; exact hlt)⟩
   have htk : s.take (j + 1) = s.take j ++ [b] := by rw [List.take_add_one, hb]; rfl
   have hix := HIX.out j b hb
   have hex := HEX.out j b hb
   have hsn : Tx.mk ([34] ++ Rep.esc (s.take (j + 1))) = if Rep.sp b = true then Tx.mk ([34] ++ Rep.esc (s.take j)) ++ ⟨#[92]⟩ ++ ⟨#[b]⟩ else Tx.mk ([34] ++ Rep.esc (s.take j)) ++ ⟨#[b]⟩ := by
    rw [htk, Rep.esc_snoc]
    split
    ·rw [show ([92, b] : List UInt8) = [92] ++ [b] from rfl, ← List.append_assoc, ← List.append_assoc, ← Tx.mk_append, ← Tx.mk_append]
    ·rw [← List.append_assoc, ← Tx.mk_append]
   have HSN := Lib.hid hsn
   have hj0 : (0 : Int) ≤ (j : Int) := by omega
   have hj1 : (j : Int) < (N : Int) := by omega
   have hb255 : b.toNat ≤ 255 := by have := b.toNat_lt; omega
   generalize Tx.mk ([34] ++ Rep.esc (s.take j)) = M at *
   clear hsn htk hb
   by_cases h34 : b = 34
   ·subst h34
    have HS2 : Hid (Tx.mk ([34] ++ Rep.esc (s.take (j + 1))) = M ++ ⟨#[92]⟩ ++ ⟨#[34]⟩) := Lib.hid (by rw [HSN.out, if_pos (by decide)])
    go_wp2_with fail
    go_roundg (N - (j + 1))
    case rel => exact ⟨j + 1, by omega, rfl, by go_num, by rw [HS2.out], rfl⟩
    case measure => omega
   ·by_cases h92 : b = 92
    ·subst h92
     have HS2 : Hid (Tx.mk ([34] ++ Rep.esc (s.take (j + 1))) = M ++ ⟨#[92]⟩ ++ ⟨#[92]⟩) := Lib.hid (by rw [HSN.out, if_pos (by decide)])
     go_wp2_with fail
     go_roundg (N - (j + 1))
     case rel => exact ⟨j + 1, by omega, rfl, by go_num, by rw [HS2.out], rfl⟩
     case measure => omega
    ·have hn1 : ¬ ((b.toNat : Int) = 34) := fun e => h34 (UInt8.toNat_inj.1 (by have : b.toNat = 34 := by omega
                                                                                rw [this]; rfl))
     have hn2 : ¬ ((b.toNat : Int) = 92) := fun e => h92 (UInt8.toNat_inj.1 (by have : b.toNat = 92 := by omega
                                                                                rw [this]; rfl))
     have HS2 : Hid (Tx.mk ([34] ++ Rep.esc (s.take (j + 1))) = M ++ ⟨#[b]⟩) := Lib.hid (by rw [HSN.out, if_neg (by unfold Rep.sp; simp [h34, h92])])
     have hn3 : ¬ (b.toNat = 34) := by omega
     have hq1 : ((b.toNat : Int) == 34) = false := beq_eq_false_iff_ne.2 hn1
     have hn4 : ¬ (b.toNat = 92) := by omega
     have hq2 : ((b.toNat : Int) == 92) = false := beq_eq_false_iff_ne.2 hn2
     clear h34 h92
     go_wp2_with fail
     go_roundg (N - (j + 1))
     case rel => exact ⟨j + 1, by omega, rfl, by go_num, by rw [HS2.out], rfl⟩
     case measure => omega
  ·obtain rfl : j = N := by omega
   have HQ : Hid (Tx.mk (Cx.qt s) = Tx.mk ([34] ++ Rep.esc (s.take j)) ++ ⟨#[34]⟩) := Lib.hid (by rw [← HN.out, List.take_length]; unfold Cx.qt; rw [← Tx.mk_append])
   generalize Tx.mk ([34] ++ Rep.esc (s.take j)) = M at *
   go_wp2_with fail
   go_ret
   exact ⟨by rw [HQ.out]; rfl, Below.refl _ _⟩
end Go.Proofs.YtimjmjmpaicdbaaGreatDoor

/- Parts of the proof, no condition: StRpN, Bld, StLine, StChp, StRpF, StRpP. -/
import Derived.Test.YtbbgebpgpadclaaGreatDoorSr6
import Derived.Shelf.Strings.BuilderK
import Derived.Test.YtbbgebpgpadclaaGreatDoorSr3
import Derived.Test.YtbbgebpgpadclaaGreatDoorSr1
import Derived.Lib.OwnKind
set_option maxRecDepth 100000
set_option maxHeartbeats 8000000
set_option linter.unusedSimpArgs false
set_option linter.unusedVariables false
namespace Go.Proofs.YtbbgebpgpadclaaGreatDoor
open Go.RowKit Go.Sort Go.Shelf Go.Maps
theorem rpByte0 (l : List UInt8) (c : UInt8) (h : l[0]? = some c) : (Tx.mk l)[0]'(by rw [Tx.mk_size]; exact (List.getElem?_eq_some_iff.1 h).1) = c := by
 obtain ⟨hj, e⟩ := List.getElem?_eq_some_iff.1 h
 show l.toArray[0]'(by simpa using hj) = c
 simpa using e
def NumOk (R : List (List UInt8)) (bad : Bool) (v : Int) (R' : List (List UInt8)) (bad' : Bool) : Prop :=
 (∃ x n, R = x :: R' ∧ St.num13 x = some n ∧ v = ((n : Nat) : Int) ∧ bad' = bad) ∨ (bad' = true ∧ ∀ x R2, R = x :: R2 → St.num13 x = none)
def NumrPost (w : World) (K B rb : Nat) (R : List (List UInt8)) (bad : Bool) (e : Ending) (w' : World) : Prop :=
 ∃ v R' bad', NumOk R bad v R' bad' ∧ (∀ y ∈ R', y ∈ R) ∧ e = .returned (.int .i64 v) ∧ RdIn w' K B rb R' bad' ∧ w.grownBy w' (some rb)
theorem num13_nil : St.num13 [] = none := by unfold St.num13; rw [if_neg (by simp)]
theorem grownB {W W' : World} (h : Below W.heap.size W W') (q : Option Nat) : W.grownBy W' q := ⟨h.os, h.tape, h.output, h.size, fun j hj _ => h.block j hj⟩
theorem numberS_is (R : List (List UInt8)) (bad : Bool) (K B rb : Nat) (w : World) (h : RdIn w K B rb R bad) (hl : ∀ x ∈ R, x.length ≤ 1000000000000) :
  Calls Tryz.prog 37 #[.pointer (some ⟨rb, 0, none⟩)] w (NumrPost w K B rb R bad) := by
 have HWD := Lib.hid (rdWord_is R bad K B rb w h)
 unfold WordPost at HWD
 clear h
 go_enter Tryz.func37, Tryz.ntmps37
 go_upto_region 2 with (go_at_call 15; (with_reducible refine HWD.out.mono ?_); rintro e w1 ⟨x, R', bad', hok, hsb, rfl, hrd, hg⟩)
 have HSB := Lib.hid hsb
 clear hsb
 have HRD := Lib.hid hrd; have HG := Lib.hid hg
 obtain ⟨a, c, hb, hr, hc, hne⟩ := hrd
 obtain ⟨r0, r1⟩ := hb.two
 have rf := hb.free
 clear hb hr hc hne hg
 rcases hok with ⟨hx, rfl, rfl⟩ | ⟨rfl, rfl, hno⟩
 ·have hxe := mkEmpty_no x hx
  have hxi : x.isEmpty = false := by cases x with | nil => exact absurd rfl hx | cons a r => rfl
  have hsz := Tx.mk_size x
  have hxl := hl x (by simp)
  have hpos := List.length_pos_iff.2 hx
  by_cases h13 : x.length ≤ 13
  ·have h13' : ¬ 13 < x.length := by omega
   have HT := Lib.hid (fun W => trim_is x hx (by omega) W)
   by_cases h1 : Dg.allD x = true
   ·rw [(Dg.trim_nil x).2 h1] at HT
    have HA := Lib.hid (fun W => atoi_is x hx h1 (by omega) W)
    obtain ⟨b, hb⟩ : ∃ b, x[0]? = some b := ⟨_, List.getElem?_eq_getElem hpos⟩
    have hbb := rpByte0 x b hb
    by_cases h48 : 1 < x.length ∧ b = 48
    ·obtain ⟨h11, rfl⟩ := h48
     have HN : Hid (St.num13 x = none) := by show _ = _; unfold St.num13; rw [if_neg (fun h => h.2.2 ⟨h11, hb⟩)]
     clear h1 HA
     go_wp2_with (go_at_call 77; (with_reducible refine (HT.out _).mono ?_); rintro e w2 ⟨rfl, hB⟩; have hrd2 := HRD.out.keep hB; obtain ⟨a2, c2, hb2, hr2, hc2, hne2⟩ := hrd2; obtain ⟨r0, r1⟩ := hb2.two; have rf := hb2.free; have HB2 := Lib.hid hB; clear hB hb2 hr2 hc2 hne2)
     go_ret
     exact ⟨0, R', true, .inr ⟨rfl, fun y R2 e => by rw [← List.head_eq_of_cons_eq e]; exact HN.out⟩, HSB.out, rfl, (HRD.out.keep HB2.out).setBad true, (HG.out.trans (grownB HB2.out _)).trans (grown_set (grown_self _ rb) 1 (.bool true))⟩
    ·have HN : Hid (St.num13 x = some (Dg.val x)) := by show _ = _; unfold St.num13; rw [if_pos ⟨⟨hpos, h13⟩, h1, fun h => h48 ⟨h.1, by rw [hb] at h; exact Option.some.inj h.2⟩⟩]
     generalize Dg.val x = v at *
     clear h1
     by_cases h11 : 1 < x.length
     ·have hc1 : ¬ (b.toNat : Int) = 48 := fun e => h48 ⟨h11, UInt8.toNat_inj.1 (by show b.toNat = 48; omega)⟩
      have hc2 : ((b.toNat : Int) == 48) = false := by simpa using hc1
      clear h48
      go_wp2_with (first
       | (go_at_call 77; (with_reducible refine (HT.out _).mono ?_); rintro e w2 ⟨rfl, hB⟩; have HB2 := Lib.hid hB; clear hB)
       | (go_at_call 78; (with_reducible refine (HA.out _).mono ?_); rintro e w3 ⟨rfl, hB⟩; have HB3 := Lib.hid hB; clear hB))
      go_ret
      exact ⟨v, R', bad', .inl ⟨x, v, rfl, HN.out, rfl, rfl⟩, HSB.out, rfl, (HRD.out.keep HB2.out).keep HB3.out, (HG.out.trans (grownB HB2.out _)).trans (grownB HB3.out _)⟩
     ·clear h48
      go_wp2_with (first
       | (go_at_call 77; (with_reducible refine (HT.out _).mono ?_); rintro e w2 ⟨rfl, hB⟩; have HB2 := Lib.hid hB; clear hB)
       | (go_at_call 78; (with_reducible refine (HA.out _).mono ?_); rintro e w3 ⟨rfl, hB⟩; have HB3 := Lib.hid hB; clear hB))
      go_ret
      exact ⟨v, R', bad', .inl ⟨x, v, rfl, HN.out, rfl, rfl⟩, HSB.out, rfl, (HRD.out.keep HB2.out).keep HB3.out, (HG.out.trans (grownB HB2.out _)).trans (grownB HB3.out _)⟩
   ·have HN : Hid (St.num13 x = none) := by show _ = _; unfold St.num13; rw [if_neg (fun h => h1 h.2.1)]
    have hte : Lib.trimS x Dg.digits ≠ [] := fun h => h1 ((Dg.trim_nil x).1 h)
    have e1 := mkEmpty_no (Lib.trimS x Dg.digits) hte
    have e2 : (Lib.trimS x Dg.digits).isEmpty = false := by
     cases hq : Lib.trimS x Dg.digits with
     | nil => exact absurd hq hte
     | cons a r => rfl
    clear h1 hte
    generalize Lib.trimS x Dg.digits = tt at *
    go_wp2_with (go_at_call 77; (with_reducible refine (HT.out _).mono ?_); rintro e w2 ⟨rfl, hB⟩; have hrd2 := HRD.out.keep hB; obtain ⟨a2, c2, hb2, hr2, hc2, hne2⟩ := hrd2; obtain ⟨r0, r1⟩ := hb2.two; have rf := hb2.free; have HB2 := Lib.hid hB; clear hB hb2 hr2 hc2 hne2)
    go_ret
    exact ⟨0, R', true, .inr ⟨rfl, fun y R2 e => by rw [← List.head_eq_of_cons_eq e]; exact HN.out⟩, HSB.out, rfl, (HRD.out.keep HB2.out).setBad true, (HG.out.trans (grownB HB2.out _)).trans (grown_set (grown_self _ rb) 1 (.bool true))⟩
  ·have HN : Hid (St.num13 x = none) := by show _ = _; unfold St.num13; rw [if_neg (fun h => h13 h.1.2)]
   have h13' : 13 < x.length := by omega
   go_wp2_with fail
   go_ret
   exact ⟨0, R', true, .inr ⟨rfl, fun y R2 e => by rw [← List.head_eq_of_cons_eq e]; exact HN.out⟩, HSB.out, rfl, HRD.out.setBad true, HG.out.trans (grown_set (grown_self _ rb) 1 (.bool true))⟩
 ·have HNO := Lib.hid hno
  clear hno
  go_wp2_with fail
  go_ret
  exact ⟨0, R', true, .inr ⟨rfl, fun y R2 e => by rw [HNO.out y R2 e]; exact num13_nil⟩, HSB.out, rfl, HRD.out.setBad true, HG.out.trans (grown_set (grown_self _ rb) 1 (.bool true))⟩
def EitOk (R : List (List UInt8)) (bad : Bool) (yes no : List UInt8) (v : Bool) (R' : List (List UInt8)) (bad' : Bool) : Prop :=
 (∃ x, x ≠ [] ∧ R = x :: R' ∧ St.two x yes no = some v ∧ bad' = bad) ∨ (bad' = true ∧ ∀ x R2, R = x :: R2 → x = [] ∨ St.two x yes no = none)
def EitPost (w : World) (K B rb : Nat) (R : List (List UInt8)) (bad : Bool) (yes no : List UInt8) (e : Ending) (w' : World) : Prop :=
 ∃ v R' bad', EitOk R bad yes no v R' bad' ∧ (∀ y ∈ R', y ∈ R) ∧ e = .returned (.bool v) ∧ RdIn w' K B rb R' bad' ∧ w.grownBy w' (some rb)
theorem either_is (R : List (List UInt8)) (bad : Bool) (K B rb : Nat) (yes no : List UInt8) (hy : yes ≠ []) (hn : no ≠ []) (w : World) (h : RdIn w K B rb R bad) :
  Calls Tryz.prog 38 #[.pointer (some ⟨rb, 0, none⟩), .string (Tx.mk yes), .string (Tx.mk no)] w (EitPost w K B rb R bad yes no) := by
 have HWD := Lib.hid (rdWord_is R bad K B rb w h)
 unfold WordPost at HWD
 clear h
 go_enter Tryz.func38, Tryz.ntmps38
 go_upto_region 2 with (go_at_call 15; (with_reducible refine HWD.out.mono ?_); rintro e w1 ⟨x, R', bad', hok, hsb, rfl, hrd, hg⟩)
 have HSB := Lib.hid hsb
 clear hsb
 have HRD := Lib.hid hrd; have HG := Lib.hid hg
 obtain ⟨a, c, hb, hr, hc, hne⟩ := hrd
 obtain ⟨r0, r1⟩ := hb.two
 have rf := hb.free
 clear hb hr hc hne hg
 have HOK := Lib.hid hok
 clear hok
 by_cases hp : x = yes
 ·have b1 : (x == yes) = true := by simpa using hp
  have HP := Lib.hid hp
  clear hp
  cases bad'
  ·go_wp2_with fail
   go_ret
   refine ⟨_, R', _, ?_, HSB.out, rfl, HRD.out.setBad _, HG.out.trans (grown_set (grown_self _ rb) 1 _)⟩
   rcases HOK.out with ⟨k1, k2, k3⟩ | ⟨k1, k2, k3⟩
   ·exact .inl ⟨x, k1, k2, by unfold St.two; rw [if_pos HP.out], k3⟩
   ·exact absurd k1 (by decide)
  ·go_wp2_with fail
   go_ret
   refine ⟨_, R', _, ?_, HSB.out, rfl, HRD.out.setBad _, HG.out.trans (grown_set (grown_self _ rb) 1 _)⟩
   rcases HOK.out with ⟨k1, k2, k3⟩ | ⟨k1, k2, k3⟩
   ·exact .inl ⟨x, k1, k2, by unfold St.two; rw [if_pos HP.out], k3⟩
   ·exact .inr ⟨rfl, fun y R2 e => .inl (k3 y R2 e)⟩
 ·have b1 : (x == yes) = false := by simpa using hp
  have HP := Lib.hid hp
  clear hp
  by_cases hq : x = no
  ·have b2 : (x == no) = true := by simpa using hq
   have HQ := Lib.hid hq
   clear hq
   cases bad'
   ·go_wp2_with fail
    go_ret
    refine ⟨_, R', _, ?_, HSB.out, rfl, HRD.out.setBad _, HG.out.trans (grown_set (grown_self _ rb) 1 _)⟩
    rcases HOK.out with ⟨k1, k2, k3⟩ | ⟨k1, k2, k3⟩
    ·exact .inl ⟨x, k1, k2, by unfold St.two; rw [if_neg HP.out, if_pos HQ.out], k3⟩
    ·exact absurd k1 (by decide)
   ·go_wp2_with fail
    go_ret
    refine ⟨_, R', _, ?_, HSB.out, rfl, HRD.out.setBad _, HG.out.trans (grown_set (grown_self _ rb) 1 _)⟩
    rcases HOK.out with ⟨k1, k2, k3⟩ | ⟨k1, k2, k3⟩
    ·exact .inl ⟨x, k1, k2, by unfold St.two; rw [if_neg HP.out, if_pos HQ.out], k3⟩
    ·exact .inr ⟨rfl, fun y R2 e => .inl (k3 y R2 e)⟩
  ·have b2 : (x == no) = false := by simpa using hq
   have HQ := Lib.hid hq
   clear hq
   cases bad'
   ·go_wp2_with fail
    go_ret
    refine ⟨_, R', _, ?_, HSB.out, rfl, HRD.out.setBad _, HG.out.trans (grown_set (grown_self _ rb) 1 _)⟩
    rcases HOK.out with ⟨k1, k2, k3⟩ | ⟨k1, k2, k3⟩
    ·exact .inr ⟨rfl, fun y R2 e => .inr (by rw [← List.head_eq_of_cons_eq (k2.symm.trans e)]; unfold St.two; rw [if_neg HP.out, if_neg HQ.out])⟩
    ·exact absurd k1 (by decide)
   ·go_wp2_with fail
    go_ret
    refine ⟨_, R', _, ?_, HSB.out, rfl, HRD.out.setBad _, HG.out.trans (grown_set (grown_self _ rb) 1 _)⟩
    rcases HOK.out with ⟨k1, k2, k3⟩ | ⟨k1, k2, k3⟩
    ·exact .inr ⟨rfl, fun y R2 e => .inr (by rw [← List.head_eq_of_cons_eq (k2.symm.trans e)]; unfold St.two; rw [if_neg HP.out, if_neg HQ.out])⟩
    ·exact .inr ⟨rfl, fun y R2 e => .inl (k3 y R2 e)⟩
end Go.Proofs.YtbbgebpgpadclaaGreatDoor
namespace Go.Proofs.YtbbgebpgpadclaaGreatDoor
open Go.RowKit Go.Sort Go.Shelf
def Bld (w : World) (b : Nat) (l : List UInt8) : Prop := Lib.IsBuilderF 57 5 b b (Lib.byteCells l) w
theorem builderAtF_below {T e : TypeId} {B b : Nat} {p : Value} {bs : List Value} {W W' : World} (h : Lib.BuilderAtF T e B b p bs W) (hb : Below W.heap.size W W') : Lib.BuilderAtF T e B b p bs W' := by
 have hlt := h.lt
 obtain ⟨hB, v, hv, hown, hne⟩ := h
 exact ⟨hB, v, (hb.block b hlt).trans hv, hown.kept (row := none) ⟨hb.os, hb.tape, hb.output, hb.size, fun k hk _ => hb.block k hk⟩ (Classical.em _), hne⟩
theorem Bld.keep {W W' : World} {b : Nat} {l : List UInt8} (h : Bld W b l) (hb : Below W.heap.size W W') : Bld W' b l :=
 Or.elim h (fun x => .inl (builderAtF_below x hb)) (fun x => .inr (builderAtF_below x hb))
theorem Bld.lt {W : World} {b : Nat} {l : List UInt8} (h : Bld W b l) : b < W.heap.size := Or.elim h (fun x => x.lt) (fun x => x.lt)
theorem Bld.new (w : World) : Bld (w.alloc (.cells #[.pointer none, .slice none 0 0] 57)) w.heap.size [] :=
 .inl ⟨Nat.le_refl _, .slice none 0 0, Blk.new _ _ _, World.ownsRowF_nil _ _ _ _, by simp [Value.ownBlock]⟩
namespace St
def kindB (k : Int) : ByteArray := Tx.mk (kindT k)
end St
theorem St.kinds_idx (k : Int) (hk : k = 1 ∨ k = 2 ∨ k = 3) (V : World) :
  (Instr.index 105 (.agg #[.string ⟨#[]⟩, .string ⟨#[111, 114, 105, 103, 105, 110, 97, 108]⟩, .string ⟨#[115, 105, 100, 101, 99, 97, 114]⟩, .string ⟨#[100, 101, 114, 105, 118, 101, 100]⟩]) (.int .i64 k)).run Tryz.prog V = .ok (.string (St.kindB k)) V := by
 rcases hk with rfl | rfl | rfl <;> kernel_rfl
theorem kindWord_is (k : Int) (h : 1 ≤ k ∧ k ≤ 3) (w : World) : Calls Tryz.prog 27 #[.int .i64 k] w fun e w' => e = .returned (.string (St.kindB k)) ∧ w = w' := by
 have hop : k = 1 ∨ k = 2 ∨ k = 3 := by omega
 clear h
 have hix := St.kinds_idx k hop
 generalize St.kindB k = X at *
 clear hop
 go_enter Tryz.func27, Tryz.ntmps27
 go_wp2_with fail
 go_ret
 exact ⟨rfl, rfl⟩
end Go.Proofs.YtbbgebpgpadclaaGreatDoor
namespace Go.Proofs.YtbbgebpgpadclaaGreatDoor
open Go.RowKit Go.Sort Go.Shelf Go.Maps
theorem Blk.four {w : World} {b : Nat} {t : TypeId} {x0 x1 x2 x3 : Value} (h : Blk w b #[x0, x1, x2, x3] t) : w.cell? ⟨b, 0, none⟩ = some x0 ∧ w.cell? ⟨b, 1, none⟩ = some x1 ∧ w.cell? ⟨b, 2, none⟩ = some x2 ∧ w.cell? ⟨b, 3, none⟩ = some x3 :=
 ⟨by rw [h.cell]; rfl, by rw [h.cell]; rfl, by rw [h.cell]; rfl, by rw [h.cell]; rfl⟩
theorem Blk.setRowAt {w : World} {b : Nat} {c : Array Value} {t : TypeId} (h : Blk w b c t) (cs : Array Value) : Blk (w.setRow b cs) b cs t := setRow_heap w b c cs t (0, 0) h
namespace St
def fileP (R : List (List UInt8)) : Option (Fil × List (List UInt8)) := match R with
 | a :: b :: c :: R1 => if a = [] then none else (num13 b).bind fun n =>
     if kindW c = 1 then some (⟨Tx.mk a, n, 1, ⟨#[]⟩⟩, R1) else
     if kindW c = 0 then none else
     match R1 with
     | [] => none
     | d :: R2 => if d = [] then none else some (⟨Tx.mk a, n, kindW c, Tx.mk d⟩, R2)
 | _ => none
theorem kindW_bd (c : List UInt8) : 0 ≤ kindW c ∧ kindW c ≤ 3 := by unfold kindW; split; decide; split; decide; split <;> decide
theorem entF_file (R : List (List UInt8)) : entF R = match fileP R with | some (f, []) => some (.fil f) | _ => none := by
 match R with
 | [] => rfl
 | [a] => rfl
 | [a, b] => rfl
 | [a, b, c] =>
   unfold entF fileP
   by_cases ha : a = []
   ·simp [ha]
   ·simp only [if_neg ha]
    cases num13 b with
    | none => rfl
    | some n =>
      simp only [Option.bind_some]
      by_cases h1 : kindW c = 1
      ·simp [h1]
      ·simp only [if_neg h1]
       by_cases h0 : kindW c = 0
       ·simp [h0]
       ·simp [h0]
 | [a, b, c, d] =>
   unfold entF fileP
   have hb := kindW_bd c
   by_cases ha : a = []
   ·simp [ha]
   ·simp only [if_neg ha]
    cases num13 b with
    | none => simp
    | some n =>
      simp only [Option.bind_some]
      by_cases h1 : kindW c = 1
      ·by_cases hd : d = [] <;> simp [h1, hd, ha]
      ·simp only [if_neg h1]
       by_cases h0 : kindW c = 0
       ·by_cases hd : d = [] <;> simp [h0, hd, ha]
       ·have h23 : kindW c = 2 ∨ kindW c = 3 := by omega
        by_cases hd : d = []
        ·simp [h0, hd]
        ·simp [h0, hd, ha, h23]
 | a :: b :: c :: d :: e :: R =>
   unfold entF fileP
   by_cases ha : a = []
   ·simp [ha]
   ·simp only [if_neg ha]
    cases num13 b with
    | none => rfl
    | some n =>
      simp only [Option.bind_some]
      by_cases h1 : kindW c = 1
      ·simp [h1]
      ·simp only [if_neg h1]
       by_cases h0 : kindW c = 0
       ·simp [h0]
       ·by_cases hd : d = [] <;> simp [h0, hd]
end St
theorem WordOk.bad {R R' : List (List UInt8)} {x : List UInt8} {bad' : Bool} (h : WordOk R true x R' bad') : bad' = true := by
 rcases h with ⟨_, _, h⟩ | ⟨h, _⟩ <;> exact h
theorem NumOk.bad {R R' : List (List UInt8)} {v : Int} {bad' : Bool} (h : NumOk R true v R' bad') : bad' = true := by
 rcases h with ⟨_, _, _, _, _, h⟩ | ⟨h, _⟩ <;> exact h
theorem EitOk.bad {R R' : List (List UInt8)} {yes no : List UInt8} {v bad' : Bool} (h : EitOk R true yes no v R' bad') : bad' = true := by
 rcases h with ⟨_, _, _, _, h⟩ | ⟨h, _⟩ <;> exact h
theorem grown_new {a b c : World} {row : Option Nat} {q : Nat} (h : a.grownBy b row) (k : b.grownBy c (some q)) (hq : a.heap.size ≤ q) : a.grownBy c row :=
 ⟨k.os.trans h.os, k.tape.trans h.tape, k.output.trans h.output, Nat.le_trans h.size k.size, fun j hj hne => (k.block j (Nat.lt_of_lt_of_le hj h.size) (fun e => by have := Option.some.inj e; omega)).trans (h.block j hj hne)⟩
def FilOk (R : List (List UInt8)) (bad : Bool) (f : Fil) (R' : List (List UInt8)) (bad' : Bool) : Prop := (St.fileP R = some (f, R') ∧ bad' = bad) ∨ (bad' = true ∧ St.fileP R = none)
def FilePost (w : World) (K B rb : Nat) (R : List (List UInt8)) (bad : Bool) (e : Ending) (w' : World) : Prop :=
 ∃ f R' bad', FilOk R bad f R' bad' ∧ e = .returned (.agg #[.string f.dig, .int .i64 f.size, .int .i64 f.kind, .string f.frm]) ∧ RdIn w' K B rb R' bad' ∧ w.grownBy w' (some rb)
theorem kind_eq (c : List UInt8) (k : Int) (h : k = 1 ∨ k = 2 ∨ k = 3) : ((Tx.mk c).toList == (St.kindB k).toList) = decide (St.kindW c = k) := by
 have e1 : (Tx.mk c).toList = c := by rw [ByteArray.toList_eq]
 have e2 : (St.kindB k).toList = St.kindT k := by rw [ByteArray.toList_eq]; rfl
 rw [e1, e2]
 unfold St.kindW St.kindT
 rw [Bool.eq_iff_iff, beq_iff_eq, decide_eq_true_iff]
 rcases h with rfl | rfl | rfl
 ·rw [if_pos rfl]
  constructor
  ·rintro rfl; decide
  ·intro h
   by_cases h1 : c = St.wOrig
   ·exact h1
   ·rw [if_neg h1] at h
    exfalso
    revert h
    split
    ·decide
    ·split <;> decide
 ·rw [if_neg (by decide), if_pos rfl]
  constructor
  ·rintro rfl; decide
  ·intro h
   by_cases h1 : c = St.wOrig
   ·rw [if_pos h1] at h; exact absurd h (by decide)
   ·rw [if_neg h1] at h
    by_cases h2 : c = St.wSide
    ·exact h2
    ·rw [if_neg h2] at h
     exfalso
     revert h
     split <;> decide
 ·rw [if_neg (by decide), if_neg (by decide)]
  constructor
  ·rintro rfl; decide
  ·intro h
   by_cases h1 : c = St.wOrig
   ·rw [if_pos h1] at h; exact absurd h (by decide)
   ·rw [if_neg h1] at h
    by_cases h2 : c = St.wSide
    ·rw [if_pos h2] at h; exact absurd h (by decide)
    ·rw [if_neg h2] at h
     by_cases h3 : c = St.wDeri
     ·exact h3
     ·rw [if_neg h3] at h; exact absurd h (by decide)
theorem fil_pre {R R1 R2 R3 : List (List UInt8)} {bad b1 b2 b3 : Bool} {x1 x3 : List UInt8} {v : Int} (h1 : WordOk R bad x1 R1 b1) (h2 : NumOk R1 b1 v R2 b2) (h3 : WordOk R2 b2 x3 R3 b3) :
  (∃ b n, R = x1 :: b :: x3 :: R3 ∧ x1 ≠ [] ∧ St.num13 b = some n ∧ v = ((n : Nat) : Int) ∧ x3 ≠ [] ∧ b3 = bad) ∨ (b3 = true ∧ St.fileP R = none) := by
 rcases h1 with ⟨k1, rfl, rfl⟩ | ⟨rfl, rfl, k3⟩
 ·rcases h2 with ⟨b, n, rfl, m2, rfl, rfl⟩ | ⟨rfl, m2⟩
  ·rcases h3 with ⟨n1, rfl, rfl⟩ | ⟨rfl, rfl, n3⟩
   ·exact .inl ⟨b, n, rfl, k1, m2, rfl, n1, rfl⟩
   ·refine .inr ⟨rfl, ?_⟩
    cases R2 with
    | nil => rfl
    | cons c R2 =>
      rw [n3 c R2 rfl]
      unfold St.fileP
      have : St.kindW [] = 0 := by decide
      simp [k1, m2, this]
  ·refine .inr ⟨h3.bad, ?_⟩
   match R1, m2 with
   | [], _ => rfl
   | [a], _ => rfl
   | a :: c :: R4, m2 =>
     have := m2 a (c :: R4) rfl
     unfold St.fileP
     simp [k1, this]
 ·have hb2 := h2.bad
  subst hb2
  refine .inr ⟨h3.bad, ?_⟩
  match R, k3 with
  | [], _ => rfl
  | [a], _ => rfl
  | [a, c], _ => rfl
  | a :: c :: d :: R4, k3 =>
    have := k3 a (c :: d :: R4) rfl
    unfold St.fileP
    simp [this]
theorem fileS_is (R : List (List UInt8)) (bad : Bool) (K B rb : Nat) (w : World) (h : RdIn w K B rb R bad) (hB : B ≤ w.heap.size) (hl : ∀ x ∈ R, x.length ≤ 1000000000000) :
  Calls Tryz.prog 39 #[.pointer (some ⟨rb, 0, none⟩)] w (FilePost w K B rb R bad) := by
 obtain ⟨W1, hW1, hQ, hz1, hB1⟩ := box w #[.string ⟨#[]⟩, .int .i64 0, .int .i64 0, .string ⟨#[]⟩] 68
 have HW1 := Lib.hid hW1
 have HQ := Lib.hid hQ
 have hrl := h.lt
 have HWD := Lib.hid (rdWord_is R bad K B rb W1 (h.keep hB1))
 unfold WordPost at HWD
 have HB1 := Lib.hid hB1
 have HS1 : Hid (rb < B ∧ B ≤ w.heap.size ∧ W1.heap.size = w.heap.size + 1) := Lib.hid ⟨hrl, hB, hz1⟩
 have HL := Lib.hid hl
 clear h hW1 hQ hz1 hB1 hrl hB hl
 go_enter Tryz.func39, Tryz.ntmps39
 go_upto_region 1 with fail
 rw [HW1.out]
 go_upto_region 2 with (go_at_call 15; (with_reducible refine HWD.out.mono ?_); rintro e w2 ⟨x1, R1, b1, hok1, hs1, rfl, hrd1, hg1⟩)
 obtain ⟨W3, hW3, hX3, hz3, hB3⟩ := box w2 #[.string (Tx.mk x1), .int .i64 0, .int .i64 0, .string ⟨#[]⟩] 68
 rw [hW3]
 have hl1 : ∀ x ∈ R1, x.length ≤ 1000000000000 := fun x hx => HL.out x (hs1 x hx)
 have HOK1 := Lib.hid hok1
 have hz2 : w.heap.size < w2.heap.size := by have := hg1.size; have := HS1.out; omega
 obtain ⟨fb, hfb⟩ : ∃ fb, w2.heap.size = fb := ⟨_, rfl⟩
 rw [hfb] at hX3 hz3 hz2 ⊢
 have HX3 := Lib.hid hX3
 have HG3 : Hid (W1.grownBy W3 (some rb)) := Lib.hid (hg1.trans (grownB hB3 _))
 have HR3 := Lib.hid (hrd1.keep hB3)
 have HFB : Hid (w.heap.size < fb ∧ rb < fb ∧ B ≤ fb ∧ rb ≠ w.heap.size) := Lib.hid (by have := HS1.out; omega)
 have HNM := Lib.hid (numberS_is R1 b1 K B rb W3 HR3.out hl1)
 unfold NumrPost at HNM
 clear hok1 hs1 hrd1 hg1 hW3 hX3 hz3 hB3 hl1 hfb hz2
 go_upto_region 3 with (first
  | (go_at_call 37; (with_reducible refine HNM.out.mono ?_); rintro e w4 ⟨v, R2, b2, hok2, hs2, rfl, hrd2, hg2⟩; have hX4 : Blk w4 fb #[.string (Tx.mk x1), .int .i64 0, .int .i64 0, .string ⟨#[]⟩] 68 := HX3.out.of_block (hg2.block fb (Array.getElem?_eq_some_iff.1 HX3.out).1 (fun e => by have := Option.some.inj e; have := HFB.out; omega)); obtain ⟨f0, f1, f2, f3⟩ := hX4.four; have ff := hX4.free))
 have hg5 := grown_set (grown_self w4 fb) 1 (.int .i64 v)
 have HX5 := Lib.hid (hX4.set 1 (.int .i64 v))
 have HR5 := Lib.hid (hrd2.grow hg5 HFB.out.2.2.1)
 have HG5 := Lib.hid (grown_new (HG3.out.trans hg2) hg5 (by have := HFB.out; have := HS1.out; omega))
 have HOK2 := Lib.hid hok2
 have HSB2 := Lib.hid hs2
 obtain ⟨W5, hW5⟩ : ∃ W5, w4.setCell ⟨fb, 1, none⟩ (.int .i64 v) = W5 := ⟨_, rfl⟩
 rw [hW5] at HX5 HR5 HG5 ⊢
 have HX5 : Hid (Blk W5 fb #[.string (Tx.mk x1), .int .i64 v, .int .i64 0, .string ⟨#[]⟩] 68) := HX5
 have HWE := Lib.hid (rdWord_is R2 b2 K B rb W5 HR5.out)
 unfold WordPost at HWE
 clear hg5 hrd2 hX4 hg2 hok2 hs2 hW5 f0 f1 f2 f3 ff HX3 HR3 HG3 HNM HWD
 go_wp2_with (go_at_call 15; (with_reducible refine HWE.out.mono ?_); rintro e w6 ⟨x3, R3, b3, hok3, hs3, rfl, hrd3, hg3⟩)
 have HX6 := Lib.hid (HX5.out.of_block (hg3.block fb (Array.getElem?_eq_some_iff.1 HX5.out).1 (fun e => by have := Option.some.inj e; have := HFB.out; omega)))
 have HR6 := Lib.hid hrd3
 have HG6 := Lib.hid (HG5.out.trans hg3)
 have HOK3 := Lib.hid hok3
 clear hrd3 hg3 hok3 hs3 HX5 HR5 HG5 HWE
 go_loopg [5] 3 (fun gk i wr => ∃ k : Int, (k = 1 ∨ k = 2 ∨ k = 3 ∨ k = 4) ∧ gk = (4 - k).toNat ∧ i = .int .i64 k ∧ Blk wr fb #[.string (Tx.mk x1), .int .i64 v, .int .i64 (if St.kindW x3 < k then St.kindW x3 else 0), .string ⟨#[]⟩] 68 ∧ RdIn wr K B rb R3 b3 ∧ W1.grownBy wr (some rb))
 case atStart =>
  have hk0 := (St.kindW_bd x3).1
  refine ⟨1, .inl rfl, rfl, rfl, ?_, HR6.out, HG6.out⟩
  have e : (if St.kindW x3 < 1 then St.kindW x3 else 0) = 0 := by split <;> omega
  rw [e]
  exact HX6.out
 case round =>
  clear HX6 HR6 HG6
  obtain ⟨k, hk, rfl, rfl, hx, hr, hg⟩ := hrel
  by_cases h4 : k = 4
  ·subst h4
   have hkd := St.kindW_bd x3
   have e4 : (if St.kindW x3 < 4 then St.kindW x3 else 0) = St.kindW x3 := if_pos (by omega)
   rw [e4] at hx
   have HPRE := Lib.hid (fil_pre HOK1.out HOK2.out HOK3.out)
   have hq := HQ.out.of_block (hg.block w.heap.size (Array.getElem?_eq_some_iff.1 HQ.out).1 (fun e => by have := Option.some.inj e; have := HFB.out; omega))
   have HKD : Hid (∃ kd, St.kindW x3 = kd) := Lib.hid ⟨_, rfl⟩
   obtain ⟨kd, hkd2⟩ : ∃ kd, St.kindW x3 = kd := ⟨_, rfl⟩
   have HKX := Lib.hid hkd2
   rw [hkd2] at hx hkd
   have HXR := Lib.hid hx; have HRR := Lib.hid hr; have HGR := Lib.hid hg; have HQR := Lib.hid hq
   obtain ⟨f0, f1, f2, f3⟩ := hx.four
   have ff := hx.free
   clear e4 hkd2
   by_cases h0 : kd = 0
   ·subst h0
    obtain ⟨a, c, hb, hr2, hc, hne⟩ := hr
    obtain ⟨r0, r1⟩ := hb.two
    have rf := hb.free
    clear hb hr2 hc hne hx hg hq
    go_upto_region 13 with fail
    have hgb := grown_set (grown_self wr rb) 1 (.bool true)
    have hxb := HXR.out.of_block (hgb.block fb (Array.getElem?_eq_some_iff.1 HXR.out).1 (fun e => by have := Option.some.inj e; have := HFB.out; omega))
    have hqb := HQR.out.of_block (hgb.block w.heap.size (Array.getElem?_eq_some_iff.1 HQR.out).1 (fun e => by have := Option.some.inj e; have := HFB.out; omega))
    have HRB := Lib.hid (HRR.out.setBad true)
    have HGB := Lib.hid (HGR.out.trans hgb)
    generalize wr.setCell ⟨rb, 1, none⟩ (.bool true) = w9 at *
    clear f0 f1 f2 f3 ff r0 r1 rf hgb
    obtain ⟨f0, f1, f2, f3⟩ := hxb.four
    obtain ⟨z0, z1, z2, z3⟩ := (hqb).four
    have zf := (hqb).free
    go_wp2_with fail
    have hZ := ((((hqb).set 0 (.string (Tx.mk x1))).set 1 (.int .i64 v)).set 2 (.int .i64 0)).set 3 (.string ⟨#[]⟩)
    have hgz := grown_set (grown_set (grown_set (grown_set (grown_self w9 w.heap.size) 0 (.string (Tx.mk x1))) 1 (.int .i64 v)) 2 (.int .i64 0)) 3 (.string ⟨#[]⟩)
    have HPP := And.intro HRB.out HGB.out
    have HRZ := HPP.1.grow hgz (by have := HS1.out; omega)
    have HGZ := grown_new ((grownB HB1.out (some rb)).trans HPP.2) hgz (Nat.le_refl _)
    have HTR := And.intro hZ (And.intro HRZ HGZ)
    clear hZ HRZ HGZ hgz HPP
    revert HTR
    generalize (((w9.setCell ⟨w.heap.size, 0, none⟩ (.string (Tx.mk x1))).setCell ⟨w.heap.size, 1, none⟩ (.int .i64 v)).setCell ⟨w.heap.size, 2, none⟩ (.int .i64 0)).setCell ⟨w.heap.size, 3, none⟩ (.string ⟨#[]⟩) = V
    intro HTR
    obtain ⟨hZ, HRZ, HGZ⟩ := HTR
    obtain ⟨g0, g1, g2, g3⟩ := (show Blk V w.heap.size #[.string (Tx.mk x1), .int .i64 v, .int .i64 0, .string ⟨#[]⟩] 68 from hZ).four
    refine bodyPost_ret (v := .agg #[.string (Tx.mk x1), .int .i64 v, .int .i64 0, .string ⟨#[]⟩]) (by simp [results, Tryz.results39, go_sem, g0, g1, g2, g3]) rfl ?_
    refine ⟨⟨Tx.mk x1, v, 0, ⟨#[]⟩⟩, R3, true, ?_, rfl, HRZ, HGZ⟩
    right
    refine ⟨rfl, ?_⟩
    rcases HPRE.out with ⟨b, n, rfl, p1, p2, rfl, p3, p4⟩ | ⟨_, p⟩
    ·unfold St.fileP
     simp [p1, p2, HKX.out]
    ·exact p
   ·have hk0 : (kd == 0) = false := by simpa using h0
    by_cases h1 : kd = 1
    ·subst h1
     clear hx hr hg hq
     have hqb := HQR.out
     obtain ⟨z0, z1, z2, z3⟩ := (hqb).four
     have zf := (hqb).free
     go_wp2_with fail
     have hZ := ((((hqb).set 0 (.string (Tx.mk x1))).set 1 (.int .i64 v)).set 2 (.int .i64 1)).set 3 (.string ⟨#[]⟩)
     have hgz := grown_set (grown_set (grown_set (grown_set (grown_self wr w.heap.size) 0 (.string (Tx.mk x1))) 1 (.int .i64 v)) 2 (.int .i64 1)) 3 (.string ⟨#[]⟩)
     have HPP := And.intro HRR.out HGR.out
     have HRZ := HPP.1.grow hgz (by have := HS1.out; omega)
     have HGZ := grown_new ((grownB HB1.out (some rb)).trans HPP.2) hgz (Nat.le_refl _)
     have HTR := And.intro hZ (And.intro HRZ HGZ)
     clear hZ HRZ HGZ hgz HPP
     revert HTR
     generalize (((wr.setCell ⟨w.heap.size, 0, none⟩ (.string (Tx.mk x1))).setCell ⟨w.heap.size, 1, none⟩ (.int .i64 v)).setCell ⟨w.heap.size, 2, none⟩ (.int .i64 1)).setCell ⟨w.heap.size, 3, none⟩ (.string ⟨#[]⟩) = V
     intro HTR
     obtain ⟨hZ, HRZ, HGZ⟩ := HTR
     obtain ⟨g0, g1, g2, g3⟩ := (show Blk V w.heap.size #[.string (Tx.mk x1), .int .i64 v, .int .i64 1, .string ⟨#[]⟩] 68 from hZ).four
     refine bodyPost_ret (v := .agg #[.string (Tx.mk x1), .int .i64 v, .int .i64 1, .string ⟨#[]⟩]) (by simp [results, Tryz.results39, go_sem, g0, g1, g2, g3]) rfl ?_
     refine ⟨⟨Tx.mk x1, v, 1, ⟨#[]⟩⟩, R3, b3, ?_, rfl, HRZ, HGZ⟩
     rcases HPRE.out with ⟨b, n, rfl, p1, p2, rfl, p3, p4⟩ | ⟨p4, p⟩
     ·left
      refine ⟨?_, p4⟩
      unfold St.fileP
      simp [p1, p2, HKX.out]
     ·exact .inr ⟨p4, p⟩
    ·have hk1 : (kd == 1) = false := by simpa using h1
     have hk1n : (kd != 1) = true := by simpa using h1
     have HWL := Lib.hid (rdWord_is R3 b3 K B rb wr HRR.out)
     unfold WordPost at HWL
     have HNK : Hid (kd ≠ 0 ∧ kd ≠ 1) := Lib.hid ⟨h0, h1⟩
     clear hx hr hg hq h0 h1
     go_upto_region 13 with (go_at_call 15; (with_reducible refine HWL.out.mono ?_); rintro e w8 ⟨x4, R4, b4, hok4, hs4, rfl, hrd4, hg4⟩; have hX8 := HXR.out.of_block (hg4.block fb (Array.getElem?_eq_some_iff.1 HXR.out).1 (fun e => by have := Option.some.inj e; have := HFB.out; omega)); obtain ⟨f0, f1, f2, f3⟩ := hX8.four; have ff := hX8.free)
     have hg9 := grown_set (grown_self w8 fb) 3 (.string (Tx.mk x4))
     have hx9 := hX8.set 3 (.string (Tx.mk x4))
     have hqb := (HQR.out.of_block (hg4.block w.heap.size (Array.getElem?_eq_some_iff.1 HQR.out).1 (fun e => by have := Option.some.inj e; have := HFB.out; omega)))
     have hqb := hqb.of_block (hg9.block w.heap.size (Array.getElem?_eq_some_iff.1 hqb).1 (fun e => by have := Option.some.inj e; have := HFB.out; omega))
     have HRB := Lib.hid (hrd4.grow hg9 HFB.out.2.2.1)
     have HGB := Lib.hid (grown_new (HGR.out.trans hg4) hg9 (by have := HFB.out; have := HS1.out; omega))
     have HOK4 := Lib.hid hok4
     generalize w8.setCell ⟨fb, 3, none⟩ (.string (Tx.mk x4)) = w9 at *
     clear f0 f1 f2 f3 ff hg9 hX8 hrd4 hg4 hok4 hs4
     have hx9 : Blk w9 fb #[.string (Tx.mk x1), .int .i64 v, .int .i64 kd, .string (Tx.mk x4)] 68 := hx9
     obtain ⟨f0, f1, f2, f3⟩ := hx9.four
     obtain ⟨z0, z1, z2, z3⟩ := (hqb).four
     have zf := (hqb).free
     go_wp2_with fail
     have hZ := ((((hqb).set 0 (.string (Tx.mk x1))).set 1 (.int .i64 v)).set 2 (.int .i64 kd)).set 3 (.string (Tx.mk x4))
     have hgz := grown_set (grown_set (grown_set (grown_set (grown_self w9 w.heap.size) 0 (.string (Tx.mk x1))) 1 (.int .i64 v)) 2 (.int .i64 kd)) 3 (.string (Tx.mk x4))
     have HPP := And.intro HRB.out HGB.out
     have HRZ := HPP.1.grow hgz (by have := HS1.out; omega)
     have HGZ := grown_new ((grownB HB1.out (some rb)).trans HPP.2) hgz (Nat.le_refl _)
     have HTR := And.intro hZ (And.intro HRZ HGZ)
     clear hZ HRZ HGZ hgz HPP
     revert HTR
     generalize (((w9.setCell ⟨w.heap.size, 0, none⟩ (.string (Tx.mk x1))).setCell ⟨w.heap.size, 1, none⟩ (.int .i64 v)).setCell ⟨w.heap.size, 2, none⟩ (.int .i64 kd)).setCell ⟨w.heap.size, 3, none⟩ (.string (Tx.mk x4)) = V
     intro HTR
     obtain ⟨hZ, HRZ, HGZ⟩ := HTR
     obtain ⟨g0, g1, g2, g3⟩ := (show Blk V w.heap.size #[.string (Tx.mk x1), .int .i64 v, .int .i64 kd, .string (Tx.mk x4)] 68 from hZ).four
     refine bodyPost_ret (v := .agg #[.string (Tx.mk x1), .int .i64 v, .int .i64 kd, .string (Tx.mk x4)]) (by simp [results, Tryz.results39, go_sem, g0, g1, g2, g3]) rfl ?_
     refine ⟨⟨Tx.mk x1, v, kd, Tx.mk x4⟩, R4, b4, ?_, rfl, HRZ, HGZ⟩
     obtain ⟨z0, z1⟩ := HNK.out
     rcases HPRE.out with ⟨b, n, rfl, p1, p2, rfl, p3, p4⟩ | ⟨p4, p⟩
     ·rcases HOK4.out with ⟨q1, rfl, q3⟩ | ⟨q1, rfl, q3⟩
      ·left
       refine ⟨?_, q3.trans p4⟩
       unfold St.fileP
       simp [p1, p2, HKX.out, z0, z1, q1]
      ·right
       refine ⟨q1, ?_⟩
       unfold St.fileP
       cases R3 with
       | nil => simp [p1, p2, HKX.out, z0, z1]
       | cons y R5 =>
         have := q3 y R5 rfl
         simp [p1, p2, HKX.out, z0, z1, this]
     ·subst p4
      exact .inr ⟨HOK4.out.bad, p⟩
  ·have hk3 : k = 1 ∨ k = 2 ∨ k = 3 := by omega
   have HKW := Lib.hid (fun W => kindWord_is k (by omega) W)
   have hke := kind_eq x3 k hk3
   have hkf : (x3 == (St.kindB k).toList) = decide (St.kindW x3 = k) := by rw [← hke]; congr 1; rw [ByteArray.toList_eq]
   have hkl : (k ≤ 3) = True := by simp; omega
   have hkl2 : decide (k ≤ 3) = true := decide_eq_true (by omega)
   have HXR := Lib.hid hx; have HRR := Lib.hid hr; have HGR := Lib.hid hg
   have HK3 := Lib.hid hk3
   obtain ⟨f0, f1, f2, f3⟩ := hx.four
   have ff := hx.free
   generalize St.kindB k = KB at *
   have hw4 : IntKind.i64.wrap (k + 1) = k + 1 := by rw [IntKind.wrap_i64]; omega
   clear hx hr hg
   by_cases he : St.kindW x3 = k
   ·have hkf : (x3 == KB.toList) = true := by rw [hkf]; simpa using he
    clear hke
    have HE := Lib.hid he
    clear he hk h4 hk3
    go_wp2_with (go_at_call 27; (with_reducible refine (HKW.out _).mono ?_); rintro e w8 ⟨rfl, rfl⟩)
    go_roundg ((4 - (k + 1)).toNat)
    case rel =>
     have hg7 := grown_set (grown_self wr fb) 2 (.int .i64 k)
     have h3 := HK3.out
     refine ⟨k + 1, by omega, rfl, rfl, ?_, HRR.out.grow hg7 HFB.out.2.2.1, grown_new HGR.out hg7 (by have := HFB.out; have := HS1.out; omega)⟩
     have e : (if St.kindW x3 < k + 1 then St.kindW x3 else 0) = k := by rw [HE.out, if_pos (by omega)]
     rw [e]
     exact HXR.out.set 2 (.int .i64 k)
    case measure => have h3 := HK3.out; omega
   ·have hkf : (x3 == KB.toList) = false := by rw [hkf]; simpa using he
    clear hke
    have HE := Lib.hid he
    clear he hk h4 hk3
    go_wp2_with (go_at_call 27; (with_reducible refine (HKW.out _).mono ?_); rintro e w8 ⟨rfl, rfl⟩)
    go_roundg ((4 - (k + 1)).toNat)
    case rel =>
     have h3 := HK3.out
     have h5 := HE.out
     refine ⟨k + 1, by omega, rfl, rfl, ?_, HRR.out, HGR.out⟩
     have e : (if St.kindW x3 < k + 1 then St.kindW x3 else 0) = (if St.kindW x3 < k then St.kindW x3 else 0) := by split <;> split <;> omega
     rw [e]
     exact HXR.out
    case measure => have h3 := HK3.out; omega
structure StIO (W : World) (sb : Nat) (s : Sto) (b : StA) : Prop where
 blk : Blk W sb #[.int .i64 s.least, .int .i64 s.wait, .slice b.ta s.tiers.length b.tc, .slice b.fa s.files.length b.fc, .slice b.ca s.copies.length b.cc, .slice b.ha s.held.length b.hc, .slice b.ba s.bin.length b.bc] 28
 ti : W.ownsRow (sb + 1) 65 4 (.slice b.ta s.tiers.length b.tc) s.tiers.length (St.eT.flat s.tiers)
 fi : W.ownsRow (sb + 1) 68 4 (.slice b.fa s.files.length b.fc) s.files.length (St.eF.flat s.files)
 co : W.ownsRow (sb + 1) 70 4 (.slice b.ca s.copies.length b.cc) s.copies.length (St.eC.flat s.copies)
 he : W.ownsRow (sb + 1) 9 1 (.slice b.ha s.held.length b.hc) s.held.length (St.eS.flat s.held)
 bi : W.ownsRow (sb + 1) 72 2 (.slice b.ba s.bin.length b.bc) s.bin.length (St.eG.flat s.bin)
theorem rp_ne {w : World} {B k n q : Nat} {e t : TypeId} {v : Value} {xs : List Value} {c : Array Value} (h : w.ownsRow B e k v n xs) (hb : Blk w q c t) (hne : e ≠ t) : v.ownBlock ≠ some q := by
 intro hv
 obtain ⟨c0, fz, h0⟩ := Lib.ownsRow_kind h q hv
 have hb' : w.heap[q]? = some (.cells c t (0, 0)) := hb
 rw [hb'] at h0
 cases h0
 exact hne rfl
theorem rp_far {w w' : World} {B k n q : Nat} {e t : TypeId} {v : Value} {xs : List Value} {c : Array Value} (h : w.ownsRow B e k v n xs) (hb : Blk w q c t) (hne : e ≠ t) (hg : w.grownBy w' (some q)) : w'.ownsRow B e k v n xs := h.kept hg (.inr (rp_ne h hb hne))
theorem StIO.keep {W W' : World} {sb : Nat} {s : Sto} {b : StA} (h : StIO W sb s b) (hb : Below W.heap.size W W') : StIO W' sb s b :=
 ⟨h.blk.keep hb, own_keepE h.ti hb, own_keepE h.fi hb, own_keepE h.co hb, own_keepE h.he hb, own_keepE h.bi hb⟩
theorem StIO.far {W W' : World} {sb q : Nat} {s : Sto} {b : StA} {c : Array Value} {t : TypeId} (h : StIO W sb s b) (hb : Blk W q c t) (h0 : q ≠ sb) (h1 : 65 ≠ t) (h2 : 68 ≠ t) (h3 : 70 ≠ t) (h4 : 9 ≠ t) (h5 : 72 ≠ t) (hg : W.grownBy W' (some q)) : StIO W' sb s b :=
 ⟨h.blk.of_block (hg.block sb (Array.getElem?_eq_some_iff.1 h.blk).1 (fun e => h0 (Option.some.inj e).symm)), rp_far h.ti hb h1 hg, rp_far h.fi hb h2 hg, rp_far h.co hb h3 hg, rp_far h.he hb h4 hg, rp_far h.bi hb h5 hg⟩
theorem RdIn.blk {W : World} {K B rb : Nat} {R : List (List UInt8)} {bad : Bool} (h : RdIn W K B rb R bad) : ∃ a c, Blk W rb #[.slice a R.length c, .bool bad] 44 := by
 obtain ⟨a, c, h1, _⟩ := h
 exact ⟨a, c, h1⟩
theorem rp_own {W W' : World} {sb : Nat} {e : TypeId} {k n : Nat} {v : Value} {xs : List Value} (hr : W.ownsRow (sb + 1) e k v n xs) (hg : W.grownBy W' (some sb)) : W'.ownsRow (sb + 1) e k v n xs := hr.kept hg (.inr fun e2 => by have := (hr.lt sb e2).1; omega)
theorem StIO.setInt {W : World} {sb : Nat} {s : Sto} {b : StA} (h : StIO W sb s b) (v : Int) : StIO (W.setCell ⟨sb, 0, none⟩ (.int .i64 v)) sb { s with least := v } b ∧ StIO (W.setCell ⟨sb, 1, none⟩ (.int .i64 v)) sb { s with wait := v } b := by
 have g0 := grown_set (grown_self W sb) 0 (.int .i64 v)
 have g1 := grown_set (grown_self W sb) 1 (.int .i64 v)
 exact ⟨⟨h.blk.set 0 _, rp_own h.ti g0, rp_own h.fi g0, rp_own h.co g0, rp_own h.he g0, rp_own h.bi g0⟩, ⟨h.blk.set 1 _, rp_own h.ti g1, rp_own h.fi g1, rp_own h.co g1, rp_own h.he g1, rp_own h.bi g1⟩⟩
def NoB (sb : Nat) (s : Sto) (b : StA) (q : Nat) : Prop :=
 q ≠ sb ∧ (Value.slice b.ta s.tiers.length b.tc).ownBlock ≠ some q ∧ (Value.slice b.fa s.files.length b.fc).ownBlock ≠ some q ∧ (Value.slice b.ca s.copies.length b.cc).ownBlock ≠ some q ∧ (Value.slice b.ha s.held.length b.hc).ownBlock ≠ some q ∧ (Value.slice b.ba s.bin.length b.bc).ownBlock ≠ some q
theorem StIO.noB {W : World} {sb q : Nat} {s : Sto} {b : StA} (h : StIO W sb s b) (hq : W.heap.size ≤ q) : NoB sb s b q := by
 have h0 := (Array.getElem?_eq_some_iff.1 h.blk).1
 refine ⟨by omega, fun e => ?_, fun e => ?_, fun e => ?_, fun e => ?_, fun e => ?_⟩
 ·have := (h.ti.lt q e).2; omega
 ·have := (h.fi.lt q e).2; omega
 ·have := (h.co.lt q e).2; omega
 ·have := (h.he.lt q e).2; omega
 ·have := (h.bi.lt q e).2; omega
theorem StIO.farN {W W' : World} {sb q : Nat} {s : Sto} {b : StA} (h : StIO W sb s b) (n : NoB sb s b q) (hg : W.grownBy W' (some q)) : StIO W' sb s b :=
 ⟨h.blk.of_block (hg.block sb (Array.getElem?_eq_some_iff.1 h.blk).1 (fun e => n.1 (Option.some.inj e).symm)), h.ti.kept hg (.inr n.2.1), h.fi.kept hg (.inr n.2.2.1), h.co.kept hg (.inr n.2.2.2.1), h.he.kept hg (.inr n.2.2.2.2.1), h.bi.kept hg (.inr n.2.2.2.2.2)⟩
theorem rp_apart {w : World} {B B' : Nat} {e e' : TypeId} {size size' : Nat} {v v' : Value} {n n' : Nat} {xs xs' : List Value} (h : w.ownsRow B e size v n xs) (h' : w.ownsRow B' e' size' v' n' xs') (hne : e ≠ e') : v'.ownBlock = none ∨ v'.ownBlock ≠ v.ownBlock := by
 cases hv : v'.ownBlock with
 | none => exact .inl rfl
 | some b =>
   right
   intro he
   obtain ⟨cs, fz, hc⟩ := Lib.ownsRow_kind h b he.symm
   obtain ⟨cs', fz', hc'⟩ := Lib.ownsRow_kind h' b hv
   rw [hc] at hc'
   injection hc' with hc'
   injection hc' with _ h2
   exact hne h2
theorem StIO.moreT {V W' : World} {sb g cap : Nat} {s : Sto} {b : StA} {t : Tir} {xs : List Value} (h : StIO V sb s b) (hg : V.grownBy W' (Value.slice b.ta s.tiers.length b.tc).ownBlock) (hn : W'.ownsRow (sb + 1) 65 4 (.slice (some ⟨g, 0, none⟩) (s.tiers.length + 1) cap) (s.tiers.length + 1) xs) (hx : xs = St.eT.flat (s.tiers ++ [t])) :
  StIO (W'.setCell ⟨sb, 2, none⟩ (.slice (some ⟨g, 0, none⟩) (s.tiers.length + 1) cap)) sb { s with tiers := s.tiers ++ [t] } { b with ta := some ⟨g, 0, none⟩, tc := cap } ∧ Below sb V (W'.setCell ⟨sb, 2, none⟩ (.slice (some ⟨g, 0, none⟩) (s.tiers.length + 1) cap)) ∧ (∀ q c ty, Blk V q c ty → 65 ≠ ty → q ≠ sb → Blk (W'.setCell ⟨sb, 2, none⟩ (.slice (some ⟨g, 0, none⟩) (s.tiers.length + 1) cap)) q c ty) := by
 subst hx
 have hlt : ∀ q, (Value.slice b.ta s.tiers.length b.tc).ownBlock = some q → sb + 1 ≤ q := fun q e => (h.ti.lt q e).1
 have hsl := (Array.getElem?_eq_some_iff.1 h.blk).1
 have hb : Blk W' sb #[.int .i64 s.least, .int .i64 s.wait, .slice b.ta s.tiers.length b.tc, .slice b.fa s.files.length b.fc, .slice b.ca s.copies.length b.cc, .slice b.ha s.held.length b.hc, .slice b.ba s.bin.length b.bc] 28 := h.blk.of_block (hg.block sb hsl (fun e => by have := hlt sb e.symm; omega))
 have gs := grown_set (grown_self W' sb) 2 (.slice (some ⟨g, 0, none⟩) (s.tiers.length + 1) cap)
 refine ⟨⟨?_, ?_, rp_own (h.fi.kept hg (rp_apart h.ti h.fi (by decide))) gs, rp_own (h.co.kept hg (rp_apart h.ti h.co (by decide))) gs, rp_own (h.he.kept hg (rp_apart h.ti h.he (by decide))) gs, rp_own (h.bi.kept hg (rp_apart h.ti h.bi (by decide))) gs⟩, ?_, ?_⟩
 ·have := hb.set 2 (.slice (some ⟨g, 0, none⟩) (s.tiers.length + 1) cap)
  rw [show s.tiers.length + 1 = (s.tiers ++ [t]).length by simp] at this ⊢
  exact this
 ·have := rp_own hn gs
  rw [show (s.tiers ++ [t]).length = s.tiers.length + 1 by simp]
  exact this
 ·refine ⟨gs.os.trans hg.os, gs.tape.trans hg.tape, gs.output.trans hg.output, Nat.le_trans hg.size gs.size, fun k hk => ?_⟩
  rw [gs.block k (by have := hg.size; omega) (fun e => by have := Option.some.inj e; omega), hg.block k (by omega) (fun e => by have := hlt k e.symm; omega)]
 ·intro q c ty hq hne hqs
  refine (hq.of_block (hg.block q (Array.getElem?_eq_some_iff.1 hq).1 fun e => rp_ne h.ti hq hne e.symm)).of_block (gs.block q ?_ fun e => hqs (Option.some.inj e))
  have := (Array.getElem?_eq_some_iff.1 hq).1
  have := hg.size
  omega
theorem StIO.moreF {V W' : World} {sb g cap : Nat} {s : Sto} {b : StA} {t : Fil} {xs : List Value} (h : StIO V sb s b) (hg : V.grownBy W' (Value.slice b.fa s.files.length b.fc).ownBlock) (hn : W'.ownsRow (sb + 1) 68 4 (.slice (some ⟨g, 0, none⟩) (s.files.length + 1) cap) (s.files.length + 1) xs) (hx : xs = St.eF.flat (s.files ++ [t])) :
  StIO (W'.setCell ⟨sb, 3, none⟩ (.slice (some ⟨g, 0, none⟩) (s.files.length + 1) cap)) sb { s with files := s.files ++ [t] } { b with fa := some ⟨g, 0, none⟩, fc := cap } ∧ Below sb V (W'.setCell ⟨sb, 3, none⟩ (.slice (some ⟨g, 0, none⟩) (s.files.length + 1) cap)) ∧ (∀ q c ty, Blk V q c ty → 68 ≠ ty → q ≠ sb → Blk (W'.setCell ⟨sb, 3, none⟩ (.slice (some ⟨g, 0, none⟩) (s.files.length + 1) cap)) q c ty) := by
 subst hx
 have hlt : ∀ q, (Value.slice b.fa s.files.length b.fc).ownBlock = some q → sb + 1 ≤ q := fun q e => (h.fi.lt q e).1
 have hsl := (Array.getElem?_eq_some_iff.1 h.blk).1
 have hb : Blk W' sb #[.int .i64 s.least, .int .i64 s.wait, .slice b.ta s.tiers.length b.tc, .slice b.fa s.files.length b.fc, .slice b.ca s.copies.length b.cc, .slice b.ha s.held.length b.hc, .slice b.ba s.bin.length b.bc] 28 := h.blk.of_block (hg.block sb hsl (fun e => by have := hlt sb e.symm; omega))
 have gs := grown_set (grown_self W' sb) 3 (.slice (some ⟨g, 0, none⟩) (s.files.length + 1) cap)
 refine ⟨⟨?_, rp_own (h.ti.kept hg (rp_apart h.fi h.ti (by decide))) gs, ?_, rp_own (h.co.kept hg (rp_apart h.fi h.co (by decide))) gs, rp_own (h.he.kept hg (rp_apart h.fi h.he (by decide))) gs, rp_own (h.bi.kept hg (rp_apart h.fi h.bi (by decide))) gs⟩, ?_, ?_⟩
 ·have := hb.set 3 (.slice (some ⟨g, 0, none⟩) (s.files.length + 1) cap)
  rw [show s.files.length + 1 = (s.files ++ [t]).length by simp] at this ⊢
  exact this
 ·have := rp_own hn gs
  rw [show (s.files ++ [t]).length = s.files.length + 1 by simp]
  exact this
 ·refine ⟨gs.os.trans hg.os, gs.tape.trans hg.tape, gs.output.trans hg.output, Nat.le_trans hg.size gs.size, fun k hk => ?_⟩
  rw [gs.block k (by have := hg.size; omega) (fun e => by have := Option.some.inj e; omega), hg.block k (by omega) (fun e => by have := hlt k e.symm; omega)]
 ·intro q c ty hq hne hqs
  refine (hq.of_block (hg.block q (Array.getElem?_eq_some_iff.1 hq).1 fun e => rp_ne h.fi hq hne e.symm)).of_block (gs.block q ?_ fun e => hqs (Option.some.inj e))
  have := (Array.getElem?_eq_some_iff.1 hq).1
  have := hg.size
  omega
theorem StIO.moreC {V W' : World} {sb g cap : Nat} {s : Sto} {b : StA} {t : Cop} {xs : List Value} (h : StIO V sb s b) (hg : V.grownBy W' (Value.slice b.ca s.copies.length b.cc).ownBlock) (hn : W'.ownsRow (sb + 1) 70 4 (.slice (some ⟨g, 0, none⟩) (s.copies.length + 1) cap) (s.copies.length + 1) xs) (hx : xs = St.eC.flat (s.copies ++ [t])) :
  StIO (W'.setCell ⟨sb, 4, none⟩ (.slice (some ⟨g, 0, none⟩) (s.copies.length + 1) cap)) sb { s with copies := s.copies ++ [t] } { b with ca := some ⟨g, 0, none⟩, cc := cap } ∧ Below sb V (W'.setCell ⟨sb, 4, none⟩ (.slice (some ⟨g, 0, none⟩) (s.copies.length + 1) cap)) ∧ (∀ q c ty, Blk V q c ty → 70 ≠ ty → q ≠ sb → Blk (W'.setCell ⟨sb, 4, none⟩ (.slice (some ⟨g, 0, none⟩) (s.copies.length + 1) cap)) q c ty) := by
 subst hx
 have hlt : ∀ q, (Value.slice b.ca s.copies.length b.cc).ownBlock = some q → sb + 1 ≤ q := fun q e => (h.co.lt q e).1
 have hsl := (Array.getElem?_eq_some_iff.1 h.blk).1
 have hb : Blk W' sb #[.int .i64 s.least, .int .i64 s.wait, .slice b.ta s.tiers.length b.tc, .slice b.fa s.files.length b.fc, .slice b.ca s.copies.length b.cc, .slice b.ha s.held.length b.hc, .slice b.ba s.bin.length b.bc] 28 := h.blk.of_block (hg.block sb hsl (fun e => by have := hlt sb e.symm; omega))
 have gs := grown_set (grown_self W' sb) 4 (.slice (some ⟨g, 0, none⟩) (s.copies.length + 1) cap)
 refine ⟨⟨?_, rp_own (h.ti.kept hg (rp_apart h.co h.ti (by decide))) gs, rp_own (h.fi.kept hg (rp_apart h.co h.fi (by decide))) gs, ?_, rp_own (h.he.kept hg (rp_apart h.co h.he (by decide))) gs, rp_own (h.bi.kept hg (rp_apart h.co h.bi (by decide))) gs⟩, ?_, ?_⟩
 ·have := hb.set 4 (.slice (some ⟨g, 0, none⟩) (s.copies.length + 1) cap)
  rw [show s.copies.length + 1 = (s.copies ++ [t]).length by simp] at this ⊢
  exact this
 ·have := rp_own hn gs
  rw [show (s.copies ++ [t]).length = s.copies.length + 1 by simp]
  exact this
 ·refine ⟨gs.os.trans hg.os, gs.tape.trans hg.tape, gs.output.trans hg.output, Nat.le_trans hg.size gs.size, fun k hk => ?_⟩
  rw [gs.block k (by have := hg.size; omega) (fun e => by have := Option.some.inj e; omega), hg.block k (by omega) (fun e => by have := hlt k e.symm; omega)]
 ·intro q c ty hq hne hqs
  refine (hq.of_block (hg.block q (Array.getElem?_eq_some_iff.1 hq).1 fun e => rp_ne h.co hq hne e.symm)).of_block (gs.block q ?_ fun e => hqs (Option.some.inj e))
  have := (Array.getElem?_eq_some_iff.1 hq).1
  have := hg.size
  omega
theorem StIO.moreS {V W' : World} {sb g cap : Nat} {s : Sto} {b : StA} {t : ByteArray} {xs : List Value} (h : StIO V sb s b) (hg : V.grownBy W' (Value.slice b.ha s.held.length b.hc).ownBlock) (hn : W'.ownsRow (sb + 1) 9 1 (.slice (some ⟨g, 0, none⟩) (s.held.length + 1) cap) (s.held.length + 1) xs) (hx : xs = St.eS.flat (s.held ++ [t])) :
  StIO (W'.setCell ⟨sb, 5, none⟩ (.slice (some ⟨g, 0, none⟩) (s.held.length + 1) cap)) sb { s with held := s.held ++ [t] } { b with ha := some ⟨g, 0, none⟩, hc := cap } ∧ Below sb V (W'.setCell ⟨sb, 5, none⟩ (.slice (some ⟨g, 0, none⟩) (s.held.length + 1) cap)) ∧ (∀ q c ty, Blk V q c ty → 9 ≠ ty → q ≠ sb → Blk (W'.setCell ⟨sb, 5, none⟩ (.slice (some ⟨g, 0, none⟩) (s.held.length + 1) cap)) q c ty) := by
 subst hx
 have hlt : ∀ q, (Value.slice b.ha s.held.length b.hc).ownBlock = some q → sb + 1 ≤ q := fun q e => (h.he.lt q e).1
 have hsl := (Array.getElem?_eq_some_iff.1 h.blk).1
 have hb : Blk W' sb #[.int .i64 s.least, .int .i64 s.wait, .slice b.ta s.tiers.length b.tc, .slice b.fa s.files.length b.fc, .slice b.ca s.copies.length b.cc, .slice b.ha s.held.length b.hc, .slice b.ba s.bin.length b.bc] 28 := h.blk.of_block (hg.block sb hsl (fun e => by have := hlt sb e.symm; omega))
 have gs := grown_set (grown_self W' sb) 5 (.slice (some ⟨g, 0, none⟩) (s.held.length + 1) cap)
 refine ⟨⟨?_, rp_own (h.ti.kept hg (rp_apart h.he h.ti (by decide))) gs, rp_own (h.fi.kept hg (rp_apart h.he h.fi (by decide))) gs, rp_own (h.co.kept hg (rp_apart h.he h.co (by decide))) gs, ?_, rp_own (h.bi.kept hg (rp_apart h.he h.bi (by decide))) gs⟩, ?_, ?_⟩
 ·have := hb.set 5 (.slice (some ⟨g, 0, none⟩) (s.held.length + 1) cap)
  rw [show s.held.length + 1 = (s.held ++ [t]).length by simp] at this ⊢
  exact this
 ·have := rp_own hn gs
  rw [show (s.held ++ [t]).length = s.held.length + 1 by simp]
  exact this
 ·refine ⟨gs.os.trans hg.os, gs.tape.trans hg.tape, gs.output.trans hg.output, Nat.le_trans hg.size gs.size, fun k hk => ?_⟩
  rw [gs.block k (by have := hg.size; omega) (fun e => by have := Option.some.inj e; omega), hg.block k (by omega) (fun e => by have := hlt k e.symm; omega)]
 ·intro q c ty hq hne hqs
  refine (hq.of_block (hg.block q (Array.getElem?_eq_some_iff.1 hq).1 fun e => rp_ne h.he hq hne e.symm)).of_block (gs.block q ?_ fun e => hqs (Option.some.inj e))
  have := (Array.getElem?_eq_some_iff.1 hq).1
  have := hg.size
  omega
theorem StIO.moreG {V W' : World} {sb g cap : Nat} {s : Sto} {b : StA} {t : Gon} {xs : List Value} (h : StIO V sb s b) (hg : V.grownBy W' (Value.slice b.ba s.bin.length b.bc).ownBlock) (hn : W'.ownsRow (sb + 1) 72 2 (.slice (some ⟨g, 0, none⟩) (s.bin.length + 1) cap) (s.bin.length + 1) xs) (hx : xs = St.eG.flat (s.bin ++ [t])) :
  StIO (W'.setCell ⟨sb, 6, none⟩ (.slice (some ⟨g, 0, none⟩) (s.bin.length + 1) cap)) sb { s with bin := s.bin ++ [t] } { b with ba := some ⟨g, 0, none⟩, bc := cap } ∧ Below sb V (W'.setCell ⟨sb, 6, none⟩ (.slice (some ⟨g, 0, none⟩) (s.bin.length + 1) cap)) ∧ (∀ q c ty, Blk V q c ty → 72 ≠ ty → q ≠ sb → Blk (W'.setCell ⟨sb, 6, none⟩ (.slice (some ⟨g, 0, none⟩) (s.bin.length + 1) cap)) q c ty) := by
 subst hx
 have hlt : ∀ q, (Value.slice b.ba s.bin.length b.bc).ownBlock = some q → sb + 1 ≤ q := fun q e => (h.bi.lt q e).1
 have hsl := (Array.getElem?_eq_some_iff.1 h.blk).1
 have hb : Blk W' sb #[.int .i64 s.least, .int .i64 s.wait, .slice b.ta s.tiers.length b.tc, .slice b.fa s.files.length b.fc, .slice b.ca s.copies.length b.cc, .slice b.ha s.held.length b.hc, .slice b.ba s.bin.length b.bc] 28 := h.blk.of_block (hg.block sb hsl (fun e => by have := hlt sb e.symm; omega))
 have gs := grown_set (grown_self W' sb) 6 (.slice (some ⟨g, 0, none⟩) (s.bin.length + 1) cap)
 refine ⟨⟨?_, rp_own (h.ti.kept hg (rp_apart h.bi h.ti (by decide))) gs, rp_own (h.fi.kept hg (rp_apart h.bi h.fi (by decide))) gs, rp_own (h.co.kept hg (rp_apart h.bi h.co (by decide))) gs, rp_own (h.he.kept hg (rp_apart h.bi h.he (by decide))) gs, ?_⟩, ?_, ?_⟩
 ·have := hb.set 6 (.slice (some ⟨g, 0, none⟩) (s.bin.length + 1) cap)
  rw [show s.bin.length + 1 = (s.bin ++ [t]).length by simp] at this ⊢
  exact this
 ·have := rp_own hn gs
  rw [show (s.bin ++ [t]).length = s.bin.length + 1 by simp]
  exact this
 ·refine ⟨gs.os.trans hg.os, gs.tape.trans hg.tape, gs.output.trans hg.output, Nat.le_trans hg.size gs.size, fun k hk => ?_⟩
  rw [gs.block k (by have := hg.size; omega) (fun e => by have := Option.some.inj e; omega), hg.block k (by omega) (fun e => by have := hlt k e.symm; omega)]
 ·intro q c ty hq hne hqs
  refine (hq.of_block (hg.block q (Array.getElem?_eq_some_iff.1 hq).1 fun e => rp_ne h.bi hq hne e.symm)).of_block (gs.block q ?_ fun e => hqs (Option.some.inj e))
  have := (Array.getElem?_eq_some_iff.1 hq).1
  have := hg.size
  omega
def PutPost (w : World) (sb rb : Nat) (s : Sto) (n : Nat) (R : List (List UInt8)) (e : Ending) (w' : World) : Prop :=
 e = .returned (.tuple #[]) ∧ Below sb w w' ∧ ∃ a m c bad', Blk w' rb #[.slice a m c, .bool bad'] 44 ∧ ((bad' = false ∧ ∃ E b', St.entK n R = some E ∧ StIO w' sb (E.put s) b') ∨ (bad' = true ∧ St.entK n R = none))
theorem below_rp {W W' : World} {sb q : Nat} (h : W.grownBy W' (some q)) (hq : sb ≤ q) (hs : sb ≤ W.heap.size) : Below sb W W' := ⟨h.os, h.tape, h.output, h.size, fun k hk => h.block k (by omega) (fun e => by have := Option.some.inj e; omega)⟩
theorem below_trS {B : Nat} {a b c : World} (h : Below B a b) (k : Below B b c) : Below B a c := h.trans k
theorem put0_pre {R R1 R2 : List (List UInt8)} {b1 b2 : Bool} {v1 v2 : Int} (h1 : NumOk R false v1 R1 b1) (h2 : NumOk R1 b1 v2 R2 b2) :
  (b2 = false ∧ ∃ x y n m, R = x :: y :: R2 ∧ St.num13 x = some n ∧ St.num13 y = some m ∧ v1 = ((n : Nat) : Int) ∧ v2 = ((m : Nat) : Int)) ∨ (b2 = true ∧ St.entS R = none) := by
 rcases h1 with ⟨x, n, rfl, k2, rfl, rfl⟩ | ⟨rfl, k2⟩
 ·rcases h2 with ⟨y, m, rfl, m2, rfl, rfl⟩ | ⟨rfl, m2⟩
  ·exact .inl ⟨rfl, x, y, n, m, rfl, k2, m2, rfl, rfl⟩
  ·refine .inr ⟨rfl, ?_⟩
   match R1, m2 with
   | [], _ => rfl
   | [y], m2 => unfold St.entS; simp [k2, m2 y [] rfl]
   | _ :: _ :: _, _ => rfl
 ·refine .inr ⟨h2.bad, ?_⟩
  match R, k2 with
  | [], _ => rfl
  | [x], _ => rfl
  | [x, y], k2 => unfold St.entS; simp [k2 x [y] rfl]
  | _ :: _ :: _ :: _, _ => rfl
theorem StIO.rp {W : World} {sb rb : Nat} {s : Sto} {b : StA} {v : Bool} {x : Value} (h : StIO W sb s b) (hb : Blk W rb #[x, .bool v] 44) (hne : rb ≠ sb) (u : Bool) : StIO (W.setCell ⟨rb, 1, none⟩ (.bool u)) sb s b :=
 h.far hb hne (by decide) (by decide) (by decide) (by decide) (by decide) (grown_set (grown_self W rb) 1 (.bool u))
theorem put0_is (s : Sto) (b : StA) (sb K B rb : Nat) (R : List (List UInt8)) (w : World) (h : RdIn w K B rb R false) (hS : StIO w sb s b) (hsr : sb < rb ∧ sb < K) (hl : ∀ x ∈ R, x.length ≤ 1000000000000) :
  Calls Tryz.prog 16 #[.pointer (some ⟨rb, 0, none⟩), .pointer (some ⟨sb, 0, none⟩), .int .i64 0] w (PutPost w sb rb s 0 R) := by
 have HN1 := Lib.hid (numberS_is R false K B rb w h hl)
 unfold NumrPost at HN1
 obtain ⟨a0, c0, hb0⟩ := h.blk
 have HSS := Lib.hid hS
 have HB0 := Lib.hid hb0
 have HL := Lib.hid hl
 have hsl := (Array.getElem?_eq_some_iff.1 hS.blk).1
 have hrl := h.lt
 have HSB : Hid ((sb < rb ∧ sb < K) ∧ sb < w.heap.size) := Lib.hid ⟨hsr, hsl⟩
 clear h hS hb0 hl hsr hsl hrl
 go_enter Tryz.func16, Tryz.ntmps16
 go_upto_region 3 with (go_at_call 37; (with_reducible refine HN1.out.mono ?_); rintro e w2 ⟨v1, R1, b1, hok1, hs1, rfl, hrd1, hg1⟩; have hSW := HSS.out.far HB0.out (by have := HSB.out; omega) (by decide) (by decide) (by decide) (by decide) (by decide) hg1; obtain ⟨q0, q1, q2, q3, q4, q5, q6⟩ := hSW.blk.seven; have qf := hSW.blk.free)
 have hS3 := (hSW.setInt v1).1
 have hg3 := grown_set (grown_self w2 sb) 0 (.int .i64 v1)
 have HR3 := Lib.hid (hrd1.low hg3 HSB.out.1.2 (by have := HSB.out; omega))
 have HB3 := Lib.hid (below_rp (sb := sb) hg1 (by have := HSB.out; omega) (by have := HSB.out; omega))
 have HB4 := Lib.hid (below_rp (sb := sb) hg3 (Nat.le_refl _) (by have := hg1.size; have := HSB.out; omega))
 have HS3 := Lib.hid hS3
 have HOK1 := Lib.hid hok1
 have hl1 : ∀ x ∈ R1, x.length ≤ 1000000000000 := fun x hx => HL.out x (hs1 x hx)
 generalize w2.setCell ⟨sb, 0, none⟩ (.int .i64 v1) = w3 at *
 have HN2 := Lib.hid (numberS_is R1 b1 K B rb w3 HR3.out hl1)
 unfold NumrPost at HN2
 obtain ⟨a3, c3, hb3⟩ := HR3.out.blk
 have HB3K := Lib.hid hb3
 clear hS3 hg3 hSW hrd1 hg1 hok1 hs1 hl1 hb3 q0 q1 q2 q3 q4 q5 q6 qf
 go_upto_region 24 with (go_at_call 37; (with_reducible refine HN2.out.mono ?_); rintro e w5 ⟨v2, R2, b2, hok2, hs2, rfl, hrd2, hg2⟩; have hSW := HS3.out.far HB3K.out (by have := HSB.out; omega) (by decide) (by decide) (by decide) (by decide) (by decide) hg2; obtain ⟨q0, q1, q2, q3, q4, q5, q6⟩ := hSW.blk.seven; have qf := hSW.blk.free)
 have hS5 := (hSW.setInt v2).2
 have hg5 := grown_set (grown_self w5 sb) 1 (.int .i64 v2)
 have HRZ := Lib.hid (hrd2.low hg5 HSB.out.1.2 (by have := HSB.out; omega))
 have HB5 := Lib.hid ((HB3.out.trans HB4.out).trans ((below_rp (sb := sb) hg2 (by have := HSB.out; omega) (by have := HB3.out.size; have := HB4.out.size; have := HSB.out; omega)).trans (below_rp (sb := sb) hg5 (Nat.le_refl _) (by have := hg2.size; have := HB3.out.size; have := HB4.out.size; have := HSB.out; omega))))
 have HSZ := Lib.hid hS5
 have HOK2 := Lib.hid hok2
 generalize w5.setCell ⟨sb, 1, none⟩ (.int .i64 v2) = w6 at *
 clear hS5 hg5 hSW hrd2 hg2 hok2 hs2 q0 q1 q2 q3 q4 q5 q6 qf
 have HBZ := HB5
 have HPRE := Lib.hid (put0_pre HOK1.out HOK2.out)
 have H3 : Hid (b2 = false → R2 = [] → ∀ W, StIO W sb { { s with least := v1 } with wait := v2 } b → ∃ E b', St.entK 0 R = some E ∧ StIO W sb (E.put s) b') := Lib.hid (fun e0 e1 W hw => by
  rcases HPRE.out with ⟨_, x, y, n, m, p1, p2, p3, rfl, rfl⟩ | ⟨p, _⟩
  ·refine ⟨.sto n m, b, ?_, hw⟩
   show St.entS R = _
   rw [p1, e1]; unfold St.entS; simp [p2, p3]
  ·rw [e0] at p; cases p)
 have H4 : Hid (b2 = false → 0 < R2.length → St.entK 0 R = none) := Lib.hid (fun e0 e1 => by
  rcases HPRE.out with ⟨_, x, y, n, m, p1, _⟩ | ⟨p, _⟩
  ·show St.entS R = _
   rw [p1]
   cases R2 with
   | nil => simp at e1
   | cons z R2 => rfl
  ·rw [e0] at p; cases p)
 have H5 : Hid (b2 = true → St.entK 0 R = none) := Lib.hid (fun e0 => by
  rcases HPRE.out with ⟨p, _⟩ | ⟨_, p⟩
  ·rw [e0] at p; cases p
  ·exact p)
 obtain ⟨a9, c9, hb9⟩ := HRZ.out.blk
 have HB9 := Lib.hid hb9
 cases b2
 ·rcases Nat.eq_zero_or_pos (R2).length with hz | hz
  ·have hR0 := List.eq_nil_of_length_eq_zero hz
   subst hR0
   obtain ⟨r0, r1⟩ := hb9.two
   have rf := hb9.free
   clear hb9 hz
   go_wp2_with fail
   go_end0
   exact ⟨rfl, HBZ.out.trans (below_rp (grown_set (grown_self _ rb) 1 (.bool false)) (by have := HSB.out; omega) (by have := HBZ.out.size; have := HSB.out; omega)), _, _, _, false, HB9.out.set 1 (.bool false), .inl ⟨rfl, H3.out (by first | rfl | trivial) (by first | rfl | trivial) _ (HSZ.out.rp HB9.out (by have := HSB.out; omega) false)⟩⟩
  ·have hz1 : ((0 : Int) < (((R2).length : Nat) : Int)) = True := by simp; omega
   have hz2 : decide ((0 : Int) < (((R2).length : Nat) : Int)) = true := decide_eq_true (by omega)
   have hz3 : decide (0 < (R2).length) = true := decide_eq_true hz
   have HZP := Lib.hid hz
   obtain ⟨r0, r1⟩ := hb9.two
   have rf := hb9.free
   clear hb9 hz
   go_wp2_with fail
   go_end0
   exact ⟨rfl, HBZ.out.trans (below_rp (grown_set (grown_self _ rb) 1 (.bool true)) (by have := HSB.out; omega) (by have := HBZ.out.size; have := HSB.out; omega)), _, _, _, true, HB9.out.set 1 (.bool true), .inr ⟨rfl, H4.out (by first | rfl | trivial) (by have := HZP.out; first | exact this | trivial)⟩⟩
 ·obtain ⟨r0, r1⟩ := hb9.two
  have rf := hb9.free
  clear hb9
  go_wp2_with fail
  go_end0
  exact ⟨rfl, HBZ.out.trans (below_rp (grown_set (grown_self _ rb) 1 (.bool true)) (by have := HSB.out; omega) (by have := HBZ.out.size; have := HSB.out; omega)), _, _, _, true, HB9.out.set 1 (.bool true), .inr ⟨rfl, H5.out (by first | rfl | trivial)⟩⟩
end Go.Proofs.YtbbgebpgpadclaaGreatDoor

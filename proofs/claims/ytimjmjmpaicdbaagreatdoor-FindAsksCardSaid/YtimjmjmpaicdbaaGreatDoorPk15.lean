/- Parts of the proof, no condition: TxMath, FaMath, FaMap, TxLays, TxTab, DaysMath, DaysWalks, DaysRef, DaysProg, DaysDate, TxPad. -/
import Derived.Lib.ItoaLen
import Derived.Lib.Repeat
import Derived.Test.YtimjmjmpaicdbaaGreatDoorProg
import Derived.Test.YtimjmjmpaicdbaaGreatDoorPk14
import Derived.Maps.OwnSet
import Derived.Maps.RangeWalk
import Derived.WideKeyEntry
import Derived.DeepKeys4
import Derived.Shelf.Strconv.Itoa3
import Derived.Shelf.Strings.Repeat
import Derived.Lib.LaidTab
import Derived.LaidMore
import Derived.Stop.LaidErr
import Derived.Shelf.Unicode.PredsPay
import Derived.Test.YtimjmjmpaicdbaaGreatDoorPk1
import Derived.BigRegion
set_option maxRecDepth 100000
set_option maxHeartbeats 2000000
set_option linter.unusedSimpArgs false
set_option linter.unusedVariables false
namespace Go.Proofs.YtimjmjmpaicdbaaGreatDoor
namespace Tx
open Go.Lib
abbrev mk (l : List UInt8) : ByteArray := ⟨l.toArray⟩
theorem mk_append (a b : List UInt8) : mk a ++ mk b = mk (a ++ b) := by
 apply ByteArray.ext
 simp [mk]
theorem mk_size (a : List UInt8) : (mk a).size = a.length := by simp [ByteArray.size]
theorem mk_toList (a : List UInt8) : (mk a).data.toList = a := by simp
def dl (n : Nat) : Nat := (decDigits n).length
theorem dl_pos (n : Nat) : 1 ≤ dl n := by
 unfold dl; rw [decDigits]; split <;> simp
theorem dl_one {n : Nat} (h : n < 10) : dl n = 1 := by unfold dl; rw [decDigits, dif_pos h]; rfl
theorem dl_succ {n : Nat} (h : 10 ≤ n) : dl n = dl (n / 10) + 1 := by unfold dl; rw [decDigits, dif_neg (by omega)]; simp
theorem dl_two {n : Nat} (h : 10 ≤ n) (h2 : n < 100) : dl n = 2 := by rw [dl_succ h, dl_one (by omega)]
theorem dl_three {n : Nat} (h : 100 ≤ n) (h2 : n < 1000) : dl n = 3 := by rw [dl_succ (by omega), dl_two (by omega) (by omega)]
theorem dl_four {n : Nat} (h : 1000 ≤ n) (h2 : n < 10000) : dl n = 4 := by rw [dl_succ (by omega), dl_three (by omega) (by omega)]
theorem dl_le (n : Nat) (h : n ≤ 9223372036854775807) : dl n ≤ 19 := by
 have key : ∀ k n, n < 10 ^ (k + 1) → dl n ≤ k + 1 := by
  intro k
  induction k with
  | zero => intro n hn; rw [dl_one (by simpa using hn)]; omega
  | succ k ih =>
    intro n hn
    by_cases h1 : n < 10
    ·rw [dl_one h1]; omega
    ·rw [dl_succ (by omega)]
     have h2 : n / 10 < 10 ^ (k + 1) := by rw [Nat.pow_succ] at hn; omega
     have := ih _ h2; omega
 exact key 18 n (by omega)
def pad (n k : Nat) : List UInt8 := List.replicate (k - dl n) 48 ++ decDigits n
theorem pad_len {n k : Nat} (h : dl n ≤ k) : (pad n k).length = k := by
 have e : (decDigits n).length = dl n := rfl
 unfold pad; rw [List.length_append, List.length_replicate, e]; omega
theorem pad_big {n k : Nat} (h : k ≤ dl n) : pad n k = decDigits n := by
 unfold pad; rw [show k - dl n = 0 by omega]; rfl
def clock (s : Nat) : List UInt8 := pad (s / 3600) 2 ++ [58] ++ pad (s / 60 % 60) 2 ++ [58] ++ pad (s % 60) 2
end Tx
end Go.Proofs.YtimjmjmpaicdbaaGreatDoor
namespace Go.Proofs.YtimjmjmpaicdbaaGreatDoor
open Go.RowKit Go.Sort Go.Shelf
namespace Fa
abbrev It := Int × ByteArray
def cn {α : Type} [DecidableEq α] (x : α) (L : List α) : Nat := L.countP (fun y => decide (y = x))
section
variable {α β : Type} [DecidableEq α] [DecidableEq β]
theorem cn_nil (x : α) : cn x [] = 0 := rfl
theorem cn_snoc (x : α) (L : List α) (y : α) : cn x (L ++ [y]) = cn x L + (if y = x then 1 else 0) := by
 unfold cn
 rw [List.countP_append]
 by_cases h : y = x <;> simp [h]
theorem cn_same (x : α) (L : List α) : cn x (L ++ [x]) = cn x L + 1 := by rw [cn_snoc, if_pos rfl]
theorem cn_other {x y : α} (L : List α) (h : y ≠ x) : cn x (L ++ [y]) = cn x L := by rw [cn_snoc, if_neg h]; rfl
theorem cn_pos {x : α} {L : List α} : 0 < cn x L ↔ x ∈ L := by
 unfold cn
 rw [List.countP_pos_iff]
 constructor
 ·rintro ⟨y, hy, h⟩
  have h := of_decide_eq_true h
  subst h; exact hy
 ·intro h; exact ⟨x, h, by simp⟩
theorem cn_zero {x : α} {L : List α} (h : x ∉ L) : cn x L = 0 := by
 rcases Nat.eq_zero_or_pos (cn x L) with g | g
 ·exact g
 ·exact absurd (cn_pos.1 g) h
theorem cn_le (x : α) (L : List α) : cn x L ≤ L.length := List.countP_le_length
theorem cn_map (f : α → β) (x : α) : ∀ (L : List α), (∀ a ∈ L, f a = f x → a = x) → cn (f x) (L.map f) = cn x L
 | [], _ => rfl
 | a :: L, h => by
   have ih := cn_map f x L fun b hb => h b (List.mem_cons_of_mem _ hb)
   unfold cn at ih ⊢
   rw [List.map_cons, List.countP_cons, List.countP_cons, ih]
   by_cases e : a = x
   ·subst e; simp
   ·have e2 : f a ≠ f x := fun g => e (h a (List.mem_cons_self ..) g)
    simp [e, e2]
end
theorem same_sorted {α : Type} {lt : α → α → Prop} (O : Stb.Ord lt) : ∀ {L M : List α}, L.Pairwise lt → M.Pairwise lt → (∀ x, x ∈ L ↔ x ∈ M) → L = M
 | [], [], _, _, _ => rfl
 | [], y :: M, _, _, h => by have := (h y).2 (List.mem_cons_self ..); cases this
 | x :: L, [], _, _, h => by have := (h x).1 (List.mem_cons_self ..); cases this
 | x :: L, y :: M, hL, hM, h => by
   obtain ⟨hx, hL2⟩ := List.pairwise_cons.1 hL
   obtain ⟨hy, hM2⟩ := List.pairwise_cons.1 hM
   have irr : ∀ z, ¬ lt z z := fun z g => O.asym z z g g
   have e : x = y := by
    rcases List.mem_cons.1 ((h x).1 (List.mem_cons_self ..)) with g | g
    ·exact g
    ·rcases List.mem_cons.1 ((h y).2 (List.mem_cons_self ..)) with k | k
     ·exact k.symm
     ·exact absurd (hx y k) (O.asym y x (hy x g))
   subst e
   congr 1
   refine same_sorted O hL2 hM2 fun z => ?_
   have hz := h z
   rw [List.mem_cons, List.mem_cons] at hz
   constructor
   ·intro g
    rcases hz.1 (.inr g) with k | k
    ·subst k; exact absurd (hx z g) (irr z)
    ·exact k
   ·intro g
    rcases hz.2 (.inr g) with k | k
    ·subst k; exact absurd (hy z g) (irr z)
    ·exact k
def less (t : Bool) (a b : ByteArray) : Bool := if t = true then Op.bytesLess a.toList b.toList else decide (a.size < b.size) || (decide (a.size = b.size) && Op.bytesLess a.toList b.toList)
def nc (t : Bool) (a b : ByteArray) : Int := if t = true then Ak.cs a b else Ak.lex (fun a b => Ak.ci (a.size : Int) (b.size : Int)) Ak.cs a b
theorem cs_good : Ak.Good Ak.cs := Ak.pull_good Ak.cl_good ByteArray.toList
theorem nc_good (t : Bool) : Ak.Good (nc t) := by
 cases t
 ·exact Ak.lex_good (Ak.pull_good Ak.ci_good fun a : ByteArray => (a.size : Int)) cs_good
 ·exact cs_good
theorem cs_lt (a b : ByteArray) : Ak.cs a b < 0 ↔ Op.bytesLess a.toList b.toList = true := by
 rw [bytesLess_eq, decide_eq_true_iff]
 unfold Ak.cs Ak.cl
 constructor
 ·intro h
  split at h
  ·assumption
  ·split at h <;> omega
 ·intro h; rw [if_pos h]; decide
theorem cs_zero {a b : ByteArray} (h : Ak.cs a b = 0) : a = b := by
 unfold Ak.cs Ak.cl at h
 split at h
 ·cases h
 ·split at h
  ·rename_i g
   rw [Lib.toList_data, Lib.toList_data] at g
   apply ByteArray.ext
   exact Array.toList_inj.1 g
  ·cases h
theorem ci_lt (x y : Int) : Ak.ci x y < 0 ↔ x < y := by
 unfold Ak.ci; split
 ·exact ⟨fun _ => ‹_›, fun _ => by decide⟩
 ·split
  ·exact ⟨fun h => by omega, fun h => by omega⟩
  ·exact ⟨fun h => by omega, fun h => by omega⟩
theorem ci_zero {x y : Int} : Ak.ci x y = 0 ↔ x = y := by
 unfold Ak.ci; split
 ·constructor
  ·intro h; cases h
  ·intro h; omega
 ·split
  ·constructor
   ·intro h; cases h
   ·intro h; omega
  ·constructor
   ·intro h; omega
   ·intro _; rfl
theorem nc_lt (t : Bool) (a b : ByteArray) : nc t a b < 0 ↔ less t a b = true := by
 cases t
 ·unfold nc less Ak.lex
  simp only [Bool.false_eq_true, if_false]
  rw [Bool.or_eq_true, Bool.and_eq_true, decide_eq_true_iff, decide_eq_true_iff]
  by_cases h : (a.size : Int) = (b.size : Int)
  ·rw [if_pos (ci_zero.2 h), cs_lt]
   constructor
   ·intro g; exact .inr ⟨by omega, g⟩
   ·rintro (g | g)
    ·omega
    ·exact g.2
  ·rw [if_neg (fun g => h (ci_zero.1 g)), ci_lt]
   constructor
   ·intro g; exact .inl (by omega)
   ·rintro (g | g)
    ·omega
    ·exact absurd (by omega : (a.size : Int) = b.size) h
 ·unfold nc less
  simp only [if_true]
  exact cs_lt a b
theorem nc_zero {t : Bool} {a b : ByteArray} (h : nc t a b = 0) : a = b := by
 cases t
 ·unfold nc Ak.lex at h
  simp only [Bool.false_eq_true, if_false] at h
  split at h
  ·exact cs_zero h
  ·exact absurd h ‹_›
 ·exact cs_zero h
abbrev Fc := ByteArray × Nat
def fc (t : Bool) (p q : Fc) : Int := Ak.lex (fun p q => Ak.ci (q.2 : Int) (p.2 : Int)) (fun p q => nc t p.1 q.1) p q
def lt2 (t : Bool) (p q : Fc) : Prop := fc t p q < 0
theorem down_good {α : Type} {f : α → α → Int} (h : Ak.Good f) : Ak.Good (fun a b => f b a) := ⟨fun a b => h.anti b a, fun a b c h1 h2 => h.tr c b a h2 h1⟩
theorem fc_good (t : Bool) : Ak.Good (fc t) := Ak.lex_good (down_good (Ak.pull_good Ak.ci_good fun p : Fc => (p.2 : Int))) (Ak.pull_good (nc_good t) Prod.fst)
theorem lt2_ord (t : Bool) : Stb.Ord (lt2 t) := by
 refine ⟨fun x y z h g => (fc_good t).strict h (Int.le_of_lt g), fun x y h g => ?_⟩
 have e := (fc_good t).anti x y
 unfold lt2 at h g; omega
theorem fc_zero {t : Bool} {p q : Fc} (h : fc t p q = 0) : p.1 = q.1 := by
 unfold fc Ak.lex at h
 split at h
 ·exact nc_zero h
 ·exact absurd h ‹_›
theorem lt2_iff (t : Bool) (p q : Fc) : lt2 t p q ↔ q.2 < p.2 ∨ (p.2 = q.2 ∧ less t p.1 q.1 = true) := by
 unfold lt2 fc Ak.lex
 by_cases h : (q.2 : Int) = (p.2 : Int)
 ·rw [if_pos (ci_zero.2 h), nc_lt]
  constructor
  ·intro g; exact .inr ⟨by omega, g⟩
  ·rintro (g | g)
   ·omega
   ·exact g.2
 ·rw [if_neg (fun g => h (ci_zero.1 g)), ci_lt]
  constructor
  ·intro g; exact .inl (by omega)
  ·rintro (g | g)
   ·omega
   ·exact absurd (by omega : (q.2 : Int) = p.2) h
theorem lt2_or {t : Bool} {p q : Fc} (h : p.1 ≠ q.1) (g : ¬ lt2 t p q) : lt2 t q p := by
 have e := (fc_good t).anti p q
 have z : fc t p q ≠ 0 := fun z => h (fc_zero z)
 unfold lt2 at *; omega
def cm (L : List It) (a b : It) : Int := Ak.lex (fun a b => Ak.ci (cn b L : Int) (cn a L : Int)) (Ak.lex (fun a b => Ak.cs a.2 b.2) (fun a b => Ak.ci a.1 b.1)) a b
theorem cm_good (L : List It) : Ak.Good (cm L) :=
 Ak.lex_good (down_good (Ak.pull_good Ak.ci_good fun p : It => (cn p L : Int))) (Ak.lex_good (Ak.pull_good cs_good Prod.snd) (Ak.pull_good Ak.ci_good Prod.fst))
theorem cm_zero {L : List It} {a b : It} (h : cm L a b = 0) : a = b := by
 unfold cm Ak.lex at h
 split at h
 ·split at h
  ·rename_i h2
   exact Prod.ext (ci_zero.1 h) (cs_zero h2)
  ·exact absurd h ‹_›
 ·exact absurd h ‹_›
def lt1 (L : List It) (a b : It) : Prop := cm L a b < 0
def neg1 (L : List It) (a b : It) : Bool := decide (cm L a b < 0)
theorem lt1_ord (L : List It) : Stb.Ord (lt1 L) := by
 refine ⟨fun x y z h g => (cm_good L).strict h (Int.le_of_lt g), fun x y h g => ?_⟩
 have e := (cm_good L).anti x y
 unfold lt1 at h g; omega
theorem fit1 (L : List It) {x y : It} (h : x ≠ y) : Stb.Fit (lt1 L) (neg1 L) x y := by
 refine ⟨fun g => (of_decide_eq_true g : cm L y x < 0), fun g => ?_⟩
 have g : ¬ cm L y x < 0 := of_decide_eq_false g
 have e := (cm_good L).anti x y
 have z : cm L x y ≠ 0 := fun z => h (cm_zero z)
 unfold lt1; omega
def nm (t : Bool) (x : It) : ByteArray := if t = true then x.2 else Tx.mk (Lib.decDigits x.1.toNat)
def Ok (t : Bool) (x : It) : Prop := if t = true then x.1 = 0 else x.2 = ⟨#[]⟩ ∧ 0 ≤ x.1
theorem lt_same_len : ∀ {l m : List UInt8} (x y : List UInt8), l.length = m.length → l < m → l ++ x < m ++ y
 | [], [], x, y, _, h => absurd h (List.lt_irrefl _)
 | [], b :: m, x, y, h, _ => by simp at h
 | a :: l, [], x, y, h, _ => by simp at h
 | a :: l, b :: m, x, y, h, g => by
   rw [List.cons_append, List.cons_append, List.cons_lt_cons_iff]
   rcases List.cons_lt_cons_iff.1 g with k | ⟨k1, k2⟩
   ·exact .inl k
   ·exact .inr ⟨k1, lt_same_len x y (by simpa using h) k2⟩
theorem lt_last : ∀ (l : List UInt8) {c d : UInt8}, c < d → l ++ [c] < l ++ [d]
 | [], c, d, h => List.cons_lt_cons_iff.2 (.inl h)
 | a :: l, c, d, h => by rw [List.cons_append, List.cons_append, List.cons_lt_cons_iff]; exact .inr ⟨rfl, lt_last l h⟩
theorem dig_lt {a b : Nat} (h : a < b) (hb : b < 10) : UInt8.ofNat (48 + a) < UInt8.ofNat (48 + b) := by
 rw [UInt8.lt_iff_toNat_lt]; simp only [UInt8.toNat_ofNat']; omega
theorem digs1 {n : Nat} (h : n < 10) : Lib.decDigits n = [UInt8.ofNat (48 + n)] := by rw [Lib.decDigits, dif_pos h]
theorem digsN {n : Nat} (h : 10 ≤ n) : Lib.decDigits n = Lib.decDigits (n / 10) ++ [UInt8.ofNat (48 + n % 10)] := by rw [Lib.decDigits, dif_neg (by omega)]
theorem digits_lt : ∀ (k a b : Nat), b ≤ k → a < b → Tx.dl a < Tx.dl b ∨ (Tx.dl a = Tx.dl b ∧ Lib.decDigits a < Lib.decDigits b) := by
 intro k
 induction k with
 | zero => intro a b h g; omega
 | succ k ih =>
   intro a b hk h
   by_cases hb : b < 10
   ·right
    rw [Tx.dl_one hb, Tx.dl_one (by omega), digs1 hb, digs1 (by omega)]
    exact ⟨rfl, List.cons_lt_cons_iff.2 (.inl (dig_lt h hb))⟩
   ·by_cases ha : a < 10
    ·left
     rw [Tx.dl_one ha, Tx.dl_succ (by omega)]
     have := Tx.dl_pos (b / 10); omega
    ·rw [Tx.dl_succ (by omega : 10 ≤ a), Tx.dl_succ (by omega : 10 ≤ b), digsN (by omega : 10 ≤ a), digsN (by omega : 10 ≤ b)]
     by_cases e : a / 10 = b / 10
     ·right
      refine ⟨by rw [e], ?_⟩
      rw [e]
      exact lt_last _ (dig_lt (by omega) (by omega))
     ·rcases ih (a / 10) (b / 10) (by omega) (by omega) with g | ⟨g1, g2⟩
      ·exact .inl (by omega)
      ·exact .inr ⟨by omega, lt_same_len _ _ g1 g2⟩
theorem less_num {a b : Nat} (h : a < b) : less false (Tx.mk (Lib.decDigits a)) (Tx.mk (Lib.decDigits b)) = true := by
 unfold less
 simp only [Bool.false_eq_true, if_false]
 rw [Bool.or_eq_true, Bool.and_eq_true, decide_eq_true_iff, decide_eq_true_iff, Tx.mk_size, Tx.mk_size, bytesLess_eq, decide_eq_true_iff, Lib.toList_data, Lib.toList_data, Tx.mk_toList, Tx.mk_toList]
 exact digits_lt b a b (Nat.le_refl _) h
theorem less_irr (t : Bool) (a : ByteArray) : less t a a = false := by
 have e := (nc_good t).anti a a
 have : ¬ nc t a a < 0 := by omega
 rw [nc_lt] at this
 simpa using this
theorem nm_inj {t : Bool} {x y : It} (hx : Ok t x) (hy : Ok t y) (h : nm t x = nm t y) : x = y := by
 cases t
 ·unfold Ok at hx hy
  simp only [Bool.false_eq_true, if_false] at hx hy
  unfold nm at h
  simp only [Bool.false_eq_true, if_false] at h
  refine Prod.ext ?_ (by rw [hx.1, hy.1])
  rcases Nat.lt_trichotomy x.1.toNat y.1.toNat with g | g | g
  ·have := less_num g; rw [h, less_irr] at this; cases this
  ·have := hx.2; have := hy.2; omega
  ·have := less_num g; rw [h, less_irr] at this; cases this
 ·exact Prod.ext (hx.trans hy.symm) h
theorem lt_of {L : List It} {t : Bool} {x y : It} (hx : Ok t x) (hy : Ok t y) (h : lt1 L x y) : lt2 t (nm t x, cn x L) (nm t y, cn y L) := by
 rw [lt2_iff]
 unfold lt1 cm Ak.lex at h
 by_cases h0 : (cn y L : Int) = (cn x L : Int)
 ·rw [if_pos (ci_zero.2 h0)] at h
  refine .inr ⟨show cn x L = cn y L by omega, ?_⟩
  cases t
  ·unfold Ok at hx hy
   simp only [Bool.false_eq_true, if_false] at hx hy
   have hc : Ak.cs x.2 y.2 = 0 := by
    rw [hx.1, hy.1]
    have := cs_good.anti (⟨#[]⟩ : ByteArray) ⟨#[]⟩
    omega
   rw [if_pos hc, ci_lt] at h
   exact less_num (by have := hx.2; have := hy.2; omega)
  ·have e : x.1 = 0 := hx
   have e2 : y.1 = 0 := hy
   split at h
   ·rw [ci_lt] at h; omega
   ·exact (cs_lt _ _).1 h
 ·rw [if_neg (fun g => h0 (ci_zero.1 g)), ci_lt] at h
  exact .inl (show cn y L < cn x L by omega)
structure Cn (N : List ByteArray) (out : List Fc) : Prop where
 nd : (out.map Prod.fst).Nodup
 mem : ∀ s c, (s, c) ∈ out ↔ s ∈ N ∧ c = cn s N
theorem Cn.nil : Cn [] [] := ⟨List.nodup_nil, fun s c => by simp⟩
theorem Cn.fresh {N : List ByteArray} {out : List Fc} {s : ByteArray} (h : Cn N out) (hs : ∀ p ∈ out, p.1 ≠ s) : Cn (N ++ [s]) (out ++ [(s, 1)]) := by
 have hN : s ∉ N := fun hm => hs (s, cn s N) ((h.mem _ _).2 ⟨hm, rfl⟩) rfl
 refine ⟨?_, fun z c => ?_⟩
 ·rw [List.map_append, List.nodup_append]
  refine ⟨h.nd, by simp, fun a ha b hb => ?_⟩
  simp only [List.map_cons, List.map_nil, List.mem_singleton] at hb
  subst hb
  obtain ⟨p, hp, rfl⟩ := List.mem_map.1 ha
  exact hs p hp
 ·rw [List.mem_append, List.mem_append, h.mem]
  simp only [List.mem_singleton, Prod.mk.injEq]
  by_cases e : z = s
  ·subst e
   rw [cn_same, cn_zero hN]
   constructor
   ·rintro (g | g)
    ·exact absurd g.1 hN
    ·exact ⟨.inr rfl, g.2⟩
   ·rintro ⟨_, g⟩
    exact .inr ⟨rfl, g⟩
  ·rw [cn_other N (Ne.symm e)]
   constructor
   ·rintro (g | g)
    ·exact ⟨.inl g.1, g.2⟩
    ·exact absurd g.1 e
   ·rintro ⟨g | g, k⟩
    ·exact .inl ⟨g, k⟩
    ·exact absurd g e
theorem Cn.again {N : List ByteArray} {out : List Fc} {s : ByteArray} {k c : Nat} (h : Cn N out) (hk : out[k]? = some (s, c)) : Cn (N ++ [s]) (out.set k (s, c + 1)) := by
 obtain ⟨hlt, hg⟩ := List.getElem?_eq_some_iff.1 hk
 obtain ⟨hN, hc⟩ := (h.mem s c).1 (List.mem_of_getElem? hk)
 have hmap : (out.set k (s, c + 1)).map Prod.fst = out.map Prod.fst := by
  rw [List.map_set]
  apply List.ext_getElem?
  intro i
  rw [List.getElem?_set]
  by_cases e : k = i
  ·subst e
   rw [if_pos rfl, if_pos (by simpa using hlt), List.getElem?_map, hk]; rfl
  ·rw [if_neg e]
 have huniq : ∀ i c', out[i]? = some (s, c') → i = k := by
  intro i c' hi
  have h1 : (out.map Prod.fst)[i]? = some s := by rw [List.getElem?_map, hi]; rfl
  have h2 : (out.map Prod.fst)[k]? = some s := by rw [List.getElem?_map, hk]; rfl
  exact (List.getElem?_inj (by rw [List.length_map]; exact (List.getElem?_eq_some_iff.1 hi).1) h.nd).1 (h1.trans h2.symm)
 refine ⟨by rw [hmap]; exact h.nd, fun z d => ?_⟩
 rw [List.mem_append]
 constructor
 ·intro hm
  obtain ⟨i, hi⟩ := List.mem_iff_getElem?.1 hm
  rw [List.getElem?_set] at hi
  by_cases e : k = i
  ·subst e
   rw [if_pos rfl, if_pos hlt] at hi
   cases hi
   exact ⟨.inl hN, by rw [cn_same, hc]⟩
  ·rw [if_neg e] at hi
   obtain ⟨g1, g2⟩ := (h.mem z d).1 (List.mem_of_getElem? hi)
   have hz : s ≠ z := fun g => by subst g; exact e (huniq i d hi).symm
   exact ⟨.inl g1, by rw [cn_other N hz]; exact g2⟩
 ·rintro ⟨hz, hd⟩
  by_cases e : z = s
  ·subst e
   rw [cn_same, ← hc] at hd
   subst hd
   exact List.mem_iff_getElem?.2 ⟨k, by rw [List.getElem?_set, if_pos rfl, if_pos hlt]⟩
  ·have hz : z ∈ N := by
    rcases hz with g | g
    ·exact g
    ·simp at g; exact absurd g e
   rw [cn_other N (Ne.symm e)] at hd
   obtain ⟨i, hi⟩ := List.mem_iff_getElem?.1 ((h.mem z d).2 ⟨hz, hd⟩)
   have hne : k ≠ i := fun g => by subst g; rw [hk] at hi; cases hi; exact e rfl
   exact List.mem_iff_getElem?.2 ⟨i, by rw [List.getElem?_set, if_neg hne]; exact hi⟩
theorem answers {t : Bool} {L K : List It} {M : List Fc} (hok : ∀ x ∈ L, Ok t x) (hK : ∀ x, x ∈ K ↔ x ∈ L) (hs : K.Pairwise (lt1 L)) (hM : ∀ s c, (s, c) ∈ M ↔ s ∈ L.map (nm t) ∧ c = cn s (L.map (nm t))) (hsM : M.Pairwise (lt2 t)) :
  K.map (fun x => (nm t x, cn x L)) = M := by
 have hcn : ∀ x ∈ L, cn (nm t x) (L.map (nm t)) = cn x L := fun x hx => cn_map (nm t) x L fun a ha e => nm_inj (hok a ha) (hok x hx) e
 refine same_sorted (lt2_ord t) ?_ hsM ?_
 ·rw [List.pairwise_map]
  refine List.Pairwise.imp_of_mem ?_ hs
  intro a b ha hb h
  exact lt_of (hok a ((hK a).1 ha)) (hok b ((hK b).1 hb)) h
 ·rintro ⟨s, c⟩
  rw [hM]
  constructor
  ·intro h
   obtain ⟨x, hx, e⟩ := List.mem_map.1 h
   have hxL := (hK x).1 hx
   cases e
   exact ⟨List.mem_map.2 ⟨x, hxL, rfl⟩, (hcn x hxL).symm⟩
  ·rintro ⟨h, rfl⟩
   obtain ⟨x, hx, rfl⟩ := List.mem_map.1 h
   exact List.mem_map.2 ⟨x, (hK x).2 hx, by rw [hcn x hx]⟩
end Fa
end Go.Proofs.YtimjmjmpaicdbaaGreatDoor
namespace Go.Proofs.YtimjmjmpaicdbaaGreatDoor
open Go.RowKit Go.Sort Go.Shelf Go.Maps
open Go.WideMaps (KeyLaw)
open Go.ChangeMaps (setBlock heap_setBlock_same heap_setBlock_other)
open Go.WideElems (Fit)
theorem ctLaid : laidOutB Tryz.prog = true := by kernel_rfl
theorem ctRow : (89 : TypeId) < Tryz.prog.types.size := of_decide_eq_true (by kernel_rfl)
theorem ctWide : (match Tryz.prog.underlying 89 with | some (.array _ _) | some (.struct _) => true | _ => false) = true := by kernel_rfl
theorem ctLaw : KeyLaw Tryz.prog 89 := deep_law_laid ctLaid (m := 2) (by omega) ctRow (by kernel_rfl) ctWide
theorem ctKeyed : Keyed Tryz.prog 89 := Keyed.of_law ctLaw
theorem zeroI (w : World) : (zeroValue 3).run Tryz.prog w = .ok (.int .i64 0) w := by kernel_rfl
namespace Fa
def FitIt (x : It) : Prop := (Lit.int .i64 x.1).wf = true ∧ x.2.size ≤ maxLen
def kl (x : It) : Lit := .string (keyBytes [.int .i64 x.1, .string x.2.data.toList])
def kv (x : It) : Value := .agg #[.int .i64 x.1, .string x.2]
end Fa
theorem ctCells : Tryz.prog.cellsOf 89 = 2 := by kernel_rfl
theorem ctLits (d : Nat) (n : Int) (s : ByteArray) (hn : (Lit.int .i64 n).wf = true) (hs : s.size ≤ maxLen) : Tryz.prog.keyLits (d + 2) 89 [.int .i64 n, .string s] = some [.int .i64 n, .string s.data.toList] := by
 have c1 : Tryz.prog.cellsOf 3 = 1 := by kernel_rfl
 have c2 : Tryz.prog.cellsOf 9 = 1 := by kernel_rfl
 have k1 : Tryz.prog.keyLits (d + 1) 3 [.int .i64 n] = some [.int .i64 n] := by
  unfold Program.keyLits; simp [Tryz.underlying3, hn]
 have k2 : Tryz.prog.keyLits (d + 1) 9 [.string s] = some [.string s.data.toList] := by
  unfold Program.keyLits; simp [Tryz.underlying9, hs]
 unfold Program.keyLits
 simp [Tryz.underlying89, ctCells, c1, c2, k1, k2]
theorem ctKey (x : Fa.It) (h : Fa.FitIt x) : keyOf Tryz.prog 89 (Fa.kv x) = some (Fa.kl x) := by
 have hf : (Fa.kv x).formed Tryz.prog 89 = true := by
  unfold Fa.kv
  simp [Value.formed, Tryz.underlying89, ctCells]
 have hk : Tryz.prog.keyType 89 = true := by kernel_rfl
 have hs : Tryz.prog.types.size + 1 = (Tryz.prog.types.size - 1) + 2 := by
  have : 0 < Tryz.prog.types.size := Nat.lt_of_le_of_lt (Nat.zero_le _) ctRow
  omega
 unfold keyOf
 rw [Tryz.underlying89]
 simp only [hf, hk, Bool.and_self, if_true]
 rw [hs, show (Fa.kv x).cells.toList = [.int .i64 x.1, .string x.2] from rfl, ctLits _ _ _ h.1 h.2]
 rfl
theorem litsInt (d : Nat) {c : Value} {ls : List Lit} (h : Tryz.prog.keyLits (d + 1) 3 [c] = some ls) : ∃ n, c = .int .i64 n ∧ (Lit.int .i64 n).wf = true := by
 unfold Program.keyLits at h
 rw [Tryz.underlying3] at h
 cases c <;> simp at h
 obtain ⟨⟨rfl, hw⟩, _⟩ := h
 exact ⟨_, rfl, hw⟩
theorem litsStr (d : Nat) {c : Value} {ls : List Lit} (h : Tryz.prog.keyLits (d + 1) 9 [c] = some ls) : ∃ s, c = .string s ∧ s.size ≤ maxLen := by
 unfold Program.keyLits at h
 rw [Tryz.underlying9] at h
 cases c <;> simp at h
 exact ⟨_, rfl, h.1⟩
theorem ctLitsInv (d : Nat) {c0 c1 : Value} {ls : List Lit} (h : Tryz.prog.keyLits (d + 2) 89 [c0, c1] = some ls) : ∃ (n : Int) (s : ByteArray), c0 = .int .i64 n ∧ c1 = .string s ∧ (Lit.int .i64 n).wf = true ∧ s.size ≤ maxLen := by
 have e1 : Tryz.prog.cellsOf 3 = 1 := by kernel_rfl
 have e2 : Tryz.prog.cellsOf 9 = 1 := by kernel_rfl
 unfold Program.keyLits at h
 simp [Tryz.underlying89, ctCells, e1, e2] at h
 cases h1 : Tryz.prog.keyLits (d + 1) 3 [c0] with
 | none => rw [h1] at h; simp at h
 | some l0 =>
   cases h2 : Tryz.prog.keyLits (d + 1) 9 [c1] with
   | none => rw [h1, h2] at h; simp at h
   | some l1 =>
     obtain ⟨n, rfl, hn⟩ := litsInt d h1
     obtain ⟨s, rfl, hs⟩ := litsStr d h2
     exact ⟨n, s, rfl, rfl, hn, hs⟩
theorem ctInv {key : Value} {l : Lit} (h : keyOf Tryz.prog 89 key = some l) : ∃ x : Fa.It, key = Fa.kv x ∧ Fa.FitIt x ∧ l = Fa.kl x := by
 have h0 := h
 unfold keyOf at h
 rw [Tryz.underlying89] at h
 simp only [Option.map_eq_some_iff] at h
 split at h
 ·rename_i hc
  rw [Bool.and_eq_true] at hc
  obtain ⟨ls, hl, _⟩ := Option.map_eq_some_iff.1 h
  obtain ⟨cs, rfl⟩ : ∃ cs, key = .agg cs := by
   have := hc.2
   cases key <;> simp [Value.formed, Tryz.underlying89] at this
   exact ⟨_, rfl⟩
  have hsz : cs.size = 2 := by
   have := hc.2
   simpa [Value.formed, Tryz.underlying89, ctCells] using this
  obtain ⟨l2⟩ := cs
  match l2, hsz with
  | [c0, c1], _ =>
    have hs : Tryz.prog.types.size + 1 = (Tryz.prog.types.size - 1) + 2 := by
     have : 0 < Tryz.prog.types.size := Nat.lt_of_le_of_lt (Nat.zero_le _) ctRow
     omega
    rw [hs, show (Value.agg ⟨[c0, c1]⟩).cells.toList = [c0, c1] from rfl] at hl
    obtain ⟨n, s, rfl, rfl, hw, hz⟩ := ctLitsInv _ hl
    have hF : Fa.FitIt (n, s) := ⟨hw, hz⟩
    refine ⟨(n, s), rfl, hF, ?_⟩
    have := ctKey (n, s) hF
    rw [show Fa.kv (n, s) = Value.agg ⟨[.int .i64 n, .string s]⟩ from rfl, h0] at this
    exact Option.some.inj this
 ·simp at h
theorem Fa.kl_inj {x y : Fa.It} (hx : Fa.FitIt x) (hy : Fa.FitIt y) (h : Fa.kl x = Fa.kl y) : x = y := by
 have e := ctLaw.inj (ctKey x hx) (by rw [h]; exact ctKey y hy)
 unfold Fa.kv at e
 simp at e
 exact Prod.ext e.1 e.2
section
variable {P : Program} {w : World} {t k e : TypeId} {b n : Nat} {D : DataW Unit}
theorem setBlock_twice (w : World) (b : Nat) (o o' : Obj) : setBlock (setBlock w b o) b o' = setBlock w b o' := by simp [setBlock]
theorem upd_of_entry {es : Array MapEntry} {clock : Nat} {R : Value → Option (DataW Unit × List MemPlace)} (K : KeyLaw P k) (ht : P.underlying t = some (.map k e)) {z : Value} (hz : ∀ u : World, (zeroValue e).run P u = .ok z u) (hb : w.heap[b]? = some (.map es clock)) (F : Fit P k R es clock)
  {key v0 s : Value} {w1 : World} {l : Lit} (hkey : keyOf P k key = some l) (hE : (Instr.mapEntry t (.map (some b)) key).run P w = .ok (.tuple #[v0, s]) w1) : (Instr.mapUpdate t (.map (some b)) key v0).run P w = .ok () w1 := by
 rcases K.find w hkey es.toList F.keys with ⟨h1, h2⟩ | ⟨j, e0, h1, h2, h3⟩
 ·simp [Instr.mapEntry, run_underlying ht, MapKept.run_getObj_map hb, K.check w false hkey, h1, hz, MapKept.run_setObj_map _ hb, Result.andThen] at hE
  obtain ⟨⟨rfl, _⟩, rfl⟩ := hE
  simp [Instr.mapUpdate, run_underlying ht, MapKept.run_getObj_map hb, K.check w false hkey, h1, MapKept.run_setObj_map _ hb, Result.andThen]
 ·have hj : es[j]? = some e0 := by simpa using h2
  simp [Instr.mapEntry, run_underlying ht, MapKept.run_getObj_map hb, K.check w false hkey, h1, hj, h3, K.stays w hkey, MapKept.run_setObj_map _ hb, Result.andThen] at hE
  obtain ⟨⟨rfl, _⟩, rfl⟩ := hE
  have hm : es.modify j (fun e' => { e' with key := key, val := e0.val }) = es.modify j (fun e' => { e' with key := key }) := by
   apply Array.ext_getElem?
   intro i
   rw [Array.getElem?_modify, Array.getElem?_modify]
   by_cases hij : j = i
   ·subst hij
    rw [if_pos rfl, if_pos rfl, hj]; rfl
   ·rw [if_neg hij, if_neg hij]
  simp [Instr.mapUpdate, run_underlying ht, MapKept.run_getObj_map hb, K.check w false hkey, h1, hj, h3, K.stays w hkey, MapKept.run_setObj_map _ hb, Result.andThen, hm]
theorem entry_own {q : IntKind} (h : w.ownsMap P k (plainElem P e) b n D) (K : KeyLaw P k) (ht : P.underlying t = some (.map k e)) (he : P.underlying e = some (.int q)) (hz : ∀ u : World, (zeroValue e).run P u = .ok (.int q 0) u) (hn : n < maxLen)
  {key : Value} {l : Lit} (hkey : keyOf P k key = some l) :
  ∃ (c : Int) (st : Nat) (w1 : World), D.atKey l (.lit (.int q 0)) = .lit (.int q c) ∧ (Lit.int q c).wf = true ∧ (Instr.lookup t (.map (some b)) key false).run P w = .ok (.int q c) w ∧ (Instr.mapEntry t (.map (some b)) key).run P w = .ok (.tuple #[.int q c, goInt st]) w1 ∧
    (Instr.lookup t (.map (some b)) key false).run P w1 = .ok (.int q c) w1 ∧ w.grownBy w1 (some b) ∧
    ∀ v : Int, (Lit.int q v).wf = true → ∃ w2, (Instr.entryStore t (.map (some b)) (goInt st) (.int q v)).run P w1 = .ok () w2 ∧ w2.ownsMap P k (plainElem P e) b (n + 1) (D.put l (.lit (.int q v))) ∧ w.grownBy w2 (some b) := by
 have K' := Keyed.of_law K
 have h0 := h
 obtain ⟨es, clock, hb, F, _, _⟩ := h
 obtain ⟨v0, st, es1, clock1, hE, _, hS⟩ := Go.WideElems.entry_then_store K ht hz hb F hkey
 obtain ⟨c, hl, hat, hw⟩ := h0.lookup_int K' ht he (hz w) hkey
 have hU := upd_of_entry K ht hz hb F hkey hE
 have hb1 : (setBlock w b (.map es1 clock1)).heap[b]? = some (.map es1 clock1) := heap_setBlock_same hb _
 have hv : v0 = .int q c := by
  rcases K.find w hkey es.toList F.keys with ⟨h1, h2⟩ | ⟨j, e0, h1, h2, h3⟩
  ·simp [Instr.mapEntry, run_underlying ht, MapKept.run_getObj_map hb, K.check w false hkey, h1, hz, MapKept.run_setObj_map _ hb, Result.andThen] at hE
   simp [Instr.lookup, run_underlying ht, MapKept.run_getObj_map hb, K.check w _ hkey, h1, hz, Result.andThen] at hl
   rw [← hE.1.1, ← hl]
  ·have hj : es[j]? = some e0 := by simpa using h2
   simp [Instr.mapEntry, run_underlying ht, MapKept.run_getObj_map hb, K.check w false hkey, h1, hj, h3, K.stays w hkey, MapKept.run_setObj_map _ hb, Result.andThen] at hE
   simp [Instr.lookup, run_underlying ht, MapKept.run_getObj_map hb, K.check w _ hkey, h1, Result.andThen] at hl
   rw [← hE.1.1, hl]
 subst hv
 obtain ⟨w', hr', ho', hg'⟩ := h0.update K' ht hn hkey (plainElem_int (H := Unit) he hw)
 obtain rfl : w' = setBlock w b (.map es1 clock1) := by rw [hU] at hr'; cases hr'; rfl
 obtain ⟨c', hl', hat', _⟩ := ho'.lookup_int K' ht he (hz _) hkey
 rw [atKey_put_same h0.isMap (K'.key hkey)] at hat'
 cases hat'
 refine ⟨c, st, _, hat, hw, hl, hE, hl', hg', fun v hvw => ?_⟩
 obtain ⟨es', clock', hst, hup⟩ := hS _ (.int q v) hb1
 obtain ⟨w2, hr2, ho2, hg2⟩ := h0.update K' ht hn hkey (plainElem_int (H := Unit) he hvw)
 rw [hup] at hr2
 cases hr2
 rw [setBlock_twice] at hst
 exact ⟨_, hst, ho2, hg2⟩
end
structure Cnt (D : DataW Unit) (L : List Fa.It) : Prop where
 at_ : ∀ x, Fa.FitIt x → D.atKey (Fa.kl x) (.lit (.int .i64 0)) = .lit (.int .i64 (Fa.cn x L : Int))
 has : ∀ x, Fa.FitIt x → (Maps.has D (Fa.kl x) = true ↔ x ∈ L)
theorem Cnt.nil : Cnt (.map []) [] := ⟨fun x _ => by rw [Fa.cn_nil]; rfl, fun x _ => by simp [Maps.has]⟩
theorem Cnt.add {D : DataW Unit} {L : List Fa.It} (h : Cnt D L) (hD : IsMap D) {x : Fa.It} (hx : Fa.FitIt x) : Cnt (D.put (Fa.kl x) (.lit (.int .i64 ((Fa.cn x L : Int) + 1)))) (L ++ [x]) := by
 have hk : WideAt.IsKeyLit (Fa.kl x) := trivial
 refine ⟨fun y hy => ?_, fun y hy => ?_⟩
 ·by_cases e : y = x
  ·subst e
   rw [atKey_put_same hD hk, Fa.cn_same]; rfl
  ·rw [atKey_put_other (fun g => e (Fa.kl_inj hy hx g)), h.at_ y hy, Fa.cn_other L (Ne.symm e)]
 ·by_cases e : y = x
  ·subst e
   rw [has_put_same hD hk]; simp
  ·rw [has_put_other (fun g => e (Fa.kl_inj hy hx g)), h.has y hy]; simp [e]
end Go.Proofs.YtimjmjmpaicdbaaGreatDoor
namespace Go.Proofs.YtimjmjmpaicdbaaGreatDoor
open Go.Shelf
def Lay.itoaM_ren : Go.Shelf.Ren := ⟨fun | 171 => 28 | 243 => 75 | 246 => 112 | 283 => 165 | 284 => 166 | 285 => 167 | 286 => 168 | 129 => 199 | 317 => 198 | 318 => 200 | 319 => 201 | 320 => 202 | 337 => 226 | 338 => 227 | n => n, fun | 3 => 3 | 9 => 9 | 2 => 2 | 4 => 4 | 171 => 198 | 0 => 0 | 53 => 199 | 37 => 62 | 5 => 5 | 173 => 202 | 212 => 225 | 51 => 179 | 20 => 20 | 213 => 226 | 46 => 227 | 232 => 280 | 233 => 281 | n => n, fun | 17 => 1 | 18 => 4 | 19 => 5 | n => n⟩
theorem Lay.itoaM : Go.Proofs.LaysM.n171 Tryz.prog Lay.itoaM_ren := {
 mixed := by kernel_rfl
 f129 := Tryz.func199.trans (congrArg some (by kernel_rfl))
 f171 := Tryz.func28.trans (congrArg some (by kernel_rfl))
 f243 := Tryz.func75.trans (congrArg some (by kernel_rfl))
 f246 := Tryz.func112.trans (congrArg some (by kernel_rfl))
 f283 := Tryz.func165.trans (congrArg some (by kernel_rfl))
 f284 := Tryz.func166.trans (congrArg some (by kernel_rfl))
 f285 := Tryz.func167.trans (congrArg some (by kernel_rfl))
 f286 := Tryz.func168.trans (congrArg some (by kernel_rfl))
 f317 := Tryz.func198.trans (congrArg some (by kernel_rfl))
 f318 := Tryz.func200.trans (congrArg some (by kernel_rfl))
 f319 := Tryz.func201.trans (congrArg some (by kernel_rfl))
 f320 := Tryz.func202.trans (congrArg some (by kernel_rfl))
 f337 := Tryz.func226.trans (congrArg some (by kernel_rfl))
 f338 := Tryz.func227.trans (congrArg some (by kernel_rfl))
 t0 := Tryz.underlying0
 a0 := Tryz.isAgg0
 z0 := Tryz.sizeOf0
 v0 := Tryz.zeroValue0
 t2 := Tryz.underlying2
 a2 := Tryz.isAgg2
 z2 := Tryz.sizeOf2
 v2 := Tryz.zeroValue2
 t3 := Tryz.underlying3
 a3 := Tryz.isAgg3
 z3 := Tryz.sizeOf3
 v3 := Tryz.zeroValue3
 t4 := Tryz.underlying4
 a4 := Tryz.isAgg4
 z4 := Tryz.sizeOf4
 v4 := Tryz.zeroValue4
 t5 := Tryz.underlying5
 a5 := Tryz.isAgg5
 z5 := Tryz.sizeOf5
 v5 := Tryz.zeroValue5
 t9 := Tryz.underlying9
 a9 := Tryz.isAgg9
 z9 := Tryz.sizeOf9
 v9 := Tryz.zeroValue9
 t20 := Tryz.underlying20
 a20 := Tryz.isAgg20
 z20 := Tryz.sizeOf20
 v20 := Tryz.zeroValue20
 t37 := Tryz.underlying62
 a37 := Tryz.isAgg62
 z37 := Tryz.sizeOf62
 v37 := Tryz.zeroValue62
 t46 := Tryz.underlying227
 a46 := Tryz.isAgg227
 z46 := Tryz.sizeOf227
 v46 := Tryz.zeroValue227
 t51 := Tryz.underlying179
 a51 := Tryz.isAgg179
 z51 := Tryz.sizeOf179
 v51 := Tryz.zeroValue179
 t53 := Tryz.underlying199
 a53 := Tryz.isAgg199
 z53 := Tryz.sizeOf199
 v53 := Tryz.zeroValue199
 t171 := Tryz.underlying198
 a171 := Tryz.isAgg198
 z171 := Tryz.sizeOf198
 v171 := Tryz.zeroValue198
 t173 := Tryz.underlying202
 a173 := Tryz.isAgg202
 z173 := Tryz.sizeOf202
 v173 := Tryz.zeroValue202
 t212 := Tryz.underlying225
 a212 := Tryz.isAgg225
 z212 := Tryz.sizeOf225
 v212 := Tryz.zeroValue225
 t213 := Tryz.underlying226
 a213 := Tryz.isAgg226
 z213 := Tryz.sizeOf226
 t232 := Tryz.underlying280
 a232 := Tryz.isAgg280
 z232 := Tryz.sizeOf280
 v232 := Tryz.zeroValue280
 t233 := Tryz.underlying281
 a233 := Tryz.isAgg281
 z233 := Tryz.sizeOf281
 v233 := Tryz.zeroValue281
 g17 := by kernel_rfl
 g18 := by kernel_rfl
 g19 := by kernel_rfl
 i0 := by kernel_rfl
 i2 := by kernel_rfl
 i3 := by kernel_rfl
 i4 := by kernel_rfl
 i5 := by kernel_rfl
 i9 := by kernel_rfl
 i20 := by kernel_rfl
 i37 := by kernel_rfl
 i46 := by kernel_rfl
 i51 := by kernel_rfl
 i53 := by kernel_rfl
 i171 := by kernel_rfl
 i173 := by kernel_rfl
 i212 := by kernel_rfl
 i232 := by kernel_rfl
 i233 := by kernel_rfl
 m17 := by kernel_rfl
 m18 := by kernel_rfl
 m19 := by kernel_rfl }
def Lay.itoaS_ren : Go.Shelf.Ren := ⟨fun | 171 => 28 | 243 => 75 | 246 => 112 | 283 => 165 | 284 => 166 | 285 => 167 | 286 => 168 | 129 => 199 | 317 => 198 | 318 => 200 | 319 => 201 | 320 => 202 | 337 => 226 | 338 => 227 | n => n, fun | 3 => 3 | 9 => 9 | 2 => 2 | 4 => 4 | 171 => 198 | 0 => 0 | 53 => 199 | 37 => 62 | 5 => 5 | 173 => 202 | 212 => 225 | 51 => 179 | 20 => 20 | 213 => 226 | 46 => 227 | 232 => 280 | 233 => 281 | n => n, fun | 17 => 1 | 18 => 4 | 19 => 5 | n => n⟩
theorem Lay.itoaS : Go.Proofs.Lays.n171 Tryz.prog Lay.itoaS_ren := {
 mixed := by kernel_rfl
 f129 := Tryz.func199.trans (congrArg some (by kernel_rfl))
 f171 := Tryz.func28.trans (congrArg some (by kernel_rfl))
 f243 := Tryz.func75.trans (congrArg some (by kernel_rfl))
 f246 := Tryz.func112.trans (congrArg some (by kernel_rfl))
 f283 := Tryz.func165.trans (congrArg some (by kernel_rfl))
 f284 := Tryz.func166.trans (congrArg some (by kernel_rfl))
 f285 := Tryz.func167.trans (congrArg some (by kernel_rfl))
 f286 := Tryz.func168.trans (congrArg some (by kernel_rfl))
 f317 := Tryz.func198.trans (congrArg some (by kernel_rfl))
 f318 := Tryz.func200.trans (congrArg some (by kernel_rfl))
 f319 := Tryz.func201.trans (congrArg some (by kernel_rfl))
 f320 := Tryz.func202.trans (congrArg some (by kernel_rfl))
 f337 := Tryz.func226.trans (congrArg some (by kernel_rfl))
 f338 := Tryz.func227.trans (congrArg some (by kernel_rfl))
 t0 := Tryz.underlying0
 a0 := Tryz.isAgg0
 z0 := Tryz.sizeOf0
 v0 := Tryz.zeroValue0
 t2 := Tryz.underlying2
 a2 := Tryz.isAgg2
 z2 := Tryz.sizeOf2
 v2 := Tryz.zeroValue2
 t3 := Tryz.underlying3
 a3 := Tryz.isAgg3
 z3 := Tryz.sizeOf3
 v3 := Tryz.zeroValue3
 t4 := Tryz.underlying4
 a4 := Tryz.isAgg4
 z4 := Tryz.sizeOf4
 v4 := Tryz.zeroValue4
 t5 := Tryz.underlying5
 a5 := Tryz.isAgg5
 z5 := Tryz.sizeOf5
 v5 := Tryz.zeroValue5
 t9 := Tryz.underlying9
 a9 := Tryz.isAgg9
 z9 := Tryz.sizeOf9
 v9 := Tryz.zeroValue9
 t20 := Tryz.underlying20
 a20 := Tryz.isAgg20
 z20 := Tryz.sizeOf20
 v20 := Tryz.zeroValue20
 t37 := Tryz.underlying62
 a37 := Tryz.isAgg62
 z37 := Tryz.sizeOf62
 v37 := Tryz.zeroValue62
 t46 := Tryz.underlying227
 a46 := Tryz.isAgg227
 z46 := Tryz.sizeOf227
 v46 := Tryz.zeroValue227
 t51 := Tryz.underlying179
 a51 := Tryz.isAgg179
 z51 := Tryz.sizeOf179
 v51 := Tryz.zeroValue179
 t53 := Tryz.underlying199
 a53 := Tryz.isAgg199
 z53 := Tryz.sizeOf199
 v53 := Tryz.zeroValue199
 t171 := Tryz.underlying198
 a171 := Tryz.isAgg198
 z171 := Tryz.sizeOf198
 v171 := Tryz.zeroValue198
 t173 := Tryz.underlying202
 a173 := Tryz.isAgg202
 z173 := Tryz.sizeOf202
 v173 := Tryz.zeroValue202
 t212 := Tryz.underlying225
 a212 := Tryz.isAgg225
 z212 := Tryz.sizeOf225
 v212 := Tryz.zeroValue225
 t213 := Tryz.underlying226
 a213 := Tryz.isAgg226
 z213 := Tryz.sizeOf226
 t232 := Tryz.underlying280
 a232 := Tryz.isAgg280
 z232 := Tryz.sizeOf280
 v232 := Tryz.zeroValue280
 t233 := Tryz.underlying281
 a233 := Tryz.isAgg281
 z233 := Tryz.sizeOf281
 v233 := Tryz.zeroValue281
 g17 := by kernel_rfl
 g18 := by kernel_rfl
 g19 := by kernel_rfl }
def Lay.repeatS_ren : Go.Shelf.Ren := ⟨fun | 105 => 224 | 212 => 246 | 99 => 247 | 165 => 97 | 166 => 26 | 170 => 29 | 169 => 30 | 263 => 264 | 264 => 265 | 206 => 266 | 240 => 73 | 241 => 153 | 276 => 111 | 277 => 187 | n => n, fun | 9 => 9 | 3 => 3 | 4 => 4 | 20 => 20 | 0 => 0 | 46 => 227 | 109 => 277 | 5 => 5 | 72 => 64 | 76 => 67 | 51 => 179 | 146 => 282 | 53 => 199 | 148 => 298 | 70 => 61 | 37 => 62 | 75 => 66 | 127 => 117 | 164 => 156 | 80 => 74 | n => n, fun | n => n⟩
theorem Lay.repeatS : Go.Proofs.Lays.n105 Tryz.prog Lay.repeatS_ren := {
 mixed := by kernel_rfl
 f99 := Tryz.func247.trans (congrArg some (by kernel_rfl))
 f105 := Tryz.func224.trans (congrArg some (by kernel_rfl))
 f165 := Tryz.func97.trans (congrArg some (by kernel_rfl))
 f166 := Tryz.func26.trans (congrArg some (by kernel_rfl))
 f169 := Tryz.func30.trans (congrArg some (by kernel_rfl))
 f170 := Tryz.func29.trans (congrArg some (by kernel_rfl))
 f206 := Tryz.func266.trans (congrArg some (by kernel_rfl))
 f212 := Tryz.func246.trans (congrArg some (by kernel_rfl))
 f240 := Tryz.func73.trans (congrArg some (by kernel_rfl))
 f241 := Tryz.func153.trans (congrArg some (by kernel_rfl))
 f263 := Tryz.func264.trans (congrArg some (by kernel_rfl))
 f264 := Tryz.func265.trans (congrArg some (by kernel_rfl))
 f276 := Tryz.func111.trans (congrArg some (by kernel_rfl))
 f277 := Tryz.func187.trans (congrArg some (by kernel_rfl))
 t0 := Tryz.underlying0
 a0 := Tryz.isAgg0
 z0 := Tryz.sizeOf0
 v0 := Tryz.zeroValue0
 t3 := Tryz.underlying3
 a3 := Tryz.isAgg3
 z3 := Tryz.sizeOf3
 v3 := Tryz.zeroValue3
 t4 := Tryz.underlying4
 a4 := Tryz.isAgg4
 z4 := Tryz.sizeOf4
 v4 := Tryz.zeroValue4
 t5 := Tryz.underlying5
 a5 := Tryz.isAgg5
 z5 := Tryz.sizeOf5
 v5 := Tryz.zeroValue5
 t9 := Tryz.underlying9
 a9 := Tryz.isAgg9
 z9 := Tryz.sizeOf9
 v9 := Tryz.zeroValue9
 t20 := Tryz.underlying20
 a20 := Tryz.isAgg20
 z20 := Tryz.sizeOf20
 v20 := Tryz.zeroValue20
 t37 := Tryz.underlying62
 a37 := Tryz.isAgg62
 z37 := Tryz.sizeOf62
 v37 := Tryz.zeroValue62
 t46 := Tryz.underlying227
 a46 := Tryz.isAgg227
 z46 := Tryz.sizeOf227
 v46 := Tryz.zeroValue227
 t51 := Tryz.underlying179
 a51 := Tryz.isAgg179
 z51 := Tryz.sizeOf179
 v51 := Tryz.zeroValue179
 t53 := Tryz.underlying199
 a53 := Tryz.isAgg199
 z53 := Tryz.sizeOf199
 v53 := Tryz.zeroValue199
 t70 := Tryz.underlying61
 a70 := Tryz.isAgg61
 z70 := Tryz.sizeOf61
 v70 := Tryz.zeroValue61
 t72 := Tryz.underlying64
 a72 := Tryz.isAgg64
 z72 := Tryz.sizeOf64
 v72 := Tryz.zeroValue64
 t75 := Tryz.underlying66
 a75 := Tryz.isAgg66
 z75 := Tryz.sizeOf66
 v75 := Tryz.zeroValue66
 t76 := Tryz.underlying67
 a76 := Tryz.isAgg67
 z76 := Tryz.sizeOf67
 v76 := Tryz.zeroValue67
 t109 := Tryz.underlying277
 a109 := Tryz.isAgg277
 z109 := Tryz.sizeOf277
 v109 := Tryz.zeroValue277
 t127 := Tryz.underlying117
 a127 := Tryz.isAgg117
 z127 := Tryz.sizeOf117
 v127 := Tryz.zeroValue117
 t146 := Tryz.underlying282
 a146 := Tryz.isAgg282
 z146 := Tryz.sizeOf282
 v146 := Tryz.zeroValue282
 t148 := Tryz.underlying298
 a148 := Tryz.isAgg298
 z148 := Tryz.sizeOf298
 v148 := Tryz.zeroValue298
 t164 := Tryz.underlying156
 a164 := Tryz.isAgg156
 z164 := Tryz.sizeOf156
 v164 := Tryz.zeroValue156 }
end Go.Proofs.YtimjmjmpaicdbaaGreatDoor
namespace Go.Proofs.YtimjmjmpaicdbaaGreatDoor
open Go.RowKit Go.Sort Go.Shelf
namespace Tx
abbrev Tab (w : World) : Prop := Lib.TabIs Tryz.prog w "internal/strconv.uint64pow10" .u64 Lib.pow10Tab
theorem tab_global : Tryz.prog.globalNamed "internal/strconv.uint64pow10" = some 1 := by kernel_rfl
theorem tab_below {w w' : World} (h : Tab w) (hb : Below w.heap.size w w') : Tab w' := TabIs_below tab_global h hb
theorem tab_of_laid {W : World} {x y : String × DataW Unit} {rest : List (String × DataW Unit)} (h : laidMet Tryz.prog (x :: y :: ("internal/strconv.uint64pow10", Lib.tabData .u64 Lib.pow10Tab) :: rest) W) : Tab W :=
 Lib.tabIs_of_head (t := 225) (e := 199) (n := 20) tab_global (by kernel_rfl) (by kernel_rfl) (by kernel_rfl) (by kernel_rfl) (by kernel_rfl) h.tail.tail
end Tx
theorem itoa_small (i : Nat) (hi : i < 100) (w : World) : Calls Tryz.prog 28 #[.int .i64 i] w fun e w' => e = .returned (.string ⟨(Lib.decDigits i).toArray⟩) ∧ w' = w := Any.strconv_Itoa_small Lay.itoaS i hi w
theorem itoa_any (n : Int) (h0 : -9223372036854775808 ≤ n) (h1 : n ≤ 9223372036854775807) (w : World) (ht : Tx.Tab w) : Calls Tryz.prog 28 #[.int .i64 n] w fun e w' => e = .returned (.string ⟨(Lib.itoa n).toArray⟩) ∧ ∃ k os, w' = grow (w.drewN k) os := Any.strconv_Itoa Lay.itoaM n h0 h1 w ht
end Go.Proofs.YtimjmjmpaicdbaaGreatDoor
namespace Go.Proofs.YtimjmjmpaicdbaaGreatDoor.Cal
def leapB (y : Int) : Bool := y % 4 == 0 && (y % 100 != 0 || y % 400 == 0)
def lp (y : Int) : Int := if leapB y then 1 else 0
def len (y m : Int) : Int := if m = 2 then 28 + lp y else if m = 4 ∨ m = 6 ∨ m = 9 ∨ m = 11 then 30 else 31
def bef (y : Int) : Int := 365 * (y - 1900) + (y - 1) / 4 - 474 - (y - 1) / 100 + 18 + (y - 1) / 400 - 4
def cum (y m : Int) : Int := if m ≤ 1 then 0 else if m ≤ 2 then 31 else (if m ≤ 3 then 59 else if m ≤ 4 then 90 else if m ≤ 5 then 120 else if m ≤ 6 then 151 else if m ≤ 7 then 181 else if m ≤ 8 then 212 else if m ≤ 9 then 243 else if m ≤ 10 then 273 else if m ≤ 11 then 304 else if m ≤ 12 then 334 else 365) + lp y
def num (y m d : Int) : Int := bef y + cum y m + d - 1
def vld (y m d : Int) : Bool := decide (1900 ≤ y ∧ y ≤ 2099 ∧ 1 ≤ m ∧ m ≤ 12 ∧ 1 ≤ d ∧ d ≤ len y m)
theorem vld_iff (y m d : Int) : vld y m d = true ↔ 1900 ≤ y ∧ y ≤ 2099 ∧ 1 ≤ m ∧ m ≤ 12 ∧ 1 ≤ d ∧ d ≤ len y m := by simp [vld]
theorem lp_01 (y : Int) : 0 ≤ lp y ∧ lp y ≤ 1 := by unfold lp; split <;> omega
theorem lp_eq (y : Int) : lp y = if y % 4 = 0 ∧ (y % 100 ≠ 0 ∨ y % 400 = 0) then 1 else 0 := by
 unfold lp leapB; congr 1; simp
theorem bef_1900 : bef 1900 = 0 := by decide
theorem bef_2100 : bef 2100 = 73049 := by decide
theorem bef_succ (y : Int) : bef (y + 1) = bef y + 365 + lp y := by
 rw [lp_eq]; unfold bef; split <;> omega
theorem bef_mono (a b : Int) (h : a ≤ b) : bef a + 365 * (b - a) ≤ bef b := by unfold bef; omega
theorem cum_succ (y m : Int) (h1 : 1 ≤ m) (h2 : m ≤ 12) : cum y (m + 1) = cum y m + len y m := by
 have : m = 1 ∨ m = 2 ∨ m = 3 ∨ m = 4 ∨ m = 5 ∨ m = 6 ∨ m = 7 ∨ m = 8 ∨ m = 9 ∨ m = 10 ∨ m = 11 ∨ m = 12 := by omega
 rcases this with h | h | h | h | h | h | h | h | h | h | h | h <;> subst h <;> simp [cum, len] <;> omega
theorem cum_bd (y m : Int) (h1 : 1 ≤ m) (h2 : m ≤ 13) : 0 ≤ cum y m ∧ cum y m ≤ 365 + lp y := by
 have hl := lp_01 y
 have : m = 1 ∨ m = 2 ∨ m = 3 ∨ m = 4 ∨ m = 5 ∨ m = 6 ∨ m = 7 ∨ m = 8 ∨ m = 9 ∨ m = 10 ∨ m = 11 ∨ m = 12 ∨ m = 13 := by omega
 rcases this with h | h | h | h | h | h | h | h | h | h | h | h | h <;> subst h <;> simp [cum] <;> omega
theorem cum_13 (y : Int) : cum y 13 = 365 + lp y := by simp [cum]
theorem cum_1 (y : Int) : cum y 1 = 0 := by simp [cum]
theorem len_bd (y m : Int) : 28 ≤ len y m ∧ len y m ≤ 31 := by
 have hl := lp_01 y
 unfold len; repeat' split
 all_goals omega
theorem cum_mono (y a b : Int) (h1 : 1 ≤ a) (h : a < b) (h2 : b ≤ 13) : cum y a + len y a ≤ cum y b := by
 obtain ⟨k, hk⟩ : ∃ k : Nat, b = a + 1 + k := ⟨(b - a - 1).toNat, by omega⟩
 induction k generalizing b with
 | zero => rw [hk]; simp; rw [cum_succ y a h1 (by omega)]; omega
 | succ k ih =>
   have := ih (b - 1) (by omega) (by omega) (by omega)
   have c := cum_succ y (b - 1) (by omega) (by omega)
   have l := len_bd y (b - 1)
   rw [show b - 1 + 1 = b from by omega] at c; omega
theorem num_bd (y m d : Int) (h : vld y m d = true) : 0 ≤ num y m d ∧ num y m d ≤ 73048 ∧ bef y ≤ num y m d ∧ num y m d < bef (y + 1) := by
 obtain ⟨h1, h2, h3, h4, h5, h6⟩ := (vld_iff y m d).1 h
 have hb := bef_mono 1900 y h1; rw [bef_1900] at hb
 have hb' := bef_mono (y + 1) 2100 (by omega); rw [bef_2100] at hb'
 have hs := bef_succ y
 have hc := cum_bd y m (by omega) (by omega)
 have hm := cum_mono y m 13 h3 (by omega) (by omega); rw [cum_13] at hm
 unfold num; omega
theorem num_inj (y m d y' m' d' : Int) (h : vld y m d = true) (h' : vld y' m' d' = true) (e : num y m d = num y' m' d') : y = y' ∧ m = m' ∧ d = d' := by
 have b := num_bd y m d h
 have b' := num_bd y' m' d' h'
 obtain ⟨h1, h2, h3, h4, h5, h6⟩ := (vld_iff y m d).1 h
 obtain ⟨g1, g2, g3, g4, g5, g6⟩ := (vld_iff y' m' d').1 h'
 have ey : y = y' := by
  rcases Int.lt_trichotomy y y' with c | c | c
  ·have := bef_mono (y + 1) y' (by omega); omega
  ·exact c
  ·have := bef_mono (y' + 1) y (by omega); omega
 subst ey
 have em : m = m' := by
  rcases Int.lt_trichotomy m m' with c | c | c
  ·have := cum_mono y m m' h3 c (by omega); unfold num at e; omega
  ·exact c
  ·have := cum_mono y m' m g3 c (by omega); unfold num at e; omega
 subst em
 unfold num at e; exact ⟨rfl, rfl, by omega⟩
end Go.Proofs.YtimjmjmpaicdbaaGreatDoor.Cal
namespace Go.Proofs.YtimjmjmpaicdbaaGreatDoor
open Go.RowKit
theorem before_any (y : Int) (w : World) (h1 : 1 ≤ y) (h2 : y ≤ 1000000) :
  Calls Tryz.prog 157 #[.int .i64 y] w fun e w' => e = .returned (.int .i64 (Cal.bef y)) ∧ w = w' := by
 go_enter Tryz.func157, Tryz.ntmps157
 go_wp2
 go_ret
 exact ⟨ret_int (by unfold Cal.bef; omega), rfl⟩
theorem leap_any (y : Int) (w : World) (h1 : 0 ≤ y) :
  Calls Tryz.prog 191 #[.int .i64 y] w fun e w' => e = .returned (.bool (Cal.leapB y)) ∧ w = w' := by
 by_cases c : y % 4 = 0
 ·by_cases d : y % 100 = 0
  ·go_enter Tryz.func191, Tryz.ntmps191
   go_wp2
   go_ret
   exact ⟨ret_bool (by simp [Cal.leapB, c, d]), rfl⟩
  ·go_enter Tryz.func191, Tryz.ntmps191
   go_wp2
   go_ret
   exact ⟨ret_bool (by simp [Cal.leapB, c, d]), rfl⟩
 ·go_enter Tryz.func191, Tryz.ntmps191
  go_wp2
  go_ret
  exact ⟨ret_bool (by simp [Cal.leapB, c]), rfl⟩
theorem leapR_any (y : Int) (w : World) (h1 : 0 ≤ y) :
  Calls Tryz.prog 186 #[.int .i64 y] w fun e w' => e = .returned (.bool (Cal.leapB y)) ∧ w = w' := by
 by_cases c : y % 4 = 0
 ·by_cases d : y % 100 = 0
  ·go_enter Tryz.func186, Tryz.ntmps186
   go_wp2
   go_ret
   exact ⟨ret_bool (by simp [Cal.leapB, c, d]), rfl⟩
  ·go_enter Tryz.func186, Tryz.ntmps186
   go_wp2
   go_ret
   exact ⟨ret_bool (by simp [Cal.leapB, c, d]), rfl⟩
 ·go_enter Tryz.func186, Tryz.ntmps186
  go_wp2
  go_ret
  exact ⟨ret_bool (by simp [Cal.leapB, c]), rfl⟩
theorem len_2 (y : Int) (h : Cal.leapB y = true) : Cal.len y 2 = 29 := by simp [Cal.len, Cal.lp, h]
theorem len_2' (y : Int) (h : Cal.leapB y = false) : Cal.len y 2 = 28 := by simp [Cal.len, Cal.lp, h]
theorem months (m : Int) (h1 : 1 ≤ m) (h2 : m ≤ 12) : m = 1 ∨ m = 2 ∨ m = 3 ∨ m = 4 ∨ m = 5 ∨ m = 6 ∨ m = 7 ∨ m = 8 ∨ m = 9 ∨ m = 10 ∨ m = 11 ∨ m = 12 := by omega
theorem lengthOf_any (y m : Int) (w : World) (h0 : 0 ≤ y) (h1 : 1 ≤ m) (h2 : m ≤ 12) :
  Calls Tryz.prog 158 #[.int .i64 y, .int .i64 m] w fun e w' => e = .returned (.int .i64 (Cal.len y m)) ∧ Below w.heap.size w w' := by
 by_cases c : m = 2
 ·subst c
  cases hl : Cal.leapB y
  ·have hc : ∀ W, Calls Tryz.prog 191 #[.int .i64 y] W fun e w' => e = .returned (.bool false) ∧ W = w' := fun W => by rw [← hl]; exact leap_any y W h0
   have HL := Lib.hid hl; clear hl
   have HC := Lib.hid hc; clear hc
   go_enter Tryz.func158, Tryz.ntmps158
   go_wp2_with (go_at_call 191; refine (HC.out _).mono ?_; rintro e w' ⟨rfl, rfl⟩)
   go_ret
   exact ⟨ret_int (len_2' y HL.out).symm, (Below.refl _ _).alloc (Nat.le_refl _) _⟩
  ·have hc : ∀ W, Calls Tryz.prog 191 #[.int .i64 y] W fun e w' => e = .returned (.bool true) ∧ W = w' := fun W => by rw [← hl]; exact leap_any y W h0
   have HL := Lib.hid hl; clear hl
   have HC := Lib.hid hc; clear hc
   go_enter Tryz.func158, Tryz.ntmps158
   go_wp2_with (go_at_call 191; refine (HC.out _).mono ?_; rintro e w' ⟨rfl, rfl⟩)
   go_ret
   exact ⟨ret_int (len_2 y HL.out).symm, (Below.refl _ _).alloc (Nat.le_refl _) _⟩
 ·rcases months m h1 h2 with h | h | h | h | h | h | h | h | h | h | h | h
  case inr.inl => exact absurd h c
  all_goals
   subst h
   go_enter Tryz.func158, Tryz.ntmps158
   go_wp2_with fail
   go_ret
   exact ⟨ret_int (by simp [Cal.len]), (Below.refl _ _).alloc (Nat.le_refl _) _⟩
theorem long_any (y m : Int) (w : World) (h0 : 0 ≤ y) :
  Calls Tryz.prog 185 #[.int .i64 y, .int .i64 m] w fun e w' => e = .returned (.int .i64 (Cal.len y m)) ∧ w = w' := by
 by_cases c : m = 2
 ·subst c
  cases hl : Cal.leapB y
  ·have hc : ∀ W, Calls Tryz.prog 186 #[.int .i64 y] W fun e w' => e = .returned (.bool false) ∧ W = w' := fun W => by rw [← hl]; exact leapR_any y W h0
   have HL := Lib.hid hl; clear hl
   have HC := Lib.hid hc; clear hc
   go_enter Tryz.func185, Tryz.ntmps185
   go_wp2_with (go_at_call 186; refine (HC.out _).mono ?_; rintro e w' ⟨rfl, rfl⟩)
   go_ret
   exact ⟨ret_int (len_2' y HL.out).symm, rfl⟩
  ·have hc : ∀ W, Calls Tryz.prog 186 #[.int .i64 y] W fun e w' => e = .returned (.bool true) ∧ W = w' := fun W => by rw [← hl]; exact leapR_any y W h0
   have HL := Lib.hid hl; clear hl
   have HC := Lib.hid hc; clear hc
   go_enter Tryz.func185, Tryz.ntmps185
   go_wp2_with (go_at_call 186; refine (HC.out _).mono ?_; rintro e w' ⟨rfl, rfl⟩)
   go_ret
   exact ⟨ret_int (len_2 y HL.out).symm, rfl⟩
 ·by_cases h4 : m = 4
  ·subst h4
   go_enter Tryz.func185, Tryz.ntmps185
   go_wp2_with fail
   go_ret
   exact ⟨ret_int (by simp [Cal.len]), rfl⟩
  ·by_cases h6 : m = 6
   ·subst h6
    go_enter Tryz.func185, Tryz.ntmps185
    go_wp2_with fail
    go_ret
    exact ⟨ret_int (by simp [Cal.len]), rfl⟩
   ·by_cases h9 : m = 9
    ·subst h9
     go_enter Tryz.func185, Tryz.ntmps185
     go_wp2_with fail
     go_ret
     exact ⟨ret_int (by simp [Cal.len]), rfl⟩
    ·by_cases h11 : m = 11
     ·subst h11
      go_enter Tryz.func185, Tryz.ntmps185
      go_wp2_with fail
      go_ret
      exact ⟨ret_int (by simp [Cal.len]), rfl⟩
     ·go_enter Tryz.func185, Tryz.ntmps185
      go_wp2_with fail
      go_ret
      exact ⟨ret_int (by simp [Cal.len, c, h4, h6, h9, h11]), rfl⟩
theorem num_eq (y m d a : Int) (h : a = Cal.bef y + Cal.cum y m) : a + d - 1 = Cal.num y m d := by unfold Cal.num; omega
theorem bef_t (y : Int) (h : Cal.leapB y = true) : Cal.bef (y + 1) = Cal.bef y + 365 + 1 := by rw [Cal.bef_succ, Cal.lp, if_pos h]
theorem bef_f (y : Int) (h : Cal.leapB y = false) : Cal.bef (y + 1) = Cal.bef y + 365 := by rw [Cal.bef_succ, Cal.lp, h]; simp
theorem bef_bd (y : Int) (h1 : 1900 ≤ y) (h2 : y ≤ 2100) : 0 ≤ Cal.bef y ∧ Cal.bef y ≤ 73049 := by
 have := Cal.bef_mono 1900 y h1; rw [Cal.bef_1900] at this
 have g := Cal.bef_mono y 2100 h2; rw [Cal.bef_2100] at g
 omega
theorem dayFor_yes (y m d : Int) (w : World) (h : Cal.vld y m d = true) :
  Calls Tryz.prog 152 #[.agg #[.int .i64 y, .int .i64 m, .int .i64 d]] w fun e w' => e = .returned (.int .i64 (Cal.num y m d)) ∧ Below w.heap.size w w' := by
 obtain ⟨h1, h2, h3, h4, h5, h6⟩ := (Cal.vld_iff y m d).1 h
 have hd := Cal.len_bd y m
 clear h
 go_enter Tryz.func152, Tryz.ntmps152
 go_wp2_with fail
 go_quiet ((go_at_call 185; exact quiet_same (long_any _ _ _ (by omega))))
 go_wp2_with fail
 go_loop [3, 4] (fun n i => ∃ k : Int, 1900 ≤ k ∧ k ≤ y ∧ i = .int .i64 k ∧ n = .int .i64 (Cal.bef k)) (fun _ i => (y - intOf i).toNat)
 case atStart => exact ⟨1900, by omega, by omega, rfl, by rw [Cal.bef_1900]⟩
 case round =>
  obtain ⟨k, hk1, hk2, rfl, rfl⟩ := hrel
  have hb := bef_bd k hk1 (by omega)
  by_cases hlt : k < y
  ·cases hl : Cal.leapB k
   ·have HC := Lib.hid (leapR_any k)
    rw [hl] at HC
    have HL := Lib.hid hl; clear hl
    go_wp2_with (go_at_call 186; refine (HC.out _ (by omega)).mono ?_; rintro e w' ⟨rfl, rfl⟩)
    go_round
    case rel => exact ⟨k + 1, by omega, by omega, rfl, by rw [bef_f k HL.out]⟩
    case measure => simp [intOf]; omega
   ·have HC := Lib.hid (leapR_any k)
    rw [hl] at HC
    have HL := Lib.hid hl; clear hl
    go_wp2_with (go_at_call 186; refine (HC.out _ (by omega)).mono ?_; rintro e w' ⟨rfl, rfl⟩)
    go_round
    case rel => exact ⟨k + 1, by omega, by omega, rfl, by rw [bef_t k HL.out]⟩
    case measure => simp [intOf]; omega
  ·obtain rfl : k = y := by omega
   clear hk1 hk2
   go_wp2_with fail
   go_loop [3, 5] (fun n i => ∃ j : Int, 1 ≤ j ∧ j ≤ m ∧ i = .int .i64 j ∧ n = .int .i64 (Cal.bef k + Cal.cum k j)) (fun _ i => (m - intOf i).toNat)
   case atStart => exact ⟨1, by omega, by omega, rfl, by rw [Cal.cum_1]; simp⟩
   case round =>
    obtain ⟨j, hj1, hj2, rfl, rfl⟩ := hrel
    have hc := Cal.cum_bd k j hj1 (by omega)
    have hp := Cal.lp_01 k
    have hn := Cal.len_bd k j
    by_cases hlt2 : j < m
    ·go_wp2_with (go_at_call 185; refine (long_any _ _ _ (by omega)).mono ?_; rintro e w' ⟨rfl, rfl⟩)
     go_round
     case rel => exact ⟨j + 1, by omega, by omega, rfl, by rw [Cal.cum_succ k j hj1 (by omega), Int.add_assoc]⟩
     case measure => simp [intOf]; omega
    ·obtain rfl : j = m := by omega
     go_wp2_with fail
     go_ret
     exact ⟨ret_int (num_eq _ _ _ _ rfl), below_drewN ((Below.refl _ _).alloc (Nat.le_refl _) _) _⟩
theorem vld_no (y m d : Int) (h : Cal.vld y m d = false) : y < 1900 ∨ 2099 < y ∨ m < 1 ∨ 12 < m ∨ d < 1 ∨ Cal.len y m < d := by
 simp only [Cal.vld, decide_eq_false_iff_not] at h; omega
theorem dayFor_no (y m d : Int) (w : World) (h : Cal.vld y m d = false) :
  Calls Tryz.prog 152 #[.agg #[.int .i64 y, .int .i64 m, .int .i64 d]] w fun e w' => e = .returned (.int .i64 (-1)) ∧ Below w.heap.size w w' := by
 have hv := vld_no y m d h
 clear h
 by_cases g0 : y < 1900
 ·clear hv
  go_enter Tryz.func152, Tryz.ntmps152
  go_wp2_with fail
  go_quiet (fail)
  go_wp2_with fail
  go_ret
  exact ⟨rfl, below_drewN ((Below.refl _ _).alloc (Nat.le_refl _) _) _⟩
 ·have e0 : decide (y < 1900) = false := by simpa using g0
  by_cases g1 : 2099 < y
  ·clear hv
   go_enter Tryz.func152, Tryz.ntmps152
   go_wp2_with fail
   go_quiet (fail)
   go_wp2_with fail
   go_ret
   exact ⟨rfl, below_drewN ((Below.refl _ _).alloc (Nat.le_refl _) _) _⟩
  ·have e1 : decide (2099 < y) = false := by simpa using g1
   by_cases g2 : m < 1
   ·clear hv
    go_enter Tryz.func152, Tryz.ntmps152
    go_wp2_with fail
    go_quiet (fail)
    go_wp2_with fail
    go_ret
    exact ⟨rfl, below_drewN ((Below.refl _ _).alloc (Nat.le_refl _) _) _⟩
   ·have e2 : decide (m < 1) = false := by simpa using g2
    by_cases g3 : 12 < m
    ·clear hv
     go_enter Tryz.func152, Tryz.ntmps152
     go_wp2_with fail
     go_quiet (fail)
     go_wp2_with fail
     go_ret
     exact ⟨rfl, below_drewN ((Below.refl _ _).alloc (Nat.le_refl _) _) _⟩
    ·have e3 : decide (12 < m) = false := by simpa using g3
     by_cases g4 : d < 1
     ·clear hv
      go_enter Tryz.func152, Tryz.ntmps152
      go_wp2_with fail
      go_quiet (fail)
      go_wp2_with fail
      go_ret
      exact ⟨rfl, below_drewN ((Below.refl _ _).alloc (Nat.le_refl _) _) _⟩
     ·have e4 : decide (d < 1) = false := by simpa using g4
      have g5 : Cal.len y m < d := by omega
      have hd := Cal.len_bd y m
      clear hv
      go_enter Tryz.func152, Tryz.ntmps152
      go_wp2_with fail
      go_quiet ((go_at_call 185; exact quiet_same (long_any _ _ _ (by omega))))
      go_wp2_with fail
      go_ret
      exact ⟨rfl, below_drewN ((Below.refl _ _).alloc (Nat.le_refl _) _) _⟩
end Go.Proofs.YtimjmjmpaicdbaaGreatDoor
namespace Go.Proofs.YtimjmjmpaicdbaaGreatDoor
open Go.RowKit Go.Sort
theorem guess (n : Int) (h1 : 0 ≤ n) (h2 : n ≤ 73048) : Cal.bef (1900 + n / 366) ≤ n ∧ 1900 + n / 366 ≤ 2099 := by
 unfold Cal.bef; omega
theorem bef_lt (n y : Int) (h : Cal.bef y ≤ n) (h2 : n ≤ 73048) : y ≤ 2099 := by
 by_cases c : y ≤ 2099
 ·exact c
 ·have := Cal.bef_mono 2100 y (by omega); rw [Cal.bef_2100] at this; omega
theorem dateOf_yes (n : Int) (w : World) (h1 : 0 ≤ n) (h2 : n ≤ 73048) :
  Calls Tryz.prog 101 #[.int .i64 n] w fun e w' => ∃ y m d : Int, Cal.vld y m d = true ∧ Cal.num y m d = n ∧ e = .returned (.tuple #[.agg #[.int .i64 y, .int .i64 m, .int .i64 d], .int .i64 0]) ∧ Below w.heap.size w w' := by
 obtain ⟨g1, g2⟩ := guess n h1 h2
 go_enter Tryz.func101, Tryz.ntmps101
 go_wp2_with (go_at_call 156; refine (outside_no _ _ _ _ (by omega) (by omega)).mono ?_; rintro e w' ⟨rfl, rfl⟩)
 go_loopg [] (2099 - (1900 + n / 366)).toNat (fun gk wr => ∃ y : Int, 1900 ≤ y ∧ y ≤ 2099 ∧ Cal.bef y ≤ n ∧ gk = (2099 - y).toNat ∧ wr = (w.alloc (.cells #[.int .i64 0, .int .i64 0, .int .i64 0] 138)).alloc (.cells #[.int .i64 y, .int .i64 1, .int .i64 0] 138))
 case atStart => exact ⟨1900 + n / 366, by omega, g2, g1, rfl, rfl⟩
 case round =>
  obtain ⟨y, hy1, hy2, hy3, rfl, rfl⟩ := hrel
  clear g1 g2
  by_cases hc : Cal.bef (y + 1) ≤ n
  ·have hy4 := bef_lt n (y + 1) hc h2
   go_wp2_with (go_at_call 157; refine (before_any _ _ (by omega) (by omega)).mono ?_; rintro e w' ⟨rfl, rfl⟩)
   go_roundg (2099 - (y + 1)).toNat
   case rel => exact ⟨y + 1, by omega, by omega, hc, rfl, rfl⟩
   case measure => omega
  ·have hs := Cal.bef_succ y
   have hb := bef_bd y hy1 (by omega)
   have hl := Cal.lp_01 y
   go_wp2_with (go_at_call 157; refine (before_any _ _ (by omega) (by omega)).mono ?_; rintro e w' ⟨rfl, rfl⟩)
   clear hs
   go_loopg [5] 12 (fun gk r wr => ∃ m : Int, 1 ≤ m ∧ m ≤ 12 ∧ gk = (13 - m).toNat ∧ r = .int .i64 (n - Cal.bef y - Cal.cum y m) ∧ 0 ≤ n - Cal.bef y - Cal.cum y m ∧ Blk wr (w.heap.size + 1) #[.int .i64 y, .int .i64 m, .int .i64 0] 138 ∧
     Blk wr w.heap.size #[.int .i64 0, .int .i64 0, .int .i64 0] 138 ∧ Below w.heap.size w wr)
   case atStart => exact ⟨1, by omega, by omega, rfl, by rw [Cal.cum_1]; simp, by rw [Cal.cum_1]; omega, by have := Blk.new (w.alloc (.cells #[.int .i64 0, .int .i64 0, .int .i64 0] 138)) #[.int .i64 y, .int .i64 1, .int .i64 0] 138; simpa using this, (Blk.new _ _ _).alloc _, ((Below.refl _ _).alloc (Nat.le_refl _) _).alloc (by simp) _⟩
   case round =>
    obtain ⟨m, hm1, hm2, rfl, rfl, hr, hD, hR, hB⟩ := hrel
    have hbd := Cal.cum_bd y m hm1 (by omega)
    have hn := Cal.len_bd y m
    obtain ⟨c0, c1, c2⟩ := hD.three
    have cf := hD.free
    have hl := Cal.lp_01 y
    have h13 := Cal.cum_mono y m 13 hm1 (by omega) (by omega)
    rw [Cal.cum_13] at h13
    by_cases hlt : Cal.len y m ≤ n - Cal.bef y - Cal.cum y m
    ·have hm3 : m < 12 := by
      by_cases e : m = 12
      ·subst e; have := Cal.cum_succ y 12 (by omega) (by omega); rw [show (12 : Int) + 1 = 13 from rfl, Cal.cum_13] at this; have := Cal.bef_succ y; omega
      ·omega
     clear hc
     go_wp2_with (go_at_call 158; refine (lengthOf_any _ _ _ (by omega) (by omega) (by omega)).mono ?_; rintro e w' ⟨rfl, hB3⟩; have hD := hD.keep hB3; have hR := hR.keep hB3; have hB := below_up hB hB3; obtain ⟨c0, c1, c2⟩ := hD.three; have cf := hD.free)
     have hs := Cal.cum_succ y m hm1 (by omega)
     go_roundg (13 - (m + 1)).toNat
     case rel => exact ⟨m + 1, by omega, by omega, rfl, by rw [hs]; go_num, by rw [hs]; omega, by have := hD.set 1 (.int .i64 (m + 1)); simpa using this, hR.setOther (by simp) _, hB.setCell (by simp) _⟩
     case measure => omega
    ·clear hc
     obtain ⟨r0, r1, r2⟩ := hR.three
     have rf := hR.free
     go_wp2_with (go_at_call 158; refine (lengthOf_any _ _ _ (by omega) (by omega) (by omega)).mono ?_; rintro e w' ⟨rfl, hB3⟩; have hD := hD.keep hB3; have hR := hR.keep hB3; have hB := below_up hB hB3; obtain ⟨c0, c1, c2⟩ := hD.three; have cf := hD.free; obtain ⟨r0, r1, r2⟩ := hR.three; have rf := hR.free)
     have hF := (((hR.setOther (a := ⟨w.heap.size + 1, 2, none⟩) (by simp) (.int .i64 (n - Cal.bef y - Cal.cum y m + 1))).set 0 (.int .i64 y)).set 1 (.int .i64 m)).set 2 (.int .i64 (n - Cal.bef y - Cal.cum y m + 1))
     obtain ⟨f0, f1, f2⟩ := Blk.three (by simpa using hF)
     refine bodyPost_ret (v := .tuple #[.agg #[.int .i64 y, .int .i64 m, .int .i64 (n - Cal.bef y - Cal.cum y m + 1)], .int .i64 0]) (by simp [results, Tryz.results101, go_sem, f0, f1, f2]) rfl ⟨y, m, _, ?_, ?_, rfl, ?_⟩
     ·exact (Cal.vld_iff _ _ _).2 ⟨by omega, by omega, hm1, hm2, by omega, by omega⟩
     ·unfold Cal.num; omega
     ·exact (((hB.setCell (by simp) _).setCell (Nat.le_refl _) _).setCell (Nat.le_refl _) _).setCell (Nat.le_refl _) _
end Go.Proofs.YtimjmjmpaicdbaaGreatDoor
namespace Go.Proofs.YtimjmjmpaicdbaaGreatDoor
open Go.RowKit Go.Sort Go.Shelf
namespace Tx
def P2 (n : Int) : ByteArray := mk (pad n.toNat 2)
def Y4 (n : Int) : ByteArray := mk (pad n.toNat 4)
theorem P2_size {n : Int} (h0 : 0 ≤ n) (h : n < 100) : (P2 n).size = 2 := by
 unfold P2; rw [mk_size]; exact pad_len (by by_cases c : n.toNat < 10; rw [dl_one c]; omega; rw [dl_two (by omega) (by omega)]; omega)
theorem Y4_size {n : Int} (h0 : 1000 ≤ n) (h : n < 10000) : (Y4 n).size = 4 := by
 unfold Y4; rw [mk_size]; exact pad_len (by rw [dl_four (by omega) (by omega)]; omega)
end Tx
theorem repeat_zero (w : World) : Calls Tryz.prog 224 #[.string ⟨#[48]⟩, .int .i64 0] w fun e w' => e = .returned (.string ⟨#[]⟩) ∧ w' = w := Any.strings_Repeat_zero Lay.repeatS ⟨#[48]⟩ w
theorem repeat_one (w : World) : Calls Tryz.prog 224 #[.string ⟨#[48]⟩, .int .i64 1] w fun e w' => e = .returned (.string ⟨#[48]⟩) ∧ w' = w := Any.strings_Repeat_one Lay.repeatS ⟨#[48]⟩ w
theorem padded2_is (n : Int) (h0 : 0 ≤ n) (h1 : n < 100) (w : World) :
  Calls Tryz.prog 192 #[.int .i64 n, .int .i64 2] w fun e w' => e = .returned (.string (Tx.P2 n)) ∧ w' = w := by
 obtain ⟨i, rfl⟩ := Int.eq_ofNat_of_zero_le h0
 have HI := Lib.hid (itoa_small i (by omega) w)
 have hlen : (ByteArray.mk (Lib.decDigits i).toArray).size = Tx.dl i := by simp [ByteArray.size, Tx.dl]
 unfold Tx.P2
 rw [Int.toNat_natCast]
 unfold Tx.pad
 by_cases c : i < 10
 ·have HR := Lib.hid (repeat_one w)
  rw [Tx.dl_one c] at hlen ⊢
  have e : ByteArray.mk #[48] ++ ByteArray.mk (Lib.decDigits i).toArray = Tx.mk (List.replicate (2 - 1) 48 ++ Lib.decDigits i) := by
   rw [show ByteArray.mk #[48] = Tx.mk [48] from rfl, Tx.mk_append]; rfl
  generalize ByteArray.mk (Lib.decDigits i).toArray = s at *
  have hs : s.size = 1 := hlen
  go_enter Tryz.func192, Tryz.ntmps192
  go_wp2_with (first | (go_at_call 28; refine HI.out.mono ?_; rintro e w' ⟨rfl, rfl⟩) | (go_at_call 224; refine HR.out.mono ?_; rintro e w' ⟨rfl, rfl⟩))
  go_ret
  exact ⟨rfl, rfl⟩
 ·have HR := Lib.hid (repeat_zero w)
  rw [Tx.dl_two (by omega) (by omega)] at hlen ⊢
  have e : ByteArray.mk #[] ++ ByteArray.mk (Lib.decDigits i).toArray = Tx.mk (List.replicate (2 - 2) 48 ++ Lib.decDigits i) := by
   rw [show ByteArray.mk #[] = Tx.mk [] from rfl, Tx.mk_append]; rfl
  generalize ByteArray.mk (Lib.decDigits i).toArray = s at *
  have hs : s.size = 2 := hlen
  go_enter Tryz.func192, Tryz.ntmps192
  go_wp2_with (first | (go_at_call 28; refine HI.out.mono ?_; rintro e w' ⟨rfl, rfl⟩) | (go_at_call 224; refine HR.out.mono ?_; rintro e w' ⟨rfl, rfl⟩))
  go_ret
  exact ⟨rfl, rfl⟩
theorem padded4_is (n : Int) (h0 : 1000 ≤ n) (h1 : n < 10000) (w : World) (ht : Tx.Tab w) :
  Calls Tryz.prog 192 #[.int .i64 n, .int .i64 4] w fun e w' => e = .returned (.string (Tx.Y4 n)) ∧ Below w.heap.size w w' := by
 obtain ⟨i, rfl⟩ := Int.eq_ofNat_of_zero_le (show 0 ≤ n by omega)
 have HI := Lib.hid (itoa_any i (by omega) (by omega) w ht)
 rw [Lib.itoa_nonneg] at HI
 have hlen : (ByteArray.mk (Lib.decDigits i).toArray).size = Tx.dl i := by simp [ByteArray.size, Tx.dl]
 unfold Tx.Y4
 rw [Int.toNat_natCast]
 unfold Tx.pad
 have HR := Lib.hid (fun W => repeat_zero W)
 rw [Tx.dl_four (by omega) (by omega)] at hlen ⊢
 have e : ByteArray.mk #[] ++ ByteArray.mk (Lib.decDigits i).toArray = Tx.mk (List.replicate (4 - 4) 48 ++ Lib.decDigits i) := by
  rw [show ByteArray.mk #[] = Tx.mk [] from rfl, Tx.mk_append]; rfl
 generalize ByteArray.mk (Lib.decDigits i).toArray = s at *
 have hs : s.size = 4 := hlen
 go_enter Tryz.func192, Tryz.ntmps192
 go_wp2_with (first | (go_at_call 28; refine HI.out.mono ?_; rintro e w' ⟨rfl, k, os, rfl⟩) | (go_at_call 224; refine (HR.out _).mono ?_; rintro e w' ⟨rfl, rfl⟩))
 go_ret
 exact ⟨rfl, rfl, rfl, rfl, by simp [grow], fun j hj => by simp [grow, Array.getElem?_append, hj]⟩
end Go.Proofs.YtimjmjmpaicdbaaGreatDoor

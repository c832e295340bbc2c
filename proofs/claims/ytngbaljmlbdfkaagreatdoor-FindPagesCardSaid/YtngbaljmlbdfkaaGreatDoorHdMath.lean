/- Whether a condition holds for a photo: the plain function; what a right condition and a right photo give. -/
import Derived.Test.YtngbaljmlbdfkaaGreatDoorCndErr
import Derived.Test.YtngbaljmlbdfkaaGreatDoorDistW
import Derived.Test.YtngbaljmlbdfkaaGreatDoorDcMath
import Derived.Lib.IndexMore
import Derived.Laws.IdiomStrings
namespace Go.Proofs.YtngbaljmlbdfkaaGreatDoor
open Go.RowKit Go.Sort Go.Shelf
set_option linter.unusedVariables false
namespace Hd
/-- The distance that the program reckons. -/
noncomputable def dist (a o a' o' : Int) : Int := Classical.choose (distW_is a o a' o')
theorem dist_is (a o a' o' : Int) : ∃ e : Int, ∀ w : World, Calls Tryz.prog 103 #[.agg #[.int .i64 a, .int .i64 o], .agg #[.int .i64 a', .int .i64 o']] w fun r w' => r = .returned (.tuple #[.int .i64 (dist a o a' o'), .int .i64 e]) ∧ Below w.heap.size w w' :=
  Classical.choose_spec (distW_is a o a' o')
/-- Capitals made small. -/
def lowC (c : UInt8) : UInt8 := if 65 ≤ c ∧ c ≤ 90 then c + 32 else c
def low (s : ByteArray) : ByteArray := ⟨⟨s.data.toList.map lowC⟩⟩
theorem low_size (s : ByteArray) : (low s).size = s.size := by
  show (⟨(s.data.toList.map lowC)⟩ : Array UInt8).size = s.data.size
  simp
/-- Do all of the first n? -/
def all (f : Nat → Bool) : Nat → Bool
  | 0 => true
  | n + 1 => all f n && f n
theorem all_no {f : Nat → Bool} {n j : Nat} (hj : j < n) (h : f j = false) : all f n = false := by
  induction n with
  | zero => omega
  | succ n ih =>
    unfold all
    by_cases e : j = n
    · subst e; rw [h]; simp
    · rw [ih (by omega)]; rfl
theorem all_yes {f : Nat → Bool} {n : Nat} (h : ∀ j, j < n → f j = true) : all f n = true := by
  induction n with
  | zero => rfl
  | succ n ih => unfold all; rw [ih (fun j hj => h j (by omega)), h n (by omega)]; rfl
theorem hit_yes {f : Nat → Bool} {n j : Nat} (hj : j < n) (h : f j = true) : Fd.hit f n = true := by
  induction n with
  | zero => omega
  | succ n ih =>
    unfold Fd.hit
    by_cases e : j = n
    · subst e; rw [h]; simp
    · rw [ih (by omega)]; rfl
theorem hit_no {f : Nat → Bool} {n : Nat} (h : ∀ j, j < n → f j = false) : Fd.hit f n = false := by
  induction n with
  | zero => rfl
  | succ n ih => unfold Fd.hit; rw [ih (fun j hj => h j (by omega)), h n (by omega)]; rfl
def tall (p : Ph) : Int := if 4 < p.turn then p.W - p.H else p.H - p.W
def box (a o a0 o0 a1 o1 : Int) : Bool := if a0 ≤ a ∧ a ≤ a1 then (if o0 ≤ o1 then decide (o0 ≤ o ∧ o ≤ o1) else decide (o0 ≤ o ∨ o ≤ o1)) else false
/-- What an operation without conditions asks of a photo. -/
noncomputable def leaf (p : Ph) (op : Int) (text : ByteArray) (lo hi : Int) (lat lon : Nat → Int) : Bool :=
  if op = 4 then Fd.hit (fun i => text.toList == (p.tag i).toList) p.tn
  else if op = 5 then Lib.contains (low p.cap).data.toList (low text).data.toList
  else if op = 6 then Fd.hit (fun i => lo == p.who i) p.pn
  else if op = 7 then decide (lo ≤ p.stars ∧ p.stars ≤ hi)
  else if op = 8 then decide (0 ≤ p.mom) && decide (lo ≤ p.mom + 60 * p.zone ∧ p.mom + 60 * p.zone ≤ hi)
  else if op = 9 then decide (0 < tall p)
  else if op = 10 then decide (tall p < 0)
  else if op = 11 then decide (tall p = 0)
  else if op = 12 then !(p.turn == 1)
  else if op = 13 then decide (0 < p.wn)
  else if op = 14 then decide (0 < p.wn) && decide (dist (p.lat 0) (p.lon 0) (lat 0) (lon 0) ≤ lo)
  else if op = 15 then decide (0 < p.wn) && box (p.lat 0) (p.lon 0) (lat 0) (lon 0) (lat 1) (lon 1)
  else p.hid
/-- A condition without kids. -/
theorem leaf4 {p : Ph} {text : ByteArray} {lo hi : Int} {lat lon : Nat → Int} : leaf p 4 text lo hi lat lon = Fd.hit (fun i => text.toList == (p.tag i).toList) p.tn := rfl
theorem leaf5 {p : Ph} {text : ByteArray} {lo hi : Int} {lat lon : Nat → Int} : leaf p 5 text lo hi lat lon = Lib.contains (low p.cap).data.toList (low text).data.toList := rfl
theorem leaf6 {p : Ph} {text : ByteArray} {lo hi : Int} {lat lon : Nat → Int} : leaf p 6 text lo hi lat lon = Fd.hit (fun i => lo == p.who i) p.pn := rfl
theorem leaf7 {p : Ph} {text : ByteArray} {lo hi : Int} {lat lon : Nat → Int} : leaf p 7 text lo hi lat lon = decide (lo ≤ p.stars ∧ p.stars ≤ hi) := rfl
theorem leaf8 {p : Ph} {text : ByteArray} {lo hi : Int} {lat lon : Nat → Int} : leaf p 8 text lo hi lat lon = (decide (0 ≤ p.mom) && decide (lo ≤ p.mom + 60 * p.zone ∧ p.mom + 60 * p.zone ≤ hi)) := rfl
theorem leaf9 {p : Ph} {text : ByteArray} {lo hi : Int} {lat lon : Nat → Int} : leaf p 9 text lo hi lat lon = decide (0 < tall p) := rfl
theorem leaf10 {p : Ph} {text : ByteArray} {lo hi : Int} {lat lon : Nat → Int} : leaf p 10 text lo hi lat lon = decide (tall p < 0) := rfl
theorem leaf11 {p : Ph} {text : ByteArray} {lo hi : Int} {lat lon : Nat → Int} : leaf p 11 text lo hi lat lon = decide (tall p = 0) := rfl
theorem leaf12 {p : Ph} {text : ByteArray} {lo hi : Int} {lat lon : Nat → Int} : leaf p 12 text lo hi lat lon = (!(p.turn == 1)) := rfl
theorem leaf13 {p : Ph} {text : ByteArray} {lo hi : Int} {lat lon : Nat → Int} : leaf p 13 text lo hi lat lon = decide (0 < p.wn) := rfl
theorem leaf14 {p : Ph} {text : ByteArray} {lo hi : Int} {lat lon : Nat → Int} : leaf p 14 text lo hi lat lon = (decide (0 < p.wn) && decide (dist (p.lat 0) (p.lon 0) (lat 0) (lon 0) ≤ lo)) := rfl
theorem leaf15 {p : Ph} {text : ByteArray} {lo hi : Int} {lat lon : Nat → Int} : leaf p 15 text lo hi lat lon = (decide (0 < p.wn) && box (p.lat 0) (p.lon 0) (lat 0) (lon 0) (lat 1) (lon 1)) := rfl
theorem leaf16 {p : Ph} {text : ByteArray} {lo hi : Int} {lat lon : Nat → Int} : leaf p 16 text lo hi lat lon = p.hid := rfl
end Hd
/-- Does a condition hold? -/
noncomputable def Cnd.holds (p : Ph) : Cnd → Bool
  | .zero => false
  | .mk op ka kn kc kids text low high aa an ac lat lon =>
    if op = 1 then Hd.all (fun i => (kids i).holds p) kn
    else if op = 2 then Fd.hit (fun i => (kids i).holds p) kn
    else if op = 3 then !(kids 0).holds p
    else Hd.leaf p op text low high lat lon
theorem Cnd.holds_eq {p : Ph} {c : Cnd} (h : c ≠ .zero) : c.holds p = if c.op = 1 then Hd.all (fun i => (c.kids i).holds p) c.kn else if c.op = 2 then Fd.hit (fun i => (c.kids i).holds p) c.kn else if c.op = 3 then !(c.kids 0).holds p else Hd.leaf p c.op c.text c.low c.high c.lat c.lon := by
  cases c with
  | zero => exact absurd rfl h
  | mk => rfl
/-- A right condition. -/
def Cnd.Good : Cnd → Prop
  | .zero => False
  | .mk op ka kn kc kids text low high aa an ac lat lon => (Cnd.bareE op kn text low high an lat lon = 0 ∧ kn ≤ 100) ∧ ∀ i, i < kn → (kids i).Good
theorem Cnd.Good.bare {c : Cnd} (h : c.Good) : Cnd.bareE c.op c.kn c.text c.low c.high c.an c.lat c.lon = 0 := by
  cases c with
  | zero => exact h.elim
  | mk => exact h.1.1
theorem Cnd.Good.few {c : Cnd} (h : c.Good) : c.kn ≤ 100 := by
  cases c with
  | zero => exact h.elim
  | mk => exact h.1.2
theorem Cnd.Good.ne {c : Cnd} (h : c.Good) : c ≠ .zero := by
  rintro rfl; exact h
theorem Cnd.Good.each {c : Cnd} (h : c.Good) (i : Nat) (hi : i < c.kn) : (c.kids i).Good := by
  cases c with
  | zero => exact h.elim
  | mk => exact h.2 i hi
theorem Cnd.Good.op {c : Cnd} (h : c.Good) : 1 ≤ c.op ∧ c.op ≤ 16 := by
  by_cases g : 1 ≤ c.op ∧ c.op ≤ 16
  · exact g
  · have := h.bare; rw [Cnd.bareE_kind g] at this; cases this
theorem Cnd.Good.form {c : Cnd} (h : c.Good) : Cnd.formB c.op c.kn c.an c.text c.low c.high = true := by
  cases g : Cnd.formB c.op c.kn c.an c.text c.low c.high
  · have := h.bare; rw [Cnd.bareE_form h.op g] at this; cases this
  · rfl
theorem Cnd.Good.textOk {c : Cnd} (h : c.Good) : Cnd.textE c.op c.text = 0 := by
  by_cases g : Cnd.textE c.op c.text = 0
  · exact g
  · have := h.bare; rw [Cnd.bareE_text h.op h.form rfl g] at this; exact absurd this g
theorem Cnd.Good.kid1 {c : Cnd} (h : c.Good) (h3 : c.op = 3) : c.kn = 1 := by
  by_cases g : c.kn = 1
  · exact g
  · have := h.form; rw [Cnd.formB_kids_B _ _ _ _ _ _ h3 g] at this; cases this
theorem Cnd.Good.at1 {c : Cnd} (h : c.Good) (h3 : c.op = 14) : c.an = 1 := by
  by_cases g : c.an = 1
  · exact g
  · have := h.form; rw [Cnd.formB_at_I _ _ _ _ _ _ h3 g] at this; cases this
theorem Cnd.Good.at2 {c : Cnd} (h : c.Good) (h3 : c.op = 15) : c.an = 2 := by
  by_cases g : c.an = 2
  · exact g
  · have := h.form; rw [Cnd.formB_at_J _ _ _ _ _ _ h3 g] at this; cases this
theorem Cnd.Good.says {c : Cnd} (h : c.Good) (h3 : c.op = 5) : 1 ≤ c.text.size ∧ c.text.size ≤ 200 := by
  by_cases g : 1 ≤ c.text.size ∧ c.text.size ≤ 200
  · exact g
  · have := h.textOk; unfold Cnd.textE at this; rw [if_neg (by omega), if_pos h3, if_neg g] at this; cases this
theorem Cnd.ahead_more {c : Cnd} (h : c ≠ .zero) (d : Nat) {l : List (Cnd × Nat)} (hl : l.length ≤ 100) : l.length + 1 ≤ (Cnd.ahead c d l).length := by
  by_cases hd : d ≤ 12
  · rw [Cnd.ahead_eq h hl hd]
    obtain ⟨m, hm⟩ := Cnd.aheadK_pre (f := fun i => Cnd.ahead (c.kids i) (d + 1)) (fun i l => Cnd.ahead_pre _ _ _) c.kn (l ++ [(c, d)])
    rw [hm]; simp <;> omega
  · rw [Cnd.ahead_deep h hl (by omega)]; simp
theorem Cnd.good_ahead (w : World) : ∀ (c : Cnd) (d : Nat) (l : List (Cnd × Nat)), c.In w → Cnd.errL 0 (Cnd.ahead c d l) = 0 → c.Good := by
  refine Cnd.ind (fun d l h => absurd rfl h.ne) fun c hne ih d l hI he => ?_
  have hl : Cnd.errL 0 l = 0 := by
    by_cases g : Cnd.errL 0 l = 0
    · exact g
    · obtain ⟨m, hm⟩ := Cnd.ahead_pre c d l
      rw [hm, Cnd.errL_pre g] at he
      exact absurd he g
  have hle := Cnd.errL_le hl
  have hlt : l.length < 100 ∧ d ≤ 12 := by
    by_cases g : l.length = 100 ∨ 12 < d
    · rw [Cnd.ahead_large hne hl g] at he; cases he
    · omega
  have hb : c.bare = 0 := by
    by_cases g : c.bare = 0
    · exact g
    · rw [Cnd.ahead_bad hne hl hlt.1 hlt.2 g] at he; exact absurd he g
  rw [Cnd.ahead_eq hne (by omega) hlt.2] at he
  have hk : ∀ i, i < c.kn → (c.kids i).Good := by
    intro i hi
    refine ih i (d + 1) (Cnd.aheadK (fun i => Cnd.ahead (c.kids i) (d + 1)) i (l ++ [(c, d)])) (hI.each i hi) ?_
    by_cases g : Cnd.errL 0 (Cnd.aheadK (fun i => Cnd.ahead (c.kids i) (d + 1)) (i + 1) (l ++ [(c, d)])) = 0
    · rw [Cnd.aheadK] at g; exact g
    · rw [Cnd.aheadK_more (fun i l => Cnd.ahead_pre _ _ _) _ (i + 1) c.kn (by omega) g] at he; exact absurd he g
  rw [Cnd.bare_eq hne] at hb
  have hn : ∀ j, j ≤ c.kn → j ≤ (Cnd.aheadK (fun i => Cnd.ahead (c.kids i) (d + 1)) j (l ++ [(c, d)])).length := by
    intro j
    induction j with
    | zero => intro _; omega
    | succ j ihj =>
      intro hj
      have h1 := ihj (by omega)
      have h0 : Cnd.errL 0 (Cnd.aheadK (fun i => Cnd.ahead (c.kids i) (d + 1)) j (l ++ [(c, d)])) = 0 := by
        by_cases g : Cnd.errL 0 (Cnd.aheadK (fun i => Cnd.ahead (c.kids i) (d + 1)) j (l ++ [(c, d)])) = 0
        · exact g
        · rw [Cnd.aheadK_more (fun i l => Cnd.ahead_pre _ _ _) _ j c.kn (by omega) g] at he; exact absurd he g
      have h2 := Cnd.ahead_more (c := c.kids j) (hI.each j (by omega)).ne (d + 1) (Cnd.errL_le h0)
      rw [Cnd.aheadK]; omega
  have hn2 := hn c.kn (Nat.le_refl _)
  have hn3 := Cnd.errL_le he
  cases c with
  | zero => exact absurd rfl hne
  | mk => exact ⟨⟨hb, Nat.le_trans hn2 hn3⟩, hk⟩
theorem Cnd.good_of {w : World} {c : Cnd} (hI : c.In w) (h : c.err = 0) : c.Good := Cnd.good_ahead w c 0 [] hI h
/-- A right photo: what its walk needs. -/
structure Ph.Right (p : Ph) : Prop where
  fits : p.Fits
  shape : (1 ≤ p.W ∧ p.W ≤ 100000) ∧ (1 ≤ p.H ∧ p.H ≤ 100000) ∧ (1 ≤ p.turn ∧ p.turn ≤ 8)
  time : (-1 ≤ p.mom ∧ p.mom ≤ 6311433599) ∧ (-840 ≤ p.zone ∧ p.zone ≤ 840)
  cap : p.cap.size ≤ 200
theorem Ph.right_of {p : Ph} (hF : p.Fits) (h : p.err = 0) : p.Right := by
  unfold Ph.err at h
  split at h
  · split at h
    · split at h
      · rename_i hw
        unfold Fd.whenB at hw
        have hw := of_decide_eq_true hw
        split at h
        · omega
        · split at h
          · omega
          · split at h
            · rename_i hs
              unfold Fd.shapeB at hs
              have hs := of_decide_eq_true hs
              unfold Ph.words at h
              split at h
              · omega
              · split at h
                · split at h
                  · omega
                  · exact ⟨hF, ⟨hs.1, hs.2.1, hs.2.2.1⟩, ⟨hw.1, hw.2.1⟩, by omega⟩
                · rename_i hne; exact absurd h hne
            · omega
      · omega
    · omega
  · omega
end Go.Proofs.YtngbaljmlbdfkaaGreatDoor
namespace Go.Proofs.YtngbaljmlbdfkaaGreatDoor
open Go.RowKit Go.Sort Go.Shelf
set_option linter.unusedVariables false
-- hasS_is: the theorem; f.has[string]: the function; .string: the element's value; ByteArray: the element's type; x.toList == ByteArray.toList: the question at y; : x's value
set_option maxHeartbeats 1000000 in
theorem hasS_is (a : Option Addr) (n ca : Nat) (f : Nat → ByteArray) (x : ByteArray) (w : World) (hr : Row w a n (fun i => .string (f i))) (hn : n ≤ 9223372036854775807) :
    Calls Tryz.prog 87 #[.slice a n ca, .string x] w fun e w' => e = .returned (.bool (Fd.hit (fun i => x.toList == ByteArray.toList (f i)) n)) ∧ Below w.heap.size w w' := by
  have HR := Lib.hid hr
  have HY := Lib.hid (fun j (hj : j < n) (h : (x.toList == ByteArray.toList (f j)) = true) => Hd.hit_yes (f := fun i => x.toList == ByteArray.toList (f i)) hj h)
  have HN := Lib.hid (fun (h : ∀ j, j < n → (x.toList == ByteArray.toList (f j)) = false) => Hd.hit_no (f := fun i => x.toList == ByteArray.toList (f i)) h)
  clear hr
  generalize Fd.hit (fun i => x.toList == ByteArray.toList (f i)) n = q at *
  go_enter Tryz.func87, Tryz.ntmps87
  go_wp2_with fail
  go_loopg [9] n (fun gk i wr => ∃ j : Nat, j ≤ n ∧ gk = n - j ∧ i = .int .i64 j ∧ (∀ k, k < j → (x.toList == ByteArray.toList (f k)) = false) ∧ Below w.heap.size w wr)
  case atStart => exact ⟨0, by omega, rfl, rfl, fun k hk => by omega, Below.refl _ _⟩
  case round =>
    obtain ⟨j, hj, rfl, rfl, hall, hB⟩ := hrel
    have HALL := Lib.hid hall; clear hall
    by_cases hlt : j < n
    · obtain ⟨b, off, rfl, hb, hcell⟩ := (HR.out.keep hB) (by omega)
      have c0 : wr.cell? ⟨b, off + j, none⟩ = some (.string (f j)) := hcell j hlt
      clear hcell
      obtain ⟨y, hy⟩ : ∃ y, f j = y := ⟨_, rfl⟩
      rw [hy] at c0
      have HE := Lib.hid hy; clear hy
      cases he : (x.toList == ByteArray.toList y)
      · have HF := Lib.hid (show (x.toList == ByteArray.toList (f j)) = false by rw [HE.out]; exact he)
        go_wp2_with fail
        go_roundg (n - (j + 1))
        case rel => exact ⟨j + 1, by omega, rfl, by go_num, fun k hk => by (by_cases e : k = j); (subst e; exact HF.out); exact HALL.out k (by omega), (by first | exact hB | exact below_allocs hB _)⟩
        case measure => omega
      · have HF := Lib.hid (HY.out j hlt (by rw [HE.out]; exact he))
        go_wp2_with fail
        go_ret
        exact ⟨ret_bool HF.out.symm, (by first | exact hB | exact below_allocs hB _)⟩
    · obtain rfl : j = n := by omega
      go_wp2_with fail
      go_ret
      exact ⟨ret_bool (HN.out HALL.out).symm, hB⟩
-- hasI_is: the theorem; f.has[int]: the function; .int .i64: the element's value; Int: the element's type; x ==: the question at y; : x's value
set_option maxHeartbeats 1000000 in
theorem hasI_is (a : Option Addr) (n ca : Nat) (f : Nat → Int) (x : Int) (w : World) (hr : Row w a n (fun i => .int .i64 (f i))) (hn : n ≤ 9223372036854775807) :
    Calls Tryz.prog 92 #[.slice a n ca, .int .i64 x] w fun e w' => e = .returned (.bool (Fd.hit (fun i => x == (f i)) n)) ∧ Below w.heap.size w w' := by
  have HR := Lib.hid hr
  have HY := Lib.hid (fun j (hj : j < n) (h : (x == (f j)) = true) => Hd.hit_yes (f := fun i => x == (f i)) hj h)
  have HN := Lib.hid (fun (h : ∀ j, j < n → (x == (f j)) = false) => Hd.hit_no (f := fun i => x == (f i)) h)
  clear hr
  generalize Fd.hit (fun i => x == (f i)) n = q at *
  go_enter Tryz.func92, Tryz.ntmps92
  go_wp2_with fail
  go_loopg [9] n (fun gk i wr => ∃ j : Nat, j ≤ n ∧ gk = n - j ∧ i = .int .i64 j ∧ (∀ k, k < j → (x == (f k)) = false) ∧ Below w.heap.size w wr)
  case atStart => exact ⟨0, by omega, rfl, rfl, fun k hk => by omega, Below.refl _ _⟩
  case round =>
    obtain ⟨j, hj, rfl, rfl, hall, hB⟩ := hrel
    have HALL := Lib.hid hall; clear hall
    by_cases hlt : j < n
    · obtain ⟨b, off, rfl, hb, hcell⟩ := (HR.out.keep hB) (by omega)
      have c0 : wr.cell? ⟨b, off + j, none⟩ = some (.int .i64 (f j)) := hcell j hlt
      clear hcell
      obtain ⟨y, hy⟩ : ∃ y, f j = y := ⟨_, rfl⟩
      rw [hy] at c0
      have HE := Lib.hid hy; clear hy
      cases he : (x == y)
      · have HF := Lib.hid (show (x == (f j)) = false by rw [HE.out]; exact he)
        go_wp2_with fail
        go_roundg (n - (j + 1))
        case rel => exact ⟨j + 1, by omega, rfl, by go_num, fun k hk => by (by_cases e : k = j); (subst e; exact HF.out); exact HALL.out k (by omega), (by first | exact hB | exact below_allocs hB _)⟩
        case measure => omega
      · have HF := Lib.hid (HY.out j hlt (by rw [HE.out]; exact he))
        go_wp2_with fail
        go_ret
        exact ⟨ret_bool HF.out.symm, (by first | exact hB | exact below_allocs hB _)⟩
    · obtain rfl : j = n := by omega
      go_wp2_with fail
      go_ret
      exact ⟨ret_bool (HN.out HALL.out).symm, hB⟩
-- hdIndexS: the theorem; slices.Index[[]string,string]: slices.Index; .string: the element's value; ByteArray: the element's type; x.toList == ByteArray.toList: the question at y; hdContS: slices.Contains' theorem; slices.Contains[[]string,string]: slices.Contains
set_option maxHeartbeats 1000000 in
theorem hdIndexS (a : Option Addr) (n ca : Nat) (f : Nat → ByteArray) (x : ByteArray) (w : World) (hr : Row w a n (fun i => .string (f i))) (hn : n ≤ 9223372036854775807) :
    Calls Tryz.prog 145 #[.slice a n ca, .string x] w fun e w' => (∃ r : Int, e = .returned (.int .i64 r) ∧ ((Fd.hit (fun i => x.toList == ByteArray.toList (f i)) n = true ∧ 0 ≤ r) ∨ (Fd.hit (fun i => x.toList == ByteArray.toList (f i)) n = false ∧ r = -1))) ∧ w = w' := by
  have HR := Lib.hid hr; clear hr
  go_enter Tryz.func145, Tryz.ntmps145
  go_wp2_with fail
  go_loopg [8] n (fun gk i wr => ∃ j : Nat, j ≤ n ∧ gk = n - j ∧ i = .int .i64 j ∧ (∀ k, k < j → (x.toList == ByteArray.toList (f k)) = false) ∧ w = wr)
  case atStart => exact ⟨0, by omega, rfl, rfl, fun k hk => by omega, rfl⟩
  case round =>
    obtain ⟨j, hj, rfl, rfl, hall, rfl⟩ := hrel
    have HALL := Lib.hid hall; clear hall
    by_cases hlt : j < n
    · obtain ⟨b, off, rfl, hb, hcell⟩ := HR.out (by omega)
      have c0 : w.cell? ⟨b, off + j, none⟩ = some (.string (f j)) := hcell j hlt
      clear hcell
      obtain ⟨y, hy⟩ : ∃ y, f j = y := ⟨_, rfl⟩
      rw [hy] at c0
      have HE := Lib.hid hy; clear hy
      cases he : (x.toList == ByteArray.toList y)
      · have HF := Lib.hid (show (x.toList == ByteArray.toList (f j)) = false by rw [HE.out]; exact he)
        go_wp2_with fail
        go_roundg (n - (j + 1))
        case rel => exact ⟨j + 1, by omega, rfl, by go_num, fun k hk => by (by_cases e : k = j); (subst e; exact HF.out); exact HALL.out k (by omega), rfl⟩
        case measure => omega
      · have HF := Lib.hid (Hd.hit_yes (f := fun i => x.toList == ByteArray.toList (f i)) hlt (by simp only [HE.out]; exact he))
        go_wp2_with fail
        go_ret
        exact ⟨⟨j, rfl, .inl ⟨HF.out, by omega⟩⟩, rfl⟩
    · obtain rfl : j = n := by omega
      go_wp2_with fail
      go_ret
      exact ⟨⟨-1, rfl, .inr ⟨Hd.hit_no HALL.out, rfl⟩⟩, rfl⟩
set_option maxHeartbeats 1000000 in
theorem hdContS (a : Option Addr) (n ca : Nat) (f : Nat → ByteArray) (x : ByteArray) (w : World) (hr : Row w a n (fun i => .string (f i))) (hn : n ≤ 9223372036854775807) :
    Calls Tryz.prog 112 #[.slice a n ca, .string x] w fun e w' => e = .returned (.bool (Fd.hit (fun i => x.toList == ByteArray.toList (f i)) n)) ∧ w = w' := by
  have HI := Lib.hid (hdIndexS a n ca f x w hr hn)
  clear hr
  generalize Fd.hit (fun i => x.toList == ByteArray.toList (f i)) n = q at *
  go_enter Tryz.func112, Tryz.ntmps112
  go_wp2_with (go_at_call 145; refine HI.out.mono ?_; rintro e w' ⟨⟨r, rfl, hr⟩, rfl⟩; have HR := Lib.hid hr; clear hr)
  go_ret
  refine ⟨ret_bool ?_, rfl⟩
  rcases HR.out with ⟨h, h0⟩ | ⟨h, rfl⟩
  · rw [h]; simpa using h0
  · rw [h]; rfl
-- hdIndexI: the theorem; slices.Index[[]int,int]: slices.Index; .int .i64: the element's value; Int: the element's type; x ==: the question at y; hdContI: slices.Contains' theorem; slices.Contains[[]int,int]: slices.Contains
set_option maxHeartbeats 1000000 in
theorem hdIndexI (a : Option Addr) (n ca : Nat) (f : Nat → Int) (x : Int) (w : World) (hr : Row w a n (fun i => .int .i64 (f i))) (hn : n ≤ 9223372036854775807) :
    Calls Tryz.prog 146 #[.slice a n ca, .int .i64 x] w fun e w' => (∃ r : Int, e = .returned (.int .i64 r) ∧ ((Fd.hit (fun i => x == (f i)) n = true ∧ 0 ≤ r) ∨ (Fd.hit (fun i => x == (f i)) n = false ∧ r = -1))) ∧ w = w' := by
  have HR := Lib.hid hr; clear hr
  go_enter Tryz.func146, Tryz.ntmps146
  go_wp2_with fail
  go_loopg [8] n (fun gk i wr => ∃ j : Nat, j ≤ n ∧ gk = n - j ∧ i = .int .i64 j ∧ (∀ k, k < j → (x == (f k)) = false) ∧ w = wr)
  case atStart => exact ⟨0, by omega, rfl, rfl, fun k hk => by omega, rfl⟩
  case round =>
    obtain ⟨j, hj, rfl, rfl, hall, rfl⟩ := hrel
    have HALL := Lib.hid hall; clear hall
    by_cases hlt : j < n
    · obtain ⟨b, off, rfl, hb, hcell⟩ := HR.out (by omega)
      have c0 : w.cell? ⟨b, off + j, none⟩ = some (.int .i64 (f j)) := hcell j hlt
      clear hcell
      obtain ⟨y, hy⟩ : ∃ y, f j = y := ⟨_, rfl⟩
      rw [hy] at c0
      have HE := Lib.hid hy; clear hy
      cases he : (x == y)
      · have HF := Lib.hid (show (x == (f j)) = false by rw [HE.out]; exact he)
        go_wp2_with fail
        go_roundg (n - (j + 1))
        case rel => exact ⟨j + 1, by omega, rfl, by go_num, fun k hk => by (by_cases e : k = j); (subst e; exact HF.out); exact HALL.out k (by omega), rfl⟩
        case measure => omega
      · have HF := Lib.hid (Hd.hit_yes (f := fun i => x == (f i)) hlt (by simp only [HE.out]; exact he))
        go_wp2_with fail
        go_ret
        exact ⟨⟨j, rfl, .inl ⟨HF.out, by omega⟩⟩, rfl⟩
    · obtain rfl : j = n := by omega
      go_wp2_with fail
      go_ret
      exact ⟨⟨-1, rfl, .inr ⟨Hd.hit_no HALL.out, rfl⟩⟩, rfl⟩
set_option maxHeartbeats 1000000 in
theorem hdContI (a : Option Addr) (n ca : Nat) (f : Nat → Int) (x : Int) (w : World) (hr : Row w a n (fun i => .int .i64 (f i))) (hn : n ≤ 9223372036854775807) :
    Calls Tryz.prog 114 #[.slice a n ca, .int .i64 x] w fun e w' => e = .returned (.bool (Fd.hit (fun i => x == (f i)) n)) ∧ w = w' := by
  have HI := Lib.hid (hdIndexI a n ca f x w hr hn)
  clear hr
  generalize Fd.hit (fun i => x == (f i)) n = q at *
  go_enter Tryz.func114, Tryz.ntmps114
  go_wp2_with (go_at_call 146; refine HI.out.mono ?_; rintro e w' ⟨⟨r, rfl, hr⟩, rfl⟩; have HR := Lib.hid hr; clear hr)
  go_ret
  refine ⟨ret_bool ?_, rfl⟩
  rcases HR.out with ⟨h, h0⟩ | ⟨h, rfl⟩
  · rw [h]; simpa using h0
  · rw [h]; rfl
set_option maxHeartbeats 1000000 in
theorem higher_is (p : Ph) (hp : p.Right) (w : World) : Calls Tryz.prog 96 #[.agg #[.int .i64 p.id, .string p.file, .int .i64 p.mom, .int .i64 p.zone, .slice p.wa p.wn p.wc, .int .i64 p.W, .int .i64 p.H, .int .i64 p.turn, .int .i64 p.stars, .slice p.ta p.tn p.tc, .string p.cap, .slice p.pa p.pn p.pc, .bool p.hid]] w fun e w' => e = .returned (.int .i64 (Hd.tall p)) ∧ Below w.heap.size w w' := by
  obtain ⟨⟨a1, a2⟩, ⟨b1, b2⟩, c1, c2⟩ := hp.shape
  -- a photo's box: W1, its 13 cells
  obtain ⟨W1, hW1, hP, hz1, hB1⟩ := box w #[.int .i64 p.id, .string p.file, .int .i64 p.mom, .int .i64 p.zone, .slice p.wa p.wn p.wc, .int .i64 p.W, .int .i64 p.H, .int .i64 p.turn, .int .i64 p.stars, .slice p.ta p.tn p.tc, .string p.cap, .slice p.pa p.pn p.pc, .bool p.hid] 49
  have HW1 := Lib.hid hW1
  clear hW1 hz1
  obtain ⟨q0, q1, q2, q3, q4, q5, q6, q7, q8, q9, q10, q11, q12⟩ := hP.photo
  unfold Hd.tall
  by_cases h : 4 < p.turn
  · rw [if_pos h]
    have h5 : 5 ≤ p.turn := by omega
    have e1 : IntKind.i64.wrap (p.W - p.H) = p.W - p.H := by rw [IntKind.wrap_i64]; omega
    go_enter Tryz.func96, Tryz.ntmps96
    go_wp2_with fail
    rw [HW1.out]
    go_wp2_with fail
    go_ret
    exact ⟨rfl, hB1⟩
  · rw [if_neg h]
    have h5 : ¬ 5 ≤ p.turn := by omega
    have e1 : IntKind.i64.wrap (p.H - p.W) = p.H - p.W := by rw [IntKind.wrap_i64]; omega
    go_enter Tryz.func96, Tryz.ntmps96
    go_wp2_with fail
    rw [HW1.out]
    go_wp2_with fail
    go_ret
    exact ⟨rfl, hB1⟩
set_option maxRecDepth 100000 in
set_option maxHeartbeats 2000000 in
theorem inBox_is (a o : Int) (x : Option Addr) (n ca : Nat) (lat lon : Nat → Int) (w : World) (hr : Row2 w x n (fun i => .int .i64 (lat i)) (fun i => .int .i64 (lon i))) (hn : n = 2) :
    Calls Tryz.prog 105 #[.agg #[.int .i64 a, .int .i64 o], .slice x n ca] w fun e w' => e = .returned (.bool (Hd.box a o (lat 0) (lon 0) (lat 1) (lon 1))) ∧ Below w.heap.size w w' := by
  subst hn
  obtain ⟨W1, hW1, hP, hz1, hB1⟩ := box w #[.int .i64 a, .int .i64 o] 112
  have HW1 := Lib.hid hW1
  obtain ⟨b, off, rfl, hb, hc⟩ := (hr.keep hB1) (by omega)
  have x0 := (hc 0 (by omega)).1; have x1 := (hc 0 (by omega)).2; have x2 := (hc 1 (by omega)).1; have x3 := (hc 1 (by omega)).2
  simp only [Nat.zero_mul, Nat.one_mul, Nat.add_zero] at x0 x1 x2 x3
  generalize lat 0 = a0 at *; generalize lon 0 = o0 at *; generalize lat 1 = a1 at *; generalize lon 1 = o1 at *
  obtain ⟨p0, p1⟩ := hP.two
  clear hW1 hz1 hr hc
  have k0 := cell_regrown x0; have k1 := cell_regrown x1; have k2 := cell_regrown x2; have k3 := cell_regrown x3; have m0 := cell_regrown p0; have m1 := cell_regrown p1
  unfold Hd.box
  cases h1 : decide (a0 ≤ a ∧ a ≤ a1)
  · rw [if_neg (of_decide_eq_false h1)]
    have HO := Lib.hid (fun dd os => Calls.regrown_of ((outsideF_is a a0 a1 false h1 (grow (redrawn W1 dd) os)).mono fun e w' h => ⟨h.1, h.2 ▸ Below.refl _ _⟩))
    clear h1
    go_enter Tryz.func105, Tryz.ntmps105
    go_wp2_with fail
    rw [HW1.out]
    refine wp_region_quiet_below (by kernel_rfl) (by kernel_rfl) ?_
    repeat (go_big_quiet_step ((go_at_call 21; with_reducible exact HO.out _ _)))
    refine wpQuiet_nil ?_
    intro _ hw'
    obtain ⟨⟨dq, osq⟩, hw''⟩ := hw'
    subst hw''
    have hBy3 := below_regrown W1 dq osq
    generalize grow (redrawn W1 dq) osq = y3 at *
    clear dq osq
    go_wp2_with fail
    go_ret
    exact ⟨rfl, below_up hB1 hBy3⟩
  · rw [if_pos (of_decide_eq_true h1)]
    have HO := Lib.hid (fun dd os => Calls.regrown_of ((outsideF_is a a0 a1 true h1 (grow (redrawn W1 dd) os)).mono fun e w' h => ⟨h.1, h.2 ▸ Below.refl _ _⟩))
    clear h1
    by_cases h2 : o0 ≤ o1
    · rw [if_pos h2]
      have HP := Lib.hid (fun V => outsideF_is o o0 o1 (decide (o0 ≤ o ∧ o ≤ o1)) rfl V)
      go_enter Tryz.func105, Tryz.ntmps105
      go_wp2_with fail
      rw [HW1.out]
      refine wp_region_quiet_below (by kernel_rfl) (by kernel_rfl) ?_
      repeat (go_big_quiet_step ((go_at_call 21; with_reducible exact HO.out _ _)))
      refine wpQuiet_nil ?_
      intro _ hw'
      obtain ⟨⟨dq, osq⟩, hw''⟩ := hw'
      subst hw''
      have hBy3 := below_regrown W1 dq osq
      generalize grow (redrawn W1 dq) osq = y3 at *
      clear dq osq
      have hP := hP.keep hBy3
      have x0' := (hBy3.cell (p := ⟨b, off, none⟩) hb).trans x0; have x1' := (hBy3.cell (p := ⟨b, off + 1, none⟩) hb).trans x1; have x2' := (hBy3.cell (p := ⟨b, off + 2, none⟩) hb).trans x2; have x3' := (hBy3.cell (p := ⟨b, off + 2 + 1, none⟩) hb).trans x3
      obtain ⟨p0', p1'⟩ := hP.two
      have hb' := Nat.lt_of_lt_of_le hb hBy3.size
      clear k0 k1 k2 k3 m0 m1 x0 x1 x2 x3 p0 p1
      have k0 := cell_regrown x0'; have k1 := cell_regrown x1'; have k2 := cell_regrown x2'; have k3 := cell_regrown x3'
      go_wp2_with fail
      refine wp_region_quiet_below (by kernel_rfl) (by kernel_rfl) ?_
      repeat (go_big_quiet_step (fail))
      refine wpQuiet_nil ?_
      intro _ hw'
      obtain ⟨⟨dq, osq⟩, hw''⟩ := hw'
      subst hw''
      have hBy4 := below_regrown y3 dq osq
      generalize grow (redrawn y3 dq) osq = y4 at *
      clear dq osq
      obtain ⟨p0', p1'⟩ := (hP.keep hBy4).two
      clear k0 k1 k2 k3
      go_wp2_with (go_at_call 21; (with_reducible refine (HP.out _).mono ?_); rintro e w7 ⟨rfl, rfl⟩)
      go_ret
      exact ⟨ret_bool (by simp), below_up hB1 (below_up hBy3 hBy4)⟩
    · rw [if_neg h2]
      have h2' : decide (o0 ≤ o1) = false := by simpa using h2
      go_enter Tryz.func105, Tryz.ntmps105
      go_wp2_with fail
      rw [HW1.out]
      refine wp_region_quiet_below (by kernel_rfl) (by kernel_rfl) ?_
      repeat (go_big_quiet_step ((go_at_call 21; with_reducible exact HO.out _ _)))
      refine wpQuiet_nil ?_
      intro _ hw'
      obtain ⟨⟨dq, osq⟩, hw''⟩ := hw'
      subst hw''
      have hBy3 := below_regrown W1 dq osq
      generalize grow (redrawn W1 dq) osq = y3 at *
      clear dq osq
      have hP := hP.keep hBy3
      have x0' := (hBy3.cell (p := ⟨b, off, none⟩) hb).trans x0; have x1' := (hBy3.cell (p := ⟨b, off + 1, none⟩) hb).trans x1; have x2' := (hBy3.cell (p := ⟨b, off + 2, none⟩) hb).trans x2; have x3' := (hBy3.cell (p := ⟨b, off + 2 + 1, none⟩) hb).trans x3
      obtain ⟨p0', p1'⟩ := hP.two
      have hb' := Nat.lt_of_lt_of_le hb hBy3.size
      clear k0 k1 k2 k3 m0 m1 x0 x1 x2 x3 p0 p1
      have k0 := cell_regrown x0'; have k1 := cell_regrown x1'; have k2 := cell_regrown x2'; have k3 := cell_regrown x3'
      go_wp2_with fail
      refine wp_region_quiet_below (by kernel_rfl) (by kernel_rfl) ?_
      repeat (go_big_quiet_step (fail))
      refine wpQuiet_nil ?_
      intro _ hw'
      obtain ⟨⟨dq, osq⟩, hw''⟩ := hw'
      subst hw''
      have hBy4 := below_regrown y3 dq osq
      generalize grow (redrawn y3 dq) osq = y4 at *
      clear dq osq
      obtain ⟨p0', p1'⟩ := (hP.keep hBy4).two
      clear k0 k1 k2 k3
      by_cases h3 : o0 ≤ o
      · go_wp2_with fail
        go_ret
        exact ⟨ret_bool (by simp <;> omega), below_up hB1 (below_up hBy3 hBy4)⟩
      · go_wp2_with fail
        go_ret
        exact ⟨ret_bool (by simp <;> omega), below_up hB1 (below_up hBy3 hBy4)⟩
end Go.Proofs.YtngbaljmlbdfkaaGreatDoor
namespace Go.Proofs.YtngbaljmlbdfkaaGreatDoor
open Go.RowKit Go.Sort Go.Shelf
set_option linter.unusedVariables false
/-- The n bytes from the begin of block b: those below j made small. -/
structure LowAt (w0 w : World) (s : ByteArray) (b j : Nat) : Prop where
  cell : ∀ k, k < s.size → w.cell? ⟨b, k, none⟩ = some (.int .u8 ((if k < j then Hd.lowC (s.data.toList.getD k 0) else s.data.toList.getD k 0).toNat : Int))
  free : ∀ k, k < s.size → w.frozen? ⟨b, k, none⟩ = false
  bel : Below b w0 w
theorem LowAt.start (w : World) (e : TypeId) (s : ByteArray) (cap : Nat) (W : World) (hW : w.drew.alloc (.cells (bytesRow s cap) e ((bytesRow s cap).size, (bytesRow s cap).size + 1)) = W) : LowAt w W s w.heap.size 0 := by
  subst hW
  refine ⟨fun k hk => ?_, fun k hk => ?_, ?_⟩
  · rw [if_neg (by omega)]
    refine (World.cell?_alloc_mark w.drew _ _ _ k).trans ?_
    rw [bytesRow_at s cap k hk]
    simp [List.getD, Array.getElem?_toList, Array.getElem?_eq_getElem (show k < s.data.size from hk)]
  · refine (World.frozen?_alloc_mark w.drew _ _ _ _ k).trans ?_
    have : k < (bytesRow s cap).size := by
      have hk' : k < s.data.size := hk
      unfold bytesRow
      simp
      omega
    simp
    omega
  · exact below_allocs (Below.refl _ w).drew _
theorem LowAt.set {w0 w : World} {s : ByteArray} {b j : Nat} (h : LowAt w0 w s b j) (hj : j < s.size) (v : Int) (hv : v = ((Hd.lowC (s.data.toList.getD j 0)).toNat : Int)) : LowAt w0 (w.setCell ⟨b, j, none⟩ (.int .u8 v)) s b (j + 1) := by
  subst hv
  refine ⟨fun k hk => ?_, fun k hk => ?_, h.bel.setCell (by exact Nat.le_refl _) _⟩
  · by_cases e : k = j
    · subst e
      rw [World.cell?_setCell_same _ _ _ (h.cell k hk), if_pos (by omega)]
    · rw [World.cell?_setCell_other _ _ _ _ (by simp <;> omega), h.cell k hk]
      by_cases g : k < j
      · rw [if_pos g, if_pos (by omega)]
      · rw [if_neg g, if_neg (by omega)]
  · rw [World.frozen?_setCell]; exact h.free k hk
theorem LowAt.skip {w0 w : World} {s : ByteArray} {b j : Nat} (h : LowAt w0 w s b j) (hv : Hd.lowC (s.data.toList.getD j 0) = s.data.toList.getD j 0) : LowAt w0 w s b (j + 1) := by
  refine ⟨fun k hk => ?_, h.free, h.bel⟩
  rw [h.cell k hk]
  by_cases e : k = j
  · subst e; rw [if_neg (by omega), if_pos (by omega), hv]
  · by_cases g : k < j
    · rw [if_pos g, if_pos (by omega)]
    · rw [if_neg g, if_neg (by omega)]
theorem lowC_yes {c : UInt8} (h1 : (65 : Int) ≤ (c.toNat : Int)) (h2 : (c.toNat : Int) ≤ 90) : ((Hd.lowC c).toNat : Int) = (c.toNat : Int) + 32 := by
  unfold Hd.lowC
  have h1' : 65 ≤ c.toNat := by omega
  have h2' : c.toNat ≤ 90 := by omega
  rw [if_pos ⟨by rw [UInt8.le_iff_toNat_le]; exact h1', by rw [UInt8.le_iff_toNat_le]; exact h2'⟩]
  rw [UInt8.toNat_add]
  have : (32 : UInt8).toNat = 32 := rfl
  rw [this]; omega
theorem lowC_no {c : UInt8} (h : ¬ ((65 : Int) ≤ (c.toNat : Int) ∧ (c.toNat : Int) ≤ 90)) : Hd.lowC c = c := by
  unfold Hd.lowC
  rw [if_neg fun g => h ⟨by have := UInt8.le_iff_toNat_le.1 g.1; have e : (65 : UInt8).toNat = 65 := rfl; omega, by have := UInt8.le_iff_toNat_le.1 g.2; have e : (90 : UInt8).toNat = 90 := rfl; omega⟩]
theorem low_bytes (s : ByteArray) : ∀ j (hj : j < (s.data.toList.map Hd.lowC).length), (s.data.toList.map Hd.lowC)[j] = Hd.lowC (s.data.toList.getD j 0) := by
  intro j hj
  have hj' : j < s.data.toList.length := by rw [List.length_map] at hj; exact hj
  rw [List.getElem_map]
  simp [List.getD, List.getElem?_eq_getElem hj']
-- lower_is: the theorem; f.lower: the function
set_option maxRecDepth 100000 in
set_option maxHeartbeats 4000000 in
theorem lower_is (s : ByteArray) (hs : s.size ≤ 200) (w : World) : Calls Tryz.prog 88 #[.string s] w fun e w' => e = .returned (.string (Hd.low s)) ∧ Below w.heap.size w w' := by
  obtain ⟨cap, hcap⟩ : ∃ cap, grownCap w s.size 0 5 = cap := ⟨_, rfl⟩
  have hcv := run_bytes_of_string (P := Tryz.prog) w 9 143 5 s Tryz.underlying9 Tryz.underlying143 Tryz.underlying5
  rw [hcap] at hcv
  obtain ⟨W1, hW1⟩ : ∃ W1, w.drew.alloc (.cells (bytesRow s cap) 5 ((bytesRow s cap).size, (bytesRow s cap).size + 1)) = W1 := ⟨_, rfl⟩
  have HL0 := Lib.hid (LowAt.start w 5 s cap W1 hW1)
  rw [hW1] at hcv
  have hlen : (s.data.toList.map Hd.lowC).length = s.size := by rw [List.length_map]; rfl
  have HBK := Lib.hid (fun (W : World) (c : Nat) (h : LowAt w W s w.heap.size s.size) => run_convert_bytes_back (P := Tryz.prog) W 143 9 5 ⟨w.heap.size, 0, none⟩ c (s.data.toList.map Hd.lowC) Tryz.underlying143 Tryz.underlying5 Tryz.underlying9
    (fun j hj => by
      have := h.cell j (by omega)
      rw [if_pos (by omega)] at this
      rw [low_bytes s j hj, ← this]
      congr 1
      simp [Addr.add] <;> omega))
  rw [hlen] at HBK
  have HW1 := Lib.hid hW1
  clear hW1 hcap hlen
  go_enter Tryz.func88, Tryz.ntmps88
  go_wp2_with fail
  go_loopg [10] s.size (fun gk i wr => ∃ j : Nat, j ≤ s.size ∧ gk = s.size - j ∧ i = .int .i64 j ∧ LowAt w wr s w.heap.size j)
  case atStart => exact ⟨0, by omega, rfl, rfl, HL0.out⟩
  case round =>
    obtain ⟨j, hj, rfl, rfl, hL⟩ := hrel
    have HL := Lib.hid hL
    by_cases hlt : j < s.size
    · have c0 := hL.cell j hlt
      rw [if_neg (by omega)] at c0
      have f0 := hL.free j hlt
      clear hL
      obtain ⟨u, hu⟩ : ∃ u, s.data.toList.getD j 0 = u := ⟨_, rfl⟩
      rw [hu] at c0
      have HU := Lib.hid hu; clear hu
      obtain ⟨c, hc⟩ : ∃ c : Int, (u.toNat : Int) = c := ⟨_, rfl⟩
      have hc1 : 0 ≤ c ∧ c < 256 := by have := u.toNat_lt; omega
      rw [hc] at c0
      have HCC := Lib.hid hc; clear hc
      by_cases h1 : 65 ≤ c
      · by_cases h2 : c ≤ 90
        · have e1 : IntKind.u8.wrap (c + 97) = c + 97 := by rw [IntKind.wrap_u8]; omega
          have e2 : IntKind.u8.wrap (c + 97 - 65) = c + 97 - 65 := by rw [IntKind.wrap_u8]; omega
          have e3 : IntKind.u8.wrap (c + 32) = c + 32 := by rw [IntKind.wrap_u8]; omega
          go_wp2_with fail
          go_roundg (s.size - (j + 1))
          case rel => exact ⟨j + 1, by omega, rfl, by go_num, HL.out.set hlt _ (by rw [HU.out, lowC_yes (by rw [HCC.out]; exact h1) (by rw [HCC.out]; exact h2), HCC.out] <;> omega)⟩
          case measure => omega
        · go_wp2_with fail
          go_roundg (s.size - (j + 1))
          case rel => exact ⟨j + 1, by omega, rfl, by go_num, HL.out.skip (by rw [HU.out]; exact lowC_no (by rw [HCC.out]; omega))⟩
          case measure => omega
      · go_wp2_with fail
        go_roundg (s.size - (j + 1))
        case rel => exact ⟨j + 1, by omega, rfl, by go_num, HL.out.skip (by rw [HU.out]; exact lowC_no (by rw [HCC.out]; omega))⟩
        case measure => omega
    · obtain rfl : j = s.size := by omega
      have hbk := HBK.out wr cap HL.out
      clear hL
      go_wp2_with fail
      go_ret
      exact ⟨rfl, HL.out.bel⟩
-- small_is: the theorem; R.small: the function
set_option maxRecDepth 100000 in
set_option maxHeartbeats 4000000 in
theorem small_is (s : ByteArray) (hs : s.size ≤ 200) (w : World) : Calls Tryz.prog 113 #[.string s] w fun e w' => e = .returned (.string (Hd.low s)) ∧ Below w.heap.size w w' := by
  obtain ⟨cap, hcap⟩ : ∃ cap, grownCap w s.size 0 5 = cap := ⟨_, rfl⟩
  have hcv := run_bytes_of_string (P := Tryz.prog) w 9 143 5 s Tryz.underlying9 Tryz.underlying143 Tryz.underlying5
  rw [hcap] at hcv
  obtain ⟨W1, hW1⟩ : ∃ W1, w.drew.alloc (.cells (bytesRow s cap) 5 ((bytesRow s cap).size, (bytesRow s cap).size + 1)) = W1 := ⟨_, rfl⟩
  have HL0 := Lib.hid (LowAt.start w 5 s cap W1 hW1)
  rw [hW1] at hcv
  have hlen : (s.data.toList.map Hd.lowC).length = s.size := by rw [List.length_map]; rfl
  have HBK := Lib.hid (fun (W : World) (c : Nat) (h : LowAt w W s w.heap.size s.size) => run_convert_bytes_back (P := Tryz.prog) W 143 9 5 ⟨w.heap.size, 0, none⟩ c (s.data.toList.map Hd.lowC) Tryz.underlying143 Tryz.underlying5 Tryz.underlying9
    (fun j hj => by
      have := h.cell j (by omega)
      rw [if_pos (by omega)] at this
      rw [low_bytes s j hj, ← this]
      congr 1
      simp [Addr.add] <;> omega))
  rw [hlen] at HBK
  have HW1 := Lib.hid hW1
  clear hW1 hcap hlen
  go_enter Tryz.func113, Tryz.ntmps113
  go_wp2_with fail
  go_loopg [10] s.size (fun gk i wr => ∃ j : Nat, j ≤ s.size ∧ gk = s.size - j ∧ i = .int .i64 j ∧ LowAt w wr s w.heap.size j)
  case atStart => exact ⟨0, by omega, rfl, rfl, HL0.out⟩
  case round =>
    obtain ⟨j, hj, rfl, rfl, hL⟩ := hrel
    have HL := Lib.hid hL
    by_cases hlt : j < s.size
    · have c0 := hL.cell j hlt
      rw [if_neg (by omega)] at c0
      have f0 := hL.free j hlt
      clear hL
      obtain ⟨u, hu⟩ : ∃ u, s.data.toList.getD j 0 = u := ⟨_, rfl⟩
      rw [hu] at c0
      have HU := Lib.hid hu; clear hu
      obtain ⟨c, hc⟩ : ∃ c : Int, (u.toNat : Int) = c := ⟨_, rfl⟩
      have hc1 : 0 ≤ c ∧ c < 256 := by have := u.toNat_lt; omega
      rw [hc] at c0
      have HCC := Lib.hid hc; clear hc
      by_cases h1 : 65 ≤ c
      · by_cases h2 : c ≤ 90
        · have e1 : IntKind.u8.wrap (c + 97) = c + 97 := by rw [IntKind.wrap_u8]; omega
          have e2 : IntKind.u8.wrap (c + 97 - 65) = c + 97 - 65 := by rw [IntKind.wrap_u8]; omega
          have e3 : IntKind.u8.wrap (c + 32) = c + 32 := by rw [IntKind.wrap_u8]; omega
          go_wp2_with fail
          go_roundg (s.size - (j + 1))
          case rel => exact ⟨j + 1, by omega, rfl, by go_num, HL.out.set hlt _ (by rw [HU.out, lowC_yes (by rw [HCC.out]; exact h1) (by rw [HCC.out]; exact h2), HCC.out] <;> omega)⟩
          case measure => omega
        · go_wp2_with fail
          go_roundg (s.size - (j + 1))
          case rel => exact ⟨j + 1, by omega, rfl, by go_num, HL.out.skip (by rw [HU.out]; exact lowC_no (by rw [HCC.out]; omega))⟩
          case measure => omega
      · go_wp2_with fail
        go_roundg (s.size - (j + 1))
        case rel => exact ⟨j + 1, by omega, rfl, by go_num, HL.out.skip (by rw [HU.out]; exact lowC_no (by rw [HCC.out]; omega))⟩
        case measure => omega
    · obtain rfl : j = s.size := by omega
      have hbk := HBK.out wr cap HL.out
      clear hL
      go_wp2_with fail
      go_ret
      exact ⟨rfl, HL.out.bel⟩
end Go.Proofs.YtngbaljmlbdfkaaGreatDoor

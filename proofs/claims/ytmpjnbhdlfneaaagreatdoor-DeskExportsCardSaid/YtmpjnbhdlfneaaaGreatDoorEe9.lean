/- Parts of the proof, no condition: FdLow, FdPh, ZoneMath, Zone, FdSmall. -/
import Derived.Test.YtmpjnbhdlfneaaaGreatDoorEe8
import Derived.Shelf.Abstract
import Derived.Test.YtmpjnbhdlfneaaaGreatDoorEe3
set_option maxRecDepth 100000
set_option maxHeartbeats 4000000
set_option linter.unusedVariables false
namespace Go.Proofs.YtmpjnbhdlfneaaaGreatDoor
open Go.RowKit Go.Sort Go.Shelf
theorem indexFuncB_any (g : Nat) (lb : Array Value) (p : Int → Bool) (eg : ∀ args w, (callFunc g args).run Tryz.prog w = .ok (.enter g args) w) (a : Option Addr) (len cap : Nat) (z : Nat → Int) (w : World) (hm : len ≤ 9223372036854775807) (hr : Row w a len (fun i => .int .u8 (z i)))
  (hc : ∀ i, i < len → Calls Tryz.prog g (#[.int .u8 (z i)] ++ lb) w fun e w' => e = .returned (.bool (p (z i))) ∧ w = w') :
  Calls Tryz.prog 134 #[.slice a len cap, .func (.func g) #[] lb] w fun e w' => (∃ r : Int, e = .returned (.int .i64 r) ∧ ((Ev.anyB p z len = true ∧ 0 ≤ r) ∨ (Ev.anyB p z len = false ∧ r = -1))) ∧ w = w' := by
 go_enter Tryz.func134, Tryz.ntmps134
 go_wp2_with fail
 go_loop [8] (fun i => ∃ k : Nat, k ≤ len ∧ i = .int .i64 k ∧ ∀ j, j < k → p (z j) = false) (fun i => (len - (intOf i).toNat))
 case atStart => exact ⟨0, by omega, rfl, fun j hj => by omega⟩
 case round =>
  obtain ⟨k, hk, rfl, hno⟩ := hrel
  have HNO := Lib.hid hno; clear hno
  have HC := Lib.hid hc; clear hc
  by_cases hlt : k < len
  ·obtain ⟨b, off, rfl, hb, hcell⟩ := hr (by omega)
   have hcx := hcell k hlt
   clear hcell
   cases hp : p (z k)
   ·have HP := Lib.hid hp; clear hp
    go_wp2_with (go_at_fn g; refine (HC.out k hlt).mono ?_; rintro e w' ⟨rfl, rfl⟩; rw [HP.out])
    go_round
    case rel => exact ⟨k + 1, by omega, by go_num, fun j hj => by (by_cases e : j = k); exact e ▸ HP.out; exact HNO.out j (by omega)⟩
    case measure => simp [intOf]; omega
   ·have HP := Lib.hid hp; clear hp
    go_wp2_with (go_at_fn g; refine (HC.out k hlt).mono ?_; rintro e w' ⟨rfl, rfl⟩; rw [HP.out])
    go_ret
    exact ⟨⟨k, rfl, .inl ⟨Ev.anyB_yes k hlt HP.out, by omega⟩⟩, rfl⟩
  ·obtain rfl : k = len := by omega
   go_wp2_with fail
   go_ret
   exact ⟨⟨-1, rfl, .inr ⟨Ev.anyB_no HNO.out, rfl⟩⟩, rfl⟩
theorem containsFuncB_any (g : Nat) (lb : Array Value) (p : Int → Bool) (eg : ∀ args w, (callFunc g args).run Tryz.prog w = .ok (.enter g args) w) (a : Option Addr) (len cap : Nat) (z : Nat → Int) (w : World) (hm : len ≤ 9223372036854775807) (hr : Row w a len (fun i => .int .u8 (z i)))
  (hc : ∀ i, i < len → Calls Tryz.prog g (#[.int .u8 (z i)] ++ lb) w fun e w' => e = .returned (.bool (p (z i))) ∧ w = w') :
  Calls Tryz.prog 113 #[.slice a len cap, .func (.func g) #[] lb] w fun e w' => e = .returned (.bool (Ev.anyB p z len)) ∧ w = w' := by
 have HI := Lib.hid (indexFuncB_any g lb p eg a len cap z w hm hr hc)
 clear hc eg hr
 go_enter Tryz.func113, Tryz.ntmps113
 go_wp2_with (go_at_call 134; refine HI.out.mono ?_; rintro e w' ⟨⟨r, rfl, hr⟩, rfl⟩; have HR := Lib.hid hr; clear hr)
 go_ret
 refine ⟨ret_bool ?_, rfl⟩
 rcases HR.out with ⟨h, h0⟩ | ⟨h, rfl⟩
 ·rw [h]; simpa using h0
 ·rw [h]; rfl
theorem low1_is (c : Int) (w : World) : Calls Tryz.prog 114 #[.int .u8 c] w fun e w' => e = .returned (.bool (decide (c < 32))) ∧ w = w' := by
 go_enter Tryz.func114, Tryz.ntmps114
 go_wp2_with fail
 go_ret
 exact ⟨rfl, rfl⟩
theorem low1_eg : ∀ args w, (callFunc 114 args).run Tryz.prog w = .ok (.enter 114 args) w := enters_of Tryz.func114 (by kernel_rfl) rfl
theorem byte_at (s : ByteArray) (i : Nat) (h : i < s.size) : s.data.toList.getD i 0 = s[i] := by
 have hl : i < s.data.toList.length := by simpa using h
 rw [List.getD_eq_getElem?_getD, List.getElem?_eq_getElem hl]; rfl
theorem low_any (s : ByteArray) : Ev.anyB (fun c => decide (c < 32)) (fun i => ((s.data.toList.getD i 0).toNat : Int)) s.size = !Fd.plainB s := by
 cases h : Fd.plainB s
 ·unfold Fd.plainB at h
  rw [decide_eq_false_iff_not] at h
  have : ∃ i, ∃ h : i < s.size, s[i].toNat < 32 := by
   apply Classical.byContradiction
   intro g
   exact h fun i hi => by
    apply Classical.byContradiction
    intro k; exact g ⟨i, hi, by omega⟩
  obtain ⟨i, hi, hc⟩ := this
  exact Ev.anyB_yes i hi (by rw [decide_eq_true_iff]; rw [byte_at s i hi]; omega)
 ·unfold Fd.plainB at h
  have h := of_decide_eq_true h
  exact Ev.anyB_no fun i hi => by rw [decide_eq_false_iff_not]; rw [byte_at s i hi]; have := h i hi; omega
theorem low_is (s : ByteArray) (hs : s.size ≤ 9223372036854775807) (b : Bool) (h : Fd.plainB s = b) (w : World) : Calls Tryz.prog 85 #[.string s] w fun e w' => e = .returned (.bool (!b)) ∧ Below w.heap.size w w' := by
 have hcv := Lib.run_convert_string_bytes (P := Tryz.prog) w 9 34 5 s (u := .string) Tryz.underlying9 Tryz.underlying34 Tryz.underlying5
 have HW : Hid (Below w.heap.size w (Lib.bytesWorld w 5 s)) := Lib.hid (bytesWorld_below w 5 s)
 have HC := Lib.hid (containsFuncB_any 114 #[] (fun c => decide (c < 32)) low1_eg (some ⟨w.heap.size, 0, none⟩) s.size (grownCap w s.size 0 5) (fun i => ((s.data.toList.getD i 0).toNat : Int)) (Lib.bytesWorld w 5 s) hs
  (fun _ => ⟨w.heap.size, 0, rfl, by rw [Lib.bytesWorld_size]; omega, fun i hi => by rw [Nat.zero_add]; exact Lib.bytesWorld_cell w 5 s i hi⟩) (fun i hi => low1_is _ _))
 rw [low_any, h] at HC
 clear h
 go_enter Tryz.func85, Tryz.ntmps85
 go_wp2_with (go_at_call 113; refine HC.out.mono ?_; rintro e w' ⟨rfl, rfl⟩)
 go_ret
 exact ⟨rfl, HW.out⟩
structure Ph where
 id : Int
 mom : Int
 zone : Int
 W : Int
 H : Int
 turn : Int
 stars : Int
 file : ByteArray
 cap : ByteArray
 wa : Option Addr
 wn : Nat
 wc : Nat
 lat : Nat → Int
 lon : Nat → Int
 ta : Option Addr
 tn : Nat
 tc : Nat
 tag : Nat → ByteArray
 pa : Option Addr
 pn : Nat
 pc : Nat
 who : Nat → Int
 hid : Bool
theorem bxP (w : World) (p : Ph) : ∃ W1, w.alloc (.cells #[.int .i64 p.id, .string p.file, .int .i64 p.mom, .int .i64 p.zone, .slice p.wa p.wn p.wc, .int .i64 p.W, .int .i64 p.H, .int .i64 p.turn, .int .i64 p.stars, .slice p.ta p.tn p.tc, .string p.cap, .slice p.pa p.pn p.pc, .bool p.hid] 85) = W1 ∧ Blk W1 w.heap.size #[.int .i64 p.id, .string p.file, .int .i64 p.mom, .int .i64 p.zone, .slice p.wa p.wn p.wc, .int .i64 p.W, .int .i64 p.H, .int .i64 p.turn, .int .i64 p.stars, .slice p.ta p.tn p.tc, .string p.cap, .slice p.pa p.pn p.pc, .bool p.hid] 85 ∧ W1.heap.size = w.heap.size + 1 ∧ Below w.heap.size w W1 := box w _ _
structure Ph.In (p : Ph) (w : World) : Prop where
 places : Row2 w p.wa p.wn (fun i => .int .i64 (p.lat i)) (fun i => .int .i64 (p.lon i))
 tags : Row w p.ta p.tn (fun i => .string (p.tag i))
 people : Row w p.pa p.pn (fun i => .int .i64 (p.who i))
structure Ph.Fits (p : Ph) : Prop where
 file : p.file.size ≤ 9223372036854775807
 cap : p.cap.size ≤ 9223372036854775807
 tag : ∀ i, i < p.tn → (p.tag i).size ≤ 9223372036854775807
 wn : p.wn ≤ 9223372036854775807
 tn : p.tn ≤ 9223372036854775807
 pn : p.pn ≤ 9223372036854775807
theorem Ph.In.keep {p : Ph} {w w' : World} (h : p.In w) (hb : Below w.heap.size w w') : p.In w' := ⟨h.places.keep hb, h.tags.keep hb, h.people.keep hb⟩
theorem Blk.photo {w : World} {b : Nat} {c0 c1 c2 c3 c4 c5 c6 c7 c8 c9 c10 c11 c12 : Value} {t : TypeId} (h : Blk w b #[c0, c1, c2, c3, c4, c5, c6, c7, c8, c9, c10, c11, c12] t) :
  w.cell? ⟨b, 0, none⟩ = some c0 ∧ w.cell? ⟨b, 1, none⟩ = some c1 ∧ w.cell? ⟨b, 2, none⟩ = some c2 ∧ w.cell? ⟨b, 3, none⟩ = some c3 ∧ w.cell? ⟨b, 4, none⟩ = some c4 ∧ w.cell? ⟨b, 5, none⟩ = some c5 ∧ w.cell? ⟨b, 6, none⟩ = some c6 ∧ w.cell? ⟨b, 7, none⟩ = some c7 ∧ w.cell? ⟨b, 8, none⟩ = some c8 ∧ w.cell? ⟨b, 9, none⟩ = some c9 ∧ w.cell? ⟨b, 10, none⟩ = some c10 ∧ w.cell? ⟨b, 11, none⟩ = some c11 ∧ w.cell? ⟨b, 12, none⟩ = some c12 := by
 simp only [h.cell]; exact ⟨rfl, rfl, rfl, rfl, rfl, rfl, rfl, rfl, rfl, rfl, rfl, rfl, rfl⟩
namespace Fd
def leS (a b : ByteArray) : Bool := Op.bytesLess a.toList b.toList || a.toList == b.toList
def whenB (m z : Int) : Bool := decide ((-1 ≤ m ∧ m ≤ 6311433599) ∧ (-840 ≤ z ∧ z ≤ 840) ∧ (0 ≤ m → 0 ≤ m + 60 * z ∧ m + 60 * z ≤ 6311433599))
def placeB (a o : Int) : Bool := decide ((-90000000 ≤ a ∧ a ≤ 90000000) ∧ (-180000000 ≤ o ∧ o ≤ 179999999))
def shapeB (W H t s : Int) : Bool := decide ((1 ≤ W ∧ W ≤ 100000) ∧ (1 ≤ H ∧ H ≤ 100000) ∧ (1 ≤ t ∧ t ≤ 8) ∧ (0 ≤ s ∧ s ≤ 5))
def tbad (tag : Nat → ByteArray) (i : Nat) : Int := if nameB (tag i) = true then (if i = 0 then 0 else if leS (tag i) (tag (i - 1)) = true then 5 else 0) else 3
def pbad (who : Nat → Int) (i : Nat) : Int := if 1 ≤ who i ∧ who i ≤ 1000000 then (if i = 0 then 0 else if who i ≤ who (i - 1) then 5 else 0) else 2
def scan (bad : Nat → Int) : Nat → Nat → Int
 | _, 0 => 0
 | i, k + 1 => if bad i = 0 then scan bad (i + 1) k else bad i
theorem scan_ok {bad : Nat → Int} {i k : Nat} (h : bad i = 0) : scan bad i (k + 1) = scan bad (i + 1) k := by rw [scan, if_pos h]
theorem scan_bad {bad : Nat → Int} {i k : Nat} (h : bad i ≠ 0) : scan bad i (k + 1) = bad i := by rw [scan, if_neg h]
theorem scan_here {bad : Nat → Int} {n j : Nat} {q e : Int} (h : scan bad j (n - j) = q) (hj : j < n) (hb : bad j = e) (he : e ≠ 0) : e = q := by
 rw [show n - j = (n - j - 1) + 1 by omega, scan_bad (by rw [hb]; exact he), hb] at h; exact h
theorem scan_next {bad : Nat → Int} {n j : Nat} {q : Int} (h : scan bad j (n - j) = q) (hj : j < n) (hb : bad j = 0) : scan bad (j + 1) (n - (j + 1)) = q := by
 rw [show n - j = (n - (j + 1)) + 1 by omega, scan_ok hb] at h; exact h
theorem scan_end {bad : Nat → Int} {n : Nat} {q : Int} (h : scan bad n (n - n) = q) : q = 0 := by rw [Nat.sub_self] at h; exact h.symm
theorem tbad_name {tag : Nat → ByteArray} {i : Nat} (h : nameB (tag i) = false) : tbad tag i = 3 := by unfold tbad; rw [if_neg (by rw [h]; simp)]
theorem tbad_first {tag : Nat → ByteArray} {i : Nat} (h : nameB (tag i) = true) (h0 : i = 0) : tbad tag i = 0 := by unfold tbad; rw [if_pos h, if_pos h0]
theorem tbad_ord {tag : Nat → ByteArray} {i : Nat} (h : nameB (tag i) = true) (h0 : i ≠ 0) (g : leS (tag i) (tag (i - 1)) = true) : tbad tag i = 5 := by unfold tbad; rw [if_pos h, if_neg h0, if_pos g]
theorem tbad_ok {tag : Nat → ByteArray} {i : Nat} (h : nameB (tag i) = true) (h0 : i ≠ 0) (g : leS (tag i) (tag (i - 1)) = false) : tbad tag i = 0 := by unfold tbad; rw [if_pos h, if_neg h0, if_neg (by rw [g]; simp)]
theorem pbad_out {who : Nat → Int} {i : Nat} (h : decide (1 ≤ who i ∧ who i ≤ 1000000) = false) : pbad who i = 2 := by unfold pbad; rw [if_neg (of_decide_eq_false h)]
theorem pbad_first {who : Nat → Int} {i : Nat} (h : decide (1 ≤ who i ∧ who i ≤ 1000000) = true) (h0 : i = 0) : pbad who i = 0 := by unfold pbad; rw [if_pos (of_decide_eq_true h), if_pos h0]
theorem pbad_ord {who : Nat → Int} {i : Nat} (h : decide (1 ≤ who i ∧ who i ≤ 1000000) = true) (h0 : i ≠ 0) (g : who i ≤ who (i - 1)) : pbad who i = 5 := by unfold pbad; rw [if_pos (of_decide_eq_true h), if_neg h0, if_pos g]
theorem pbad_ok {who : Nat → Int} {i : Nat} (h : decide (1 ≤ who i ∧ who i ≤ 1000000) = true) (h0 : i ≠ 0) (g : ¬ who i ≤ who (i - 1)) : pbad who i = 0 := by unfold pbad; rw [if_pos (of_decide_eq_true h), if_neg h0, if_neg g]
theorem shapeB_no {W H t s : Int} (h : decide (1 ≤ W ∧ W ≤ 100000) = false ∨ decide (1 ≤ H ∧ H ≤ 100000) = false ∨ decide (1 ≤ t ∧ t ≤ 8) = false ∨ decide (0 ≤ s ∧ s ≤ 5) = false) : shapeB W H t s = false := by
 unfold shapeB
 rw [decide_eq_false_iff_not]
 rintro ⟨g1, g2, g3, g4⟩
 rcases h with h | h | h | h
 ·exact of_decide_eq_false h g1
 ·exact of_decide_eq_false h g2
 ·exact of_decide_eq_false h g3
 ·exact of_decide_eq_false h g4
theorem shapeB_yes {W H t s : Int} (h1 : decide (1 ≤ W ∧ W ≤ 100000) = true) (h2 : decide (1 ≤ H ∧ H ≤ 100000) = true) (h3 : decide (1 ≤ t ∧ t ≤ 8) = true) (h4 : decide (0 ≤ s ∧ s ≤ 5) = true) : shapeB W H t s = true :=
 decide_eq_true ⟨of_decide_eq_true h1, of_decide_eq_true h2, of_decide_eq_true h3, of_decide_eq_true h4⟩
theorem places_next {lat lon : Nat → Int} {j : Nat} (h : ∀ k, k < j → placeB (lat k) (lon k) = true) (g : placeB (lat j) (lon j) = true) : ∀ k, k < j + 1 → placeB (lat k) (lon k) = true := by
 intro k hk
 by_cases e : k = j
 ·subst e; exact g
 ·exact h k (by omega)
end Fd
def Ph.words (p : Ph) : Int :=
 if 20 < p.tn then 4 else if Fd.scan (Fd.tbad p.tag) 0 p.tn = 0 then (if 200 < p.cap.size then 4 else if Fd.plainB p.cap = true then (if 20 < p.pn then 4 else Fd.scan (Fd.pbad p.who) 0 p.pn) else 9) else Fd.scan (Fd.tbad p.tag) 0 p.tn
def Ph.err (p : Ph) : Int :=
 if decide (1 ≤ p.id ∧ p.id ≤ 1000000) = true then (if Fd.fileB p.file = true then (if Fd.whenB p.mom p.zone = true then (if 1 < p.wn then 1 else if p.wn = 1 ∧ Fd.placeB (p.lat 0) (p.lon 0) = false then 2 else if Fd.shapeB p.W p.H p.turn p.stars = true then p.words else 2) else 2) else 1) else 2
end Go.Proofs.YtmpjnbhdlfneaaaGreatDoor
namespace Go.Proofs.YtmpjnbhdlfneaaaGreatDoor.Zn
def zok (o : Int) : Bool := decide (-840 ≤ o ∧ o ≤ 840)
theorem zok_iff (o : Int) : zok o = true ↔ -840 ≤ o ∧ o ≤ 840 := by simp [zok]
theorem zok_no (o : Int) : zok o = false ↔ o < -840 ∨ 840 < o := by simp only [zok, decide_eq_false_iff_not]; omega
def bad (F O : Nat → Int) (i : Nat) : Int :=
 if Ev.mom (F i) = true ∧ zok (O i) = true then (if i = 0 then 0 else if F i ≤ F (i - 1) then 5 else 0) else 2
def scan (F O : Nat → Int) : Nat → Nat → Int
 | _, 0 => 0
 | i, k + 1 => if bad F O i = 0 then scan F O (i + 1) k else bad F O i
def err (f : Int) (F O : Nat → Int) (n : Nat) : Int := if 200 < n then 4 else if zok f = true then scan F O 0 n else 2
theorem scan_ok {F O : Nat → Int} {i k : Nat} (h : bad F O i = 0) : scan F O i (k + 1) = scan F O (i + 1) k := by rw [scan, if_pos h]
theorem scan_bad {F O : Nat → Int} {i k : Nat} (h : bad F O i ≠ 0) : scan F O i (k + 1) = bad F O i := by rw [scan, if_neg h]
theorem scan_here {F O : Nat → Int} {n j : Nat} {q e : Int} (h : scan F O j (n - j) = q) (hj : j < n) (hb : bad F O j = e) (he : e ≠ 0) : e = q := by
 rw [show n - j = (n - j - 1) + 1 by omega, scan_bad (by rw [hb]; exact he), hb] at h; exact h
theorem scan_next {F O : Nat → Int} {n j : Nat} {q : Int} (h : scan F O j (n - j) = q) (hj : j < n) (hb : bad F O j = 0) : scan F O (j + 1) (n - (j + 1)) = q := by
 rw [show n - j = (n - (j + 1)) + 1 by omega, scan_ok hb] at h; exact h
structure Right (f : Int) (F O : Nat → Int) (n : Nat) : Prop where
 few : n ≤ 200
 first : -840 ≤ f ∧ f ≤ 840
 mom : ∀ i, i < n → (0 ≤ F i ∧ F i ≤ 6311433599) ∧ (-840 ≤ O i ∧ O i ≤ 840)
 up : ∀ i, i + 1 < n → F i < F (i + 1)
theorem Right.rise {f : Int} {F O : Nat → Int} {n : Nat} (h : Right f F O n) (i : Nat) : ∀ j, i < j → j < n → F i < F j := by
 intro j hij hj
 obtain ⟨k, rfl⟩ : ∃ k, j = i + 1 + k := ⟨j - i - 1, by omega⟩
 induction k with
 | zero => exact h.up i (by omega)
 | succ k ih => have := ih (by omega) (by omega); have := h.up (i + 1 + k) (by omega); rw [Nat.add_succ]; simp only [Nat.succ_eq_add_one]; omega
def at_ (f : Int) (F O : Nat → Int) (m : Int) : Nat → Int
 | 0 => f
 | k + 1 => if F k ≤ m then O k else at_ f F O m k
def frm (F : Nat → Int) (i : Nat) : Int := if i = 0 then 0 else F (i - 1)
def ofs (f : Int) (O : Nat → Int) (i : Nat) : Int := if i = 0 then f else O (i - 1)
def upto (F : Nat → Int) (n i : Nat) : Int := if i = n then 6311433599 else F i - 1
theorem frm_succ (F : Nat → Int) (i : Nat) : frm F (i + 1) = F i := by simp [frm]
theorem ofs_succ (f : Int) (O : Nat → Int) (i : Nat) : ofs f O (i + 1) = O i := by simp [ofs]
theorem at_later {f : Int} {F O : Nat → Int} {n : Nat} (h : Right f F O n) (m : Int) (i : Nat) (hm : i < n → m < F i) : ∀ k, i ≤ k → k ≤ n → at_ f F O m k = at_ f F O m i := by
 intro k hik
 obtain ⟨d, rfl⟩ : ∃ d, k = i + d := ⟨k - i, by omega⟩
 clear hik
 induction d with
 | zero => intro _; rfl
 | succ d ih =>
   intro hk
   have e := ih (by omega)
   have h1 := hm (by omega)
   have h2 : m < F (i + d) := by
    by_cases d0 : d = 0
    ·subst d0; exact h1
    ·have := h.rise i (i + d) (by omega) (by omega); omega
   rw [show i + (d + 1) = i + d + 1 by omega, at_, if_neg (by omega), e]
theorem at_in {f : Int} {F O : Nat → Int} {n : Nat} (h : Right f F O n) (m : Int) (i : Nat) (hi : i ≤ n) (h1 : frm F i ≤ m) (h2 : i < n → m < F i) : at_ f F O m n = ofs f O i := by
 rw [at_later h m i h2 n hi (Nat.le_refl _)]
 cases i with
 | zero => rfl
 | succ i => rw [frm_succ] at h1; rw [ofs_succ, at_, if_pos h1]
def pcs (f : Int) (F O : Nat → Int) (k : Nat) : List (Int × Int × Int) := ((List.range k).filter fun i => decide (frm F i < F i)).map fun i => (frm F i, F i - 1, ofs f O i)
def all (f : Int) (F O : Nat → Int) (n : Nat) : List (Int × Int × Int) := pcs f F O n ++ [(frm F n, 6311433599, ofs f O n)]
def Piece (f : Int) (F O : Nat → Int) (n : Nat) (x : Int × Int × Int) : Prop := ∃ i, i ≤ n ∧ (i < n → frm F i < F i) ∧ x = (frm F i, upto F n i, ofs f O i)
theorem Piece.at_ {f : Int} {F O : Nat → Int} {n : Nat} {x : Int × Int × Int} (h : Right f F O n) (hp : Piece f F O n x) (m : Int) (h1 : x.1 ≤ m) (h2 : m ≤ x.2.1) : at_ f F O m n = x.2.2 := by
 obtain ⟨i, hi, hl, rfl⟩ := hp
 refine at_in h m i hi h1 fun hn => ?_
 have : m ≤ upto F n i := h2
 unfold upto at this; rw [if_neg (by omega)] at this; omega
def hit (l : Int) (x : Int × Int × Int) : Bool := decide (x.1 ≤ l - 60 * x.2.2 ∧ l - 60 * x.2.2 ≤ x.2.1)
def seen (f : Int) (F O : Nat → Int) (n : Nat) (l o : Int) : Bool := Ev.mom (l - 60 * o) && decide (at_ f F O (l - 60 * o) n = o)
end Go.Proofs.YtmpjnbhdlfneaaaGreatDoor.Zn
namespace Go.Proofs.YtmpjnbhdlfneaaaGreatDoor
open Go.RowKit Go.Sort Go.Shelf
theorem zoned_is (o : Int) (b : Bool) (h : Zn.zok o = b) (w : World) : Calls Tryz.prog 34 #[.int .i64 o] w fun e w' => e = .returned (.bool b) ∧ w = w' := by
 cases b
 ·have h' := (Zn.zok_no o).1 h
  clear h
  by_cases c : -840 ≤ o
  ·go_enter Tryz.func34, Tryz.ntmps34
   go_wp2_with fail
   go_ret
   exact ⟨ret_bool (by simp <;> omega), rfl⟩
  ·go_enter Tryz.func34, Tryz.ntmps34
   go_wp2_with fail
   go_ret
   exact ⟨ret_bool (by simp <;> omega), rfl⟩
 ·have h' := (Zn.zok_iff o).1 h
  clear h
  go_enter Tryz.func34, Tryz.ntmps34
  go_wp2_with fail
  go_ret
  exact ⟨ret_bool (by simp <;> omega), rfl⟩
theorem localP_is (p : Ph) (w : World) (hm : 0 ≤ p.mom ∧ p.mom ≤ 6311433599) (hz : -840 ≤ p.zone ∧ p.zone ≤ 840) : Calls Tryz.prog 83 #[.agg #[.int .i64 p.id, .string p.file, .int .i64 p.mom, .int .i64 p.zone, .slice p.wa p.wn p.wc, .int .i64 p.W, .int .i64 p.H, .int .i64 p.turn, .int .i64 p.stars, .slice p.ta p.tn p.tc, .string p.cap, .slice p.pa p.pn p.pc, .bool p.hid]] w fun e w' => e = .returned (.int .i64 (p.mom + 60 * p.zone)) ∧ Below w.heap.size w w' := by
 obtain ⟨W1, hW1, hP, hz1, hB1⟩ := box w #[.int .i64 p.id, .string p.file, .int .i64 p.mom, .int .i64 p.zone, .slice p.wa p.wn p.wc, .int .i64 p.W, .int .i64 p.H, .int .i64 p.turn, .int .i64 p.stars, .slice p.ta p.tn p.tc, .string p.cap, .slice p.pa p.pn p.pc, .bool p.hid] 41
 have HW1 := Lib.hid hW1
 clear hW1 hz1
 obtain ⟨q0, q1, q2, q3, q4, q5, q6, q7, q8, q9, q10, q11, q12⟩ := hP.photo
 go_enter Tryz.func83, Tryz.ntmps83
 go_wp2_with fail
 rw [HW1.out]
 go_wp2_with fail
 go_ret
 exact ⟨rfl, hB1⟩
theorem checkWhen_is (p : Ph) (w : World) (b : Bool) (h : Fd.whenB p.mom p.zone = b) : Calls Tryz.prog 60 #[.agg #[.int .i64 p.id, .string p.file, .int .i64 p.mom, .int .i64 p.zone, .slice p.wa p.wn p.wc, .int .i64 p.W, .int .i64 p.H, .int .i64 p.turn, .int .i64 p.stars, .slice p.ta p.tn p.tc, .string p.cap, .slice p.pa p.pn p.pc, .bool p.hid]] w fun e w' => e = .returned (.int .i64 (if b = true then 0 else 2)) ∧ Below w.heap.size w w' := by
 obtain ⟨W1, hW1, hP, hz1, hB1⟩ := box w #[.int .i64 p.id, .string p.file, .int .i64 p.mom, .int .i64 p.zone, .slice p.wa p.wn p.wc, .int .i64 p.W, .int .i64 p.H, .int .i64 p.turn, .int .i64 p.stars, .slice p.ta p.tn p.tc, .string p.cap, .slice p.pa p.pn p.pc, .bool p.hid] 41
 have HW1 := Lib.hid hW1
 clear hW1 hz1
 obtain ⟨q0, q1, q2, q3, q4, q5, q6, q7, q8, q9, q10, q11, q12⟩ := hP.photo
 by_cases h1 : -1 ≤ p.mom ∧ p.mom ≤ 6311433599
 ·by_cases h2 : -840 ≤ p.zone ∧ p.zone ≤ 840
  ·have z1 := h2.1
   have z2 := h2.2
   have m2 := h1.2
   by_cases h3 : 0 ≤ p.mom
   ·by_cases h4 : 0 ≤ p.mom + 60 * p.zone ∧ p.mom + 60 * p.zone ≤ 6311433599
    ·obtain rfl : b = true := by rw [← h]; exact decide_eq_true ⟨h1, h2, fun _ => h4⟩
     rw [if_pos rfl]
     have H1 := Lib.hid h1; have H2 := Lib.hid h2; have H4 := Lib.hid h4; have HH := Lib.hid h; clear h1 h2 h4 h
     go_enter Tryz.func60, Tryz.ntmps60
     go_wp2_with fail
     rw [HW1.out]
     go_wp2_with (first
      | (go_at_call 58; (with_reducible refine (outsideF_no p.mom (-1) 6311433599 _ H1.out).mono ?_); rintro e w2 ⟨rfl, rfl⟩)
      | (go_at_call 58; (with_reducible refine (outsideF_no p.zone (-840) 840 _ H2.out).mono ?_); rintro e w2 ⟨rfl, rfl⟩)
      | (go_at_call 83; refine (localP_is p _ ⟨h3, m2⟩ H2.out).mono ?_; rintro e w3 ⟨rfl, hB3⟩)
      | (go_at_call 58; (with_reducible refine (outsideF_no (p.mom + 60 * p.zone) 0 6311433599 _ H4.out).mono ?_); rintro e w2 ⟨rfl, rfl⟩))
     go_ret
     exact ⟨rfl, below_up hB1 hB3⟩
    ·obtain rfl : b = false := by rw [← h]; exact decide_eq_false fun g => h4 (g.2.2 h3)
     rw [if_neg (by simp)]
     have h5 : p.mom + 60 * p.zone < 0 ∨ 6311433599 < p.mom + 60 * p.zone := by omega
     have H1 := Lib.hid h1; have H2 := Lib.hid h2; have H4 := Lib.hid h5; have HH := Lib.hid h; clear h1 h2 h4 h5 h
     go_enter Tryz.func60, Tryz.ntmps60
     go_wp2_with fail
     rw [HW1.out]
     go_wp2_with (first
      | (go_at_call 58; (with_reducible refine (outsideF_no p.mom (-1) 6311433599 _ H1.out).mono ?_); rintro e w2 ⟨rfl, rfl⟩)
      | (go_at_call 58; (with_reducible refine (outsideF_no p.zone (-840) 840 _ H2.out).mono ?_); rintro e w2 ⟨rfl, rfl⟩)
      | (go_at_call 83; refine (localP_is p _ ⟨h3, m2⟩ H2.out).mono ?_; rintro e w3 ⟨rfl, hB3⟩)
      | (go_at_call 58; (with_reducible refine (outsideF_yes (p.mom + 60 * p.zone) 0 6311433599 _ H4.out).mono ?_); rintro e w2 ⟨rfl, rfl⟩))
     go_ret
     exact ⟨rfl, below_up hB1 hB3⟩
   ·obtain rfl : b = true := by rw [← h]; exact decide_eq_true ⟨h1, h2, fun g => absurd g h3⟩
    rw [if_pos rfl]
    have H1 := Lib.hid h1; have H2 := Lib.hid h2; have H4 := Lib.hid h1; have HH := Lib.hid h; clear h1 h2 h
    go_enter Tryz.func60, Tryz.ntmps60
    go_wp2_with fail
    rw [HW1.out]
    go_wp2_with (first
     | (go_at_call 58; (with_reducible refine (outsideF_no p.mom (-1) 6311433599 _ H1.out).mono ?_); rintro e w2 ⟨rfl, rfl⟩)
     | (go_at_call 58; (with_reducible refine (outsideF_no p.zone (-840) 840 _ H2.out).mono ?_); rintro e w2 ⟨rfl, rfl⟩)
     | (go_at_call 83; refine (localP_is p _ ⟨h3, m2⟩ H2.out).mono ?_; rintro e w3 ⟨rfl, hB3⟩)
     | (go_at_call 58; (with_reducible refine (outsideF_no (p.mom + 60 * p.zone) 0 6311433599 _ H4.out).mono ?_); rintro e w2 ⟨rfl, rfl⟩))
    go_ret
    exact ⟨rfl, hB1⟩
  ·obtain rfl : b = false := by rw [← h]; exact decide_eq_false fun g => h2 g.2.1
   rw [if_neg (by simp)]
   have h5 : p.zone < -840 ∨ 840 < p.zone := by omega
   have H1 := Lib.hid h1; have H2 := Lib.hid h5; have H4 := Lib.hid h1; have HH := Lib.hid h; clear h1 h2 h5 h
   go_enter Tryz.func60, Tryz.ntmps60
   go_wp2_with fail
   rw [HW1.out]
   go_wp2_with (first
    | (go_at_call 58; (with_reducible refine (outsideF_no p.mom (-1) 6311433599 _ H1.out).mono ?_); rintro e w2 ⟨rfl, rfl⟩)
    | (go_at_call 58; (with_reducible refine (outsideF_yes p.zone (-840) 840 _ H2.out).mono ?_); rintro e w2 ⟨rfl, rfl⟩)
    | (go_at_call 83; refine (localP_is p _ H1.out H2.out).mono ?_; rintro e w3 ⟨rfl, hB3⟩)
    | (go_at_call 58; (with_reducible refine (outsideF_no (p.mom + 60 * p.zone) 0 6311433599 _ H4.out).mono ?_); rintro e w2 ⟨rfl, rfl⟩))
   go_ret
   exact ⟨rfl, hB1⟩
 ·obtain rfl : b = false := by rw [← h]; exact decide_eq_false fun g => h1 g.1
  rw [if_neg (by simp)]
  have h5 : p.mom < -1 ∨ 6311433599 < p.mom := by omega
  have H1 := Lib.hid h5; have H2 := Lib.hid h5; have H4 := Lib.hid h1; have HH := Lib.hid h; clear h1 h5 h
  go_enter Tryz.func60, Tryz.ntmps60
  go_wp2_with fail
  rw [HW1.out]
  go_wp2_with (first
   | (go_at_call 58; (with_reducible refine (outsideF_yes p.mom (-1) 6311433599 _ H1.out).mono ?_); rintro e w2 ⟨rfl, rfl⟩)
   | (go_at_call 58; (with_reducible refine (outsideF_yes p.zone (-840) 840 _ H2.out).mono ?_); rintro e w2 ⟨rfl, rfl⟩)
   | (go_at_call 83; refine (localP_is p _ H1.out H2.out).mono ?_; rintro e w3 ⟨rfl, hB3⟩)
   | (go_at_call 58; (with_reducible refine (outsideF_no (p.mom + 60 * p.zone) 0 6311433599 _ H4.out).mono ?_); rintro e w2 ⟨rfl, rfl⟩))
  go_ret
  exact ⟨rfl, hB1⟩
theorem checkPlace_is (a o : Int) (w : World) (b : Bool) (h : Fd.placeB a o = b) : Calls Tryz.prog 61 #[.agg #[.int .i64 a, .int .i64 o]] w fun e w' => e = .returned (.int .i64 (if b = true then 0 else 2)) ∧ Below w.heap.size w w' := by
 cases h1 : decide (-90000000 ≤ a ∧ a ≤ 90000000)
 ·obtain rfl : b = false := by rw [← h]; exact decide_eq_false fun g => of_decide_eq_false h1 g.1
  rw [if_neg (by simp)]
  have H1 := Lib.hid h1; clear h1 h
  obtain ⟨W1, hW1, hP, hz1, hB1⟩ := box w #[.int .i64 a, .int .i64 o] 59
  have HW1 := Lib.hid hW1
  clear hW1 hz1
  obtain ⟨q0, q1⟩ := hP.two
  go_enter Tryz.func61, Tryz.ntmps61
  go_wp2_with fail
  rw [HW1.out]
  go_wp2_with (first
   | (go_at_call 58; (with_reducible refine (outsideF_is a (-90000000) 90000000 false H1.out _).mono ?_); rintro e w2 ⟨rfl, rfl⟩)
   | (go_at_call 58; (with_reducible refine (outsideF_is o (-180000000) 179999999 false H1.out _).mono ?_); rintro e w2 ⟨rfl, rfl⟩))
  go_ret
  exact ⟨rfl, hB1⟩
 ·cases h2 : decide (-180000000 ≤ o ∧ o ≤ 179999999)
  ·obtain rfl : b = false := by rw [← h]; exact decide_eq_false fun g => of_decide_eq_false h2 g.2
   rw [if_neg (by simp)]
   have H1 := Lib.hid h1; have H2 := Lib.hid h2; clear h1 h2 h
   obtain ⟨W1, hW1, hP, hz1, hB1⟩ := box w #[.int .i64 a, .int .i64 o] 59
   have HW1 := Lib.hid hW1
   clear hW1 hz1
   obtain ⟨q0, q1⟩ := hP.two
   go_enter Tryz.func61, Tryz.ntmps61
   go_wp2_with fail
   rw [HW1.out]
   go_wp2_with (first
    | (go_at_call 58; (with_reducible refine (outsideF_is a (-90000000) 90000000 true H1.out _).mono ?_); rintro e w2 ⟨rfl, rfl⟩)
    | (go_at_call 58; (with_reducible refine (outsideF_is o (-180000000) 179999999 false H2.out _).mono ?_); rintro e w2 ⟨rfl, rfl⟩))
   go_ret
   exact ⟨rfl, hB1⟩
  ·obtain rfl : b = true := by rw [← h]; exact decide_eq_true ⟨of_decide_eq_true h1, of_decide_eq_true h2⟩
   rw [if_pos rfl]
   have H1 := Lib.hid h1; have H2 := Lib.hid h2; clear h1 h2 h
   obtain ⟨W1, hW1, hP, hz1, hB1⟩ := box w #[.int .i64 a, .int .i64 o] 59
   have HW1 := Lib.hid hW1
   clear hW1 hz1
   obtain ⟨q0, q1⟩ := hP.two
   go_enter Tryz.func61, Tryz.ntmps61
   go_wp2_with fail
   rw [HW1.out]
   go_wp2_with (first
    | (go_at_call 58; (with_reducible refine (outsideF_is a (-90000000) 90000000 true H1.out _).mono ?_); rintro e w2 ⟨rfl, rfl⟩)
    | (go_at_call 58; (with_reducible refine (outsideF_is o (-180000000) 179999999 true H2.out _).mono ?_); rintro e w2 ⟨rfl, rfl⟩))
   go_ret
   exact ⟨rfl, hB1⟩
theorem placed_is (a o : Int) (w : World) (b : Bool) (h : Fd.placeB a o = b) : Calls Tryz.prog 36 #[.agg #[.int .i64 a, .int .i64 o]] w fun e w' => e = .returned (.bool b) ∧ Below w.heap.size w w' := by
 cases h1 : decide (-90000000 ≤ a ∧ a ≤ 90000000)
 ·obtain rfl : b = false := by rw [← h]; exact decide_eq_false fun g => of_decide_eq_false h1 g.1
  have H1 := Lib.hid h1; clear h1 h
  obtain ⟨W1, hW1, hP, hz1, hB1⟩ := box w #[.int .i64 a, .int .i64 o] 59
  have HW1 := Lib.hid hW1
  clear hW1 hz1
  obtain ⟨q0, q1⟩ := hP.two
  go_enter Tryz.func36, Tryz.ntmps36
  go_wp2_with fail
  rw [HW1.out]
  go_wp2_with (first
   | (go_at_call 32; (with_reducible refine (in_is a (-90000000) 90000000 false H1.out _).mono ?_); rintro e w2 ⟨rfl, rfl⟩)
   | (go_at_call 32; (with_reducible refine (in_is o (-180000000) 179999999 false H1.out _).mono ?_); rintro e w2 ⟨rfl, rfl⟩))
  go_ret
  exact ⟨rfl, hB1⟩
 ·cases h2 : decide (-180000000 ≤ o ∧ o ≤ 179999999)
  ·obtain rfl : b = false := by rw [← h]; exact decide_eq_false fun g => of_decide_eq_false h2 g.2
   have H1 := Lib.hid h1; have H2 := Lib.hid h2; clear h1 h2 h
   obtain ⟨W1, hW1, hP, hz1, hB1⟩ := box w #[.int .i64 a, .int .i64 o] 59
   have HW1 := Lib.hid hW1
   clear hW1 hz1
   obtain ⟨q0, q1⟩ := hP.two
   go_enter Tryz.func36, Tryz.ntmps36
   go_wp2_with fail
   rw [HW1.out]
   go_wp2_with (first
    | (go_at_call 32; (with_reducible refine (in_is a (-90000000) 90000000 true H1.out _).mono ?_); rintro e w2 ⟨rfl, rfl⟩)
    | (go_at_call 32; (with_reducible refine (in_is o (-180000000) 179999999 false H2.out _).mono ?_); rintro e w2 ⟨rfl, rfl⟩))
   go_ret
   exact ⟨rfl, hB1⟩
  ·obtain rfl : b = true := by rw [← h]; exact decide_eq_true ⟨of_decide_eq_true h1, of_decide_eq_true h2⟩
   have H1 := Lib.hid h1; have H2 := Lib.hid h2; clear h1 h2 h
   obtain ⟨W1, hW1, hP, hz1, hB1⟩ := box w #[.int .i64 a, .int .i64 o] 59
   have HW1 := Lib.hid hW1
   clear hW1 hz1
   obtain ⟨q0, q1⟩ := hP.two
   go_enter Tryz.func36, Tryz.ntmps36
   go_wp2_with fail
   rw [HW1.out]
   go_wp2_with (first
    | (go_at_call 32; (with_reducible refine (in_is a (-90000000) 90000000 true H1.out _).mono ?_); rintro e w2 ⟨rfl, rfl⟩)
    | (go_at_call 32; (with_reducible refine (in_is o (-180000000) 179999999 true H2.out _).mono ?_); rintro e w2 ⟨rfl, rfl⟩))
   go_ret
   exact ⟨rfl, hB1⟩
theorem checkIds_is (a : Option Addr) (n ca : Nat) (who : Nat → Int) (w : World) (hr : Row w a n (fun i => .int .i64 (who i))) (hn : n ≤ 9223372036854775807) :
  Calls Tryz.prog 86 #[.slice a n ca] w fun e w' => e = .returned (.int .i64 (Fd.scan (Fd.pbad who) 0 n)) ∧ w = w' := by
 obtain ⟨q, hq⟩ : ∃ q, Fd.scan (Fd.pbad who) 0 n = q := ⟨_, rfl⟩
 rw [hq]
 have HR := Lib.hid hr; have HQ := Lib.hid hq; clear hr hq
 go_enter Tryz.func86, Tryz.ntmps86
 go_wp2_with fail
 go_loopg [7] n (fun gk i wr => ∃ j : Nat, j ≤ n ∧ gk = n - j ∧ i = .int .i64 j ∧ Fd.scan (Fd.pbad who) j (n - j) = q ∧ w = wr)
 case atStart => exact ⟨0, by omega, rfl, rfl, HQ.out, rfl⟩
 case round =>
  obtain ⟨j, hj, rfl, rfl, hsc, rfl⟩ := hrel
  have HSC := Lib.hid hsc; clear hsc
  by_cases hlt : j < n
  ·obtain ⟨b, off, rfl, hb, hcell⟩ := HR.out (by omega)
   have c0 : w.cell? ⟨b, off + j, none⟩ = some (.int .i64 (who j)) := hcell j hlt
   have hcell : ∀ i, i < n → w.cell? ⟨b, off + i, none⟩ = some (.int .i64 (who i)) := hcell
   have HC := Lib.hid hcell
   clear hcell
   have hcell := HC.out
   cases hin : decide (1 ≤ who j ∧ who j ≤ 1000000)
   ·have HIN := Lib.hid hin
    have HBAD := Lib.hid (id (Fd.scan_here HSC.out hlt (Fd.pbad_out hin) (by omega)))
    clear hin
    go_wp2_with (go_at_call 58; (with_reducible refine (outsideF_is (who j) 1 1000000 false HIN.out _).mono ?_); rintro e w2 ⟨rfl, rfl⟩)
    go_ret
    exact ⟨ret_int HBAD.out, rfl⟩
   ·have HIN := Lib.hid hin
    by_cases hj0 : j = 0
    ·have hj0' : decide ((0 : Int) < (j : Int)) = false := by simpa using hj0
     have hj0'' : ((0 : Int) < (j : Int)) = False := by simpa using hj0
     have hj0n : (0 < j) = False := by simpa using hj0
     have HBAD := Lib.hid (Fd.scan_next HSC.out hlt (Fd.pbad_first hin hj0))
     clear hin hj0
     go_wp2_with (go_at_call 58; (with_reducible refine (outsideF_is (who j) 1 1000000 true HIN.out _).mono ?_); rintro e w2 ⟨rfl, rfl⟩)
     go_roundg (n - (j + 1))
     case rel => exact ⟨j + 1, by omega, rfl, by go_num, HBAD.out, rfl⟩
     case measure => omega
    ·have hj1 : 1 ≤ j := by omega
     have hj0' : decide ((0 : Int) < (j : Int)) = true := by simp; omega
     have hj0n : 0 < j := by omega
     have d0 := hcell (j - 1) (by omega)
     have hi0 : (0 : Int) ≤ (j : Int) - 1 := by omega
     have hi1 : (j : Int) - 1 < (n : Int) := by omega
     by_cases ho : who j ≤ who (j - 1)
     ·have HBAD := Lib.hid (id (Fd.scan_here HSC.out hlt (Fd.pbad_ord hin hj0 ho) (by omega)))
      clear hin hj0
      go_wp2_with (go_at_call 58; (with_reducible refine (outsideF_is (who j) 1 1000000 true HIN.out _).mono ?_); rintro e w2 ⟨rfl, rfl⟩)
      go_ret
      exact ⟨ret_int HBAD.out, rfl⟩
     ·have HBAD := Lib.hid (Fd.scan_next HSC.out hlt (Fd.pbad_ok hin hj0 ho))
      have ho' : who (j - 1) < who j := by omega
      clear hin hj0 ho
      go_wp2_with (go_at_call 58; (with_reducible refine (outsideF_is (who j) 1 1000000 true HIN.out _).mono ?_); rintro e w2 ⟨rfl, rfl⟩)
      go_roundg (n - (j + 1))
      case rel => exact ⟨j + 1, by omega, rfl, by go_num, HBAD.out, rfl⟩
      case measure => omega
  ·obtain rfl : j = n := by omega
   go_wp2_with fail
   go_ret
   exact ⟨ret_int (Fd.scan_end HSC.out).symm, rfl⟩
theorem checkWords_is (p : Ph) (w : World) (hI : p.In w) (hF : p.Fits) : Calls Tryz.prog 62 #[.agg #[.int .i64 p.id, .string p.file, .int .i64 p.mom, .int .i64 p.zone, .slice p.wa p.wn p.wc, .int .i64 p.W, .int .i64 p.H, .int .i64 p.turn, .int .i64 p.stars, .slice p.ta p.tn p.tc, .string p.cap, .slice p.pa p.pn p.pc, .bool p.hid]] w fun e w' => e = .returned (.int .i64 p.words) ∧ Below w.heap.size w w' := by
 obtain ⟨W1, hW1, hP, hz1, hB1⟩ := box w #[.int .i64 p.id, .string p.file, .int .i64 p.mom, .int .i64 p.zone, .slice p.wa p.wn p.wc, .int .i64 p.W, .int .i64 p.H, .int .i64 p.turn, .int .i64 p.stars, .slice p.ta p.tn p.tc, .string p.cap, .slice p.pa p.pn p.pc, .bool p.hid] 41
 have HW1 := Lib.hid hW1
 clear hW1 hz1
 obtain ⟨q0, q1, q2, q3, q4, q5, q6, q7, q8, q9, q10, q11, q12⟩ := hP.photo
 have hI := hI.keep hB1
 have HTG := Lib.hid hI.tags
 have HTS := Lib.hid hF.tag
 have HID := Lib.hid (fun W (hB : Below W1.heap.size W1 W) => checkIds_is p.pa p.pn p.pc p.who W (hI.keep hB).people hF.pn)
 have hbt := hF.tn; have hbp := hF.pn; have hbc := hF.cap
 obtain ⟨b, hb⟩ : ∃ b, Fd.plainB p.cap = b := ⟨_, rfl⟩
 have HLOW := Lib.hid (fun W => low_is p.cap hF.cap b hb W)
 obtain ⟨q, hq⟩ : ∃ q, p.words = q := ⟨_, rfl⟩
 rw [hq]
 unfold Ph.words at hq
 rw [hb] at hq
 clear hI hF hb
 generalize p.ta = ta at *
 by_cases ht : 20 < p.tn
 ·rw [if_pos ht] at hq
  subst hq
  have ht' : (20 : Int) < (p.tn : Int) := by omega
  go_enter Tryz.func62, Tryz.ntmps62
  go_wp2_with fail
  rw [HW1.out]
  go_wp2_with fail
  go_ret
  exact ⟨rfl, hB1⟩
 ·rw [if_neg ht] at hq
  have ht' : ¬ (20 : Int) < (p.tn : Int) := by omega
  obtain ⟨s, hs⟩ : ∃ s, Fd.scan (Fd.tbad p.tag) 0 p.tn = s := ⟨_, rfl⟩
  rw [hs] at hq
  have HTO : Hid (∀ e : Int, e ≠ 0 → e = s → e = q) := by
   intro e h0 he
   subst he
   rw [if_neg h0] at hq
   exact hq
  have HS := Lib.hid hs; have HQ := Lib.hid hq; clear hs hq
  go_enter Tryz.func62, Tryz.ntmps62
  go_wp2_with fail
  rw [HW1.out]
  go_wp2_with fail
  go_loopg [12] p.tn (fun gk i wr => ∃ j : Nat, j ≤ p.tn ∧ gk = p.tn - j ∧ i = .int .i64 j ∧ Fd.scan (Fd.tbad p.tag) j (p.tn - j) = s ∧ W1 = wr)
  case atStart => exact ⟨0, by omega, rfl, rfl, HS.out, rfl⟩
  case round =>
   obtain ⟨j, hj, rfl, rfl, hsc, rfl⟩ := hrel
   have HSC := Lib.hid hsc; clear hsc
   by_cases hlt : j < p.tn
   ·obtain ⟨b1, off, rfl, hb1, hcell⟩ := HTG.out (by omega)
    have hcell : ∀ i, i < p.tn → W1.cell? ⟨b1, off + i, none⟩ = some (.string (p.tag i)) := hcell
    have c0 := hcell j hlt
    have HC := Lib.hid hcell
    clear hcell
    have hcell := HC.out
    cases hin : Fd.nameB (p.tag j)
    ·have HIN := Lib.hid hin
     have HBAD := Lib.hid (HTO.out _ (by omega) (Fd.scan_here HSC.out hlt (Fd.tbad_name hin) (by omega)))
     clear hin
     go_wp2_with (go_at_call 84; (with_reducible refine (isNameW_is (p.tag j) (HTS.out j hlt) false HIN.out _).mono ?_); rintro e w2 ⟨rfl, rfl⟩)
     go_ret
     exact ⟨ret_int HBAD.out, hB1⟩
    ·have HIN := Lib.hid hin
     by_cases hj0 : j = 0
     ·have hj0' : decide ((0 : Int) < (j : Int)) = false := by simpa using hj0
      have hj0'' : ((0 : Int) < (j : Int)) = False := by simpa using hj0
      have hj0n : (0 < j) = False := by simpa using hj0
      have HBAD := Lib.hid (Fd.scan_next HSC.out hlt (Fd.tbad_first hin hj0))
      clear hin hj0
      go_wp2_with (go_at_call 84; (with_reducible refine (isNameW_is (p.tag j) (HTS.out j hlt) true HIN.out _).mono ?_); rintro e w2 ⟨rfl, rfl⟩)
      go_roundg (p.tn - (j + 1))
      case rel => exact ⟨j + 1, by omega, rfl, by go_num, HBAD.out, rfl⟩
      case measure => omega
     ·have hj1 : 1 ≤ j := by omega
      have hj0' : decide ((0 : Int) < (j : Int)) = true := by simp; omega
      have hj0n : 0 < j := by omega
      have d0 := hcell (j - 1) (by omega)
      have hi0 : (0 : Int) ≤ (j : Int) - 1 := by omega
      have hi1 : (j : Int) - 1 < (p.tn : Int) := by omega
      cases ho : Fd.leS (p.tag j) (p.tag (j - 1))
      ·have HBAD := Lib.hid (Fd.scan_next HSC.out hlt (Fd.tbad_ok hin hj0 ho))
       unfold Fd.leS at ho
       clear hin hj0
       go_wp2_with (go_at_call 84; (with_reducible refine (isNameW_is (p.tag j) (HTS.out j hlt) true HIN.out _).mono ?_); rintro e w2 ⟨rfl, rfl⟩)
       go_roundg (p.tn - (j + 1))
       case rel => exact ⟨j + 1, by omega, rfl, by go_num, HBAD.out, rfl⟩
       case measure => omega
      ·have HBAD := Lib.hid (HTO.out _ (by omega) (Fd.scan_here HSC.out hlt (Fd.tbad_ord hin hj0 ho) (by omega)))
       unfold Fd.leS at ho
       clear hin hj0
       go_wp2_with (go_at_call 84; (with_reducible refine (isNameW_is (p.tag j) (HTS.out j hlt) true HIN.out _).mono ?_); rintro e w2 ⟨rfl, rfl⟩)
       go_ret
       exact ⟨ret_int HBAD.out, hB1⟩
   ·obtain rfl : j = p.tn := by omega
    have hs0 := Fd.scan_end HSC.out
    have hq := HQ.out
    rw [if_pos hs0] at hq
    clear hs0
    by_cases hc : 200 < p.cap.size
    ·rw [if_pos hc] at hq
     have hc' : (200 : Int) < (p.cap.size : Int) := by omega
     subst hq
     go_wp2_with fail
     go_ret
     exact ⟨rfl, hB1⟩
    ·rw [if_neg hc] at hq
     have hc' : ¬ (200 : Int) < (p.cap.size : Int) := by omega
     cases b
     ·rw [if_neg (by simp)] at hq
      subst hq
      go_wp2_with (go_at_call 85; refine (HLOW.out _).mono ?_; rintro e w3 ⟨rfl, hB3⟩)
      go_ret
      exact ⟨rfl, below_up hB1 hB3⟩
     ·rw [if_pos rfl] at hq
      by_cases hn : 20 < p.pn
      ·rw [if_pos hn] at hq
       have hn' : (20 : Int) < (p.pn : Int) := by omega
       subst hq
       go_wp2_with (go_at_call 85; refine (HLOW.out _).mono ?_; rintro e w3 ⟨rfl, hB3⟩; obtain ⟨t0, t1, t2, t3, t4, t5, t6, t7, t8, t9, t10, t11, t12⟩ := (hP.keep hB3).photo)
       go_ret
       exact ⟨rfl, below_up hB1 hB3⟩
      ·rw [if_neg hn] at hq
       have hn' : ¬ (20 : Int) < (p.pn : Int) := by omega
       have HQ2 := Lib.hid hq; clear hq
       go_wp2_with (first
        | (go_at_call 85; refine (HLOW.out _).mono ?_; rintro e w3 ⟨rfl, hB3⟩; obtain ⟨t0, t1, t2, t3, t4, t5, t6, t7, t8, t9, t10, t11, t12⟩ := (hP.keep hB3).photo)
        | (go_at_call 86; refine (HID.out _ hB3).mono ?_; rintro e w4 ⟨rfl, rfl⟩))
       go_ret
       exact ⟨ret_int HQ2.out, below_up hB1 hB3⟩
end Go.Proofs.YtmpjnbhdlfneaaaGreatDoor
